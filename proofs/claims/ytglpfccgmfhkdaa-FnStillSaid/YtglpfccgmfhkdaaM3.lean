/- The machine, part A: kinds of values, values told by their kinds, trees of conditions. -/
import Derived.Test.YtglpfccgmfhkdaaM2
set_option linter.unusedVariables false
namespace Go.Proofs.Ytglpfccgmfhkdaa.Fw
open Go
inductive bJ where
 | int | u64 | u8 | bool | str | bj | ki | dt | fT | gM | held | frame | done | fault | stays | dd | unit | nat
 | l (e:bJ)
 | ptr (e:bJ)
 | ik (f:Nat) (e:bJ)
 deriving DecidableEq,Inhabited
@[reducible] def bJ.T:bJ→Type
 | .int=>Int
 | .u64=>Int
 | .u8=>UInt8
 | .bool=>Bool
 | .str=>ByteArray
 | .bj=>cv
 | .ki=>Way
 | .dt=>az
 | .fT=>Event
 | .gM=>a8
 | .held=>ad
 | .frame=>Frame
 | .done=>fK
 | .fault=>jp
 | .stays=>ny
 | .dd=>bc
 | .unit=>Unit
 | .nat=>Nat
 | .l e=>List e.T
 | .ptr e=>e.T
 | .ik _ e=>e.T
@[reducible] def bJ.uK:(e:bJ)→Inhabited e.T
 | .int=>inferInstanceAs (Inhabited Int)
 | .u64=>inferInstanceAs (Inhabited Int)
 | .u8=>inferInstanceAs (Inhabited UInt8)
 | .bool=>inferInstanceAs (Inhabited Bool)
 | .str=>inferInstanceAs (Inhabited ByteArray)
 | .bj=>inferInstanceAs (Inhabited cv)
 | .ki=>inferInstanceAs (Inhabited Way)
 | .dt=>inferInstanceAs (Inhabited az)
 | .fT=>inferInstanceAs (Inhabited Event)
 | .gM=>inferInstanceAs (Inhabited a8)
 | .held=>inferInstanceAs (Inhabited ad)
 | .frame=>inferInstanceAs (Inhabited Frame)
 | .done=>inferInstanceAs (Inhabited fK)
 | .fault=>inferInstanceAs (Inhabited jp)
 | .stays=>inferInstanceAs (Inhabited ny)
 | .dd=>inferInstanceAs (Inhabited bc)
 | .unit=>inferInstanceAs (Inhabited Unit)
 | .nat=>inferInstanceAs (Inhabited Nat)
 | .l e=>inferInstanceAs (Inhabited (List e.T))
 | .ptr e=>e.uK
 | .ik _ e=>e.uK
def tf (e:bJ) (xs:List e.T) (i:Int):e.T:= @nth e.T e.uK xs i
def c8:List bJ→Type
 | []=>Unit
 | e::r=>e.T×c8 r
def bJ.kT:bJ→List bJ
 | .bj=>[.int,.int]
 | .ki=>[.l .int,.l .bj,.l .bj,.l .int,.l .int]
 | .dt=>[.int,.l .int,.l .ki,.l (.l .bool),.int]
 | .fT=>[.int,.int,.int]
 | .gM=>[.int,.int]
 | .held=>[.int,.int,.l .bool,.bool,.int]
 | .frame=>[.bool,.l .bool,.l .gM,.l .held]
 | .done=>[.int,.bool,.l .bool,.l .gM,.l .held]
 | .fault=>[.int,.int]
 | .stays=>[.l .int,.l .int,.l .int]
 | .dd=>[.l .u8,.int,.u64]
 | e=>[e]
def bJ.isS:bJ→Bool
 | .bj | .ki | .dt | .fT | .gM | .held | .frame | .done | .fault | .stays | .dd=>true
 | _=>false
def bJ.mk:(e:bJ)→c8 e.kT→e.T
 | .bj,(a,b,_)=>⟨a,b⟩
 | .ki,(a,b,c,d,e,_)=>⟨a,b,c,d,e⟩
 | .dt,(a,b,c,d,e,_)=>⟨a,b,c,d,e⟩
 | .fT,(a,b,c,_)=>⟨a,b,c⟩
 | .gM,(a,b,_)=>⟨a,b⟩
 | .held,(a,b,c,d,e,_)=>⟨a,b,c,d,e⟩
 | .frame,(a,b,c,d,_)=>⟨a,b,c,d⟩
 | .done,(a,b,c,d,e,_)=>⟨a,⟨b,c,d,e⟩⟩
 | .fault,(a,b,_)=>⟨a,b⟩
 | .stays,(a,b,c,_)=>⟨a,b,c⟩
 | .dd,(a,b,c,_)=>⟨a,b,c⟩
 | .int,(a,_)=>a
 | .u64,(a,_)=>a
 | .u8,(a,_)=>a
 | .bool,(a,_)=>a
 | .str,(a,_)=>a
 | .unit,(a,_)=>a
 | .nat,(a,_)=>a
 | .l _,(a,_)=>a
 | .ptr _,(a,_)=>a
 | .ik _ _,(a,_)=>a
def bJ.un:(e:bJ)→e.T→c8 e.kT
 | .bj,x=>(x.sw,x.bj,())
 | .ki,x=>(x.ai,x.aX,x.bx,x.cQ,x.cK,())
 | .dt,x=>(x.ai,x.a5,x.O,x.bW,x.dx,())
 | .fT,x=>(x.op,x.ah,x.bj,())
 | .gM,x=>(x.b5,x.aX,())
 | .held,x=>(x.aq,x.af,x.ac,x.ar,x.au,())
 | .frame,x=>(x.ok,x.aw,x.ap,x.O,())
 | .done,x=>(x.code,x.frame.ok,x.frame.aw,x.frame.ap,x.frame.O,())
 | .fault,x=>(x.code,x.pos,())
 | .stays,x=>(x.O,x.ai,x.ap,())
 | .dd,x=>(x.code,x.pos,x.tz,())
 | .int,x=>(x,())
 | .u64,x=>(x,())
 | .u8,x=>(x,())
 | .bool,x=>(x,())
 | .str,x=>(x,())
 | .unit,x=>(x,())
 | .nat,x=>(x,())
 | .l _,x=>(x,())
 | .ptr _,x=>(x,())
 | .ik _ _,x=>(x,())
theorem bJ.SP (e:bJ) (x:c8 e.kT):e.un (e.mk x)=x:=by cases e<;>rfl
def cd (fr:Bool):(e:bJ)→e.T→List AV
 | .int,x=>c_ x
 | .u64,x=>[.int .u64 x]
 | .u8,x=>qu x
 | .bool,x=>aY x
 | .str,x=>Eb x
 | .bj,x=>dn x
 | .ki,x=>dw fr x
 | .dt,x=>bg fr x
 | .fT,x=>ju x
 | .gM,x=>a7 x
 | .held,x=>dM fr x
 | .frame,x=>bZ fr x
 | .done,x=>sL fr x
 | .fault,x=>D9 x
 | .stays,x=>Ea fr x
 | .dd,x=>UZ fr x
 | .l e,x=>[.bC (x.map (cd false e)) false fr]
 | .unit,_ | .nat,_ | .ptr _,_ | .ik _ _,_=>[.undef]
def oR (fr:Bool):(e:bJ)→e.T→AV
 | .int,x=> .int .i64 x
 | .u64,x=> .int .u64 x
 | .u8,x=> .int .u8 x.toNat
 | .bool,x=> .bool x
 | .str,x=> .str x
 | .l e,x=> .bC (x.map (cd false e)) false fr
 | _,_=> .undef
def l1 (fr:Bool):(es:List bJ)→c8 es→List AV
 | [],_=>[]
 | e::r,x=>oR fr e x.1::l1 fr r x.2
theorem qw (fr:Bool) (e:bJ) (x:e.T):l1 fr e.kT (e.un x)=cd fr e x:=by
 cases e<;>first | rfl | (simp only[bJ.kT,bJ.un,l1,oR,cd];rfl)
def bJ.l_:bJ→Nat
 | .bj=>2
 | .ki=>5
 | .dt=>5
 | .fT=>3
 | .gM=>2
 | .held=>5
 | .frame=>4
 | .done=>5
 | .fault=>2
 | .stays=>3
 | .dd=>3
 | _=>1
theorem rJ (fr:Bool) (e:bJ) (x:e.T):(cd fr e x).length=e.l_:=by cases e<;>rfl
def bJ.o5:bJ→Bool
 | .unit | .nat | .ptr _ | .ik _ _=>false
 | _=>true
theorem U6 {fr:Bool} {e:bJ} (h:e.o5=true) (x:e.T):(cd fr e x).all jk=true:=by cases e<;>first | rfl | cases h
inductive eB where
 | t | f
 | v (b:Bool)
 | at(i:Nat) (b:Bool)
 | n (x:eB)
 | aF (x y:eB)
 | or (x y:eB)
 | ite (c x y:eB)
 deriving Inhabited
def eB.den:eB→Bool
 | .t=>true
 | .f=>false
 | .v b=>b
 | .at _ b=>b
 | .n x=> !x.den
 | .aF x y=>x.den&&y.den
 | .or x y=>x.den || y.den
 | .ite c x y=>bif c.den then x.den else y.den
def eB.not:eB→eB
 | .t=> .f
 | .f=> .t
 | x=> .n x
def eB.u2 (b x y:eB):eB:=match x with
 | .t=>(match y with
  | .t=> .t
  | .f=>b
  | y=> .or b y)
 | .f=>(match y with
  | .f=> .f
  | .t=> .n b
  | y=> .aF (.n b) y)
 | x=>(match y with
  | .f=> .aF b x
  | .t=> .or (.n b) x
  | y=> .ite b x y)
theorem eB.zv (b x y:eB):(eB.u2 b x y).den=bif b.den then x.den else y.den:=by
 cases x<;>cases y<;>simp only[eB.u2,eB.den]<;>cases b.den<;>simp
inductive TV where
 | u
 | i (k:IntKind) (n:Int)
 | b (x:eB)
 | s (x:ByteArray)
 | l (e:bJ) (xs:List e.T) (full fr:Bool)
 | nil (full fr:Bool)
 | ref (b g n:Nat) (full:Bool)
 | ptr (b g:Nat) (i:Int) (n col:Nat)
 | lp (t col:Nat)
 | dA (e:bJ) (x:e.T) (col:Nat)
 | agg (c:List TV)
 | tup (c:List TV)
 | fn (f:FuncId) (c:List TV)
 | o (a:AV)
 | blk (g:Nat) (e:bJ) (xs:List e.T) (n:Nat) (h:xs.length=n)
 | eN (g:Nat) (c:List TV)
 | kG (g m:Nat) (ids:List Nat)
 | g3 (V:List ad) (ids:List Nat) (n:Nat) (h:V.length=n)
 | new (id:Nat) (xs:List Bool)
 | wm (w:Int) (ids:List Nat) (m n:Nat)
 | wk (w:Int) (ids:List Nat) (m:Nat) (j:Int)
 | zp (id m n:Nat)
 deriving Inhabited
class FZ where
 ws:List ad
 bs:List (List Bool)
mutual
def TV.bE:TV→AV
 | .u=> .undef
 | .i k n=> .int k n
 | .b x=> .bool x.den
 | .s x=> .str x
 | .l e xs full fr=> .bC (xs.map (cd false e)) full fr
 | .nil full fr=> .bC [] full fr
 | .ref b g n full=> .ref b g 0 n full
 | .ptr b g i _ c=> .ptr b g i.toNat c
 | .lp t c=> .fH t c
 | .dA e x c=> .dA (cd false e x) c
 | .agg c=> .agg (cS c)
 | .tup c=> .tup (cS c)
 | .fn f c=> .fn f (cS c)
 | .o a=>a
 | .blk _ _ _ _ _=> .undef
 | .eN _ _=> .undef
 | .kG _ _ _=> .undef
 | .g3 _ _ _ _=> .undef
 | .new _ _=> .undef
 | .wm w ids m k=> .ref (nth ids w+m) 0 0 k false
 | .wk w ids m j=> .ptr (nth ids w+m) 0 j.toNat 0
 | .zp id m k=> .ref (id+m) 0 0 k false
def cS:List TV→List AV
 | []=>[]
 | x::r=>x.bE::cS r
end
theorem n7 (l:List TV):cS l=l.map TV.bE:=by
 induction l with
 | nil=>rfl
 | cons x r bQ=>rw[cS,bQ];rfl
def TV.en [Z:FZ]:TV→Blk
 | .blk g e xs _ _=>⟨g,e.l_,xs.map (cd true e)⟩
 | .eN g c=>⟨g,c.length,[cS c]⟩
 | .kG g m ids=>⟨g,5,a1 m Z.ws ids⟩
 | _=>⟨0,0,[]⟩
def z8 (fr:Bool):(e:bJ)→e.T→TV
 | .int,x=> .i .i64 x
 | .u64,x=> .i .u64 x
 | .u8,x=> .i .u8 x.toNat
 | .bool,x=> .b (.v x)
 | .str,x=> .s x
 | .l e,x=> .l e x false fr
 | _,_=> .u
def C8 (fr:Bool):(es:List bJ)→c8 es→List TV
 | [],_=>[]
 | e::r,x=>z8 fr e x.1::C8 fr r x.2
theorem Ji (fr:Bool) (e:bJ) (x:e.T):(z8 fr e x).bE=oR fr e x:=by cases e<;>rfl
theorem SK (fr:Bool): ∀(es:List bJ) (x:c8 es),cS (C8 fr es x)=l1 fr es x
 | [],_=>rfl
 | e::r,x=>by rw[C8,cS,l1,Ji,SK fr r]
def gJ (fr:Bool) (e:bJ) (x:e.T):List TV:=C8 fr e.kT (e.un x)
theorem vX (fr:Bool) (e:bJ) (x:e.T):cS (gJ fr e x)=cd fr e x:=by rw[gJ,SK,qw]
structure TS where
 T:List (Nat×TV)
 B:List (Nat×TV)
 vs:List (Nat×Nat)
 bu:Nat
 deriving Inhabited
def fY:List (Nat×TV)→Nat→TV→TV
 | [],_,d=>d
 | (k,v)::r,t,d=>match Nat.beq k t with
  | true=>v
  | false=>fY r t d
def eL (v c:Nat):Nat:=1000010+(1000*v+c)
def dK:Nat:=1000000
def gh:Nat:=1000001
def bD (b:Nat):Nat:=1000000000000+b
def TS.get (s:TS) (k:Nat):TV:=fY s.T k (fY s.B k .u)
def TS.put (s:TS) (k:Nat) (v:TV):TS:=⟨(k,v)::s.T,s.B,s.vs,s.bu⟩
def hU (s:TS) (v:Nat):Nat→Nat→List TV
 | _,0=>[]
 | c,m+1=>s.get (eL v c)::hU s v (c+1) m
def TS.tT (n:Nat) (s:TS):List AV:=(List.range n).map fun t=>(s.get t).bE
def TS.cs (s:TS):List (Nat×List AV):=s.vs.map fun p=>(p.1,cS (hU s p.1 0 p.2))
def iu (s:TS):Bool:=match s.get dK with
 | .g3 _ _ _ _=>false
 | _=>true
def g4 [Z:FZ] (s:TS):List Blk:=match iu s with
 | true=>[]
 | false=>Z.bs.map bo
def TS.gw [FZ] (s:TS):List Blk:=(List.range s.bu).map fun b=>(s.get (bD b)).en
def TS.aJ [FZ] (n:Nat) (s:TS):St:=⟨s.tT n,s.cs,s.gw++g4 s⟩
def Fits [Z:FZ] (s:TS):Prop:=
 (∀V ids n h,s.get dK= .g3 V ids n h→gA Z.ws ids Z.bs∧view Z.ws ids Z.bs=V∧ ∀id xs,s.get gh= .new id xs→id<Z.bs.length∧Z.bs.getD id []=xs∧ ∀j:Nat,ids[j]?≠some id)
theorem Fits.congr [FZ] {s s':TS} (h:Fits s) (e: ∀k,1000000≤k→k<1000010→s'.get k=s.get k):Fits s':=fun V ids n h' mv=>by
 rw[e dK (by unfold dK;omega) (by unfold dK;omega)] at mv
 obtain⟨h1,h2,bd⟩:=h V ids n h' mv
 refine⟨h1,h2,fun id xs hi=>bd id xs ?_⟩
 rw[←hi,e gh (by unfold gh;omega) (by unfold gh;omega)]
theorem Fits.none [FZ] {s:TS} (h:iu s=true):Fits s:=fun V ids n h' mv=>by
 unfold iu at h;rw[mv] at h;cases h
theorem gL (k:Nat) (v:TV) (r:List (Nat×TV)) (t:Nat) (d:TV):fY ((k,v)::r) t d=if k=t then v else fY r t d:=by
 show(match Nat.beq k t with
  | true=>v
  | false=>fY r t d)=_
 by_cases h:k=t
 ·subst h;rw[Nat.beq_refl,if_pos rfl]
 ·rw[if_neg h]
  cases hb:Nat.beq k t with
  | true=>exact absurd (Nat.eq_of_beq_eq_true hb) h
  | false=>rfl
theorem sc (A B:List (Nat×TV)) (t:Nat) (d:TV):fY (A++B) t d=fY A t (fY B t d):=by
 induction A with
 | nil=>rfl
 | cons p r bQ=>obtain⟨k,v⟩:=p;rw[List.cons_append,gL,gL,bQ]
theorem ta {A:List (Nat×TV)} {t:Nat} {d:TV} (h: ∀v,(t,v) ∉ A):fY A t d=d:=by
 induction A with
 | nil=>rfl
 | cons p r bQ=>
  obtain⟨k,v⟩:=p
  rw[gL,if_neg,bQ fun w hw=>h w (List.mem_cons_of_mem _ hw)]
  rintro rfl;exact h v (List.mem_cons_self ..)
theorem TS.EI (s:TS) (k:Nat) (v:TV) (t:Nat):(s.put k v).get t=if k=t then v else s.get t:=gL ..
inductive aW:Type 1 where
 | jT (ex:Exit) (s:TS)
 | hE
 | no
 | p (φ:Prop) (t:aW)
 | ka (φ:Prop) (t:aW)
 | je (b:eB) (s:TS) (x y:aW)
 | two (x y:aW)
 | hN (x:aW) (fz:List Prop) (b:eB) (y:aW)
 | all (α:Type) (f:α→aW)
 | eq {α:Type} (a b:α) (t:aW)
def qt:List Prop→Prop
 | []=>True
 | φ::r=>match r with
  | []=>φ
  | r=>φ∧qt r
theorem Kk: ∀{l:List Prop},(∀φ∈l,φ)→qt l
 | [],_=>trivial
 | [φ],h=>h φ (by simp)
 | φ::ψ::r,h=>⟨h φ (by simp),Kk (l:=ψ::r) fun x hx=>h x (List.mem_cons_of_mem _ hx)⟩
def wc (fz:List Prop):eB→List Prop
 | .t=>fz
 | b=>fz++[b.den=true]
def yq (fz:List Prop) (b:eB):Prop:=qt (wc fz b)
theorem Vi {fz:List Prop} {b:eB} (h: ∀φ∈fz,φ) (hb:b.den=true):yq fz b:=by
 unfold yq
 refine Kk fun φ fc=> ?_
 unfold wc at fc
 split at fc
 ·exact h φ fc
 ·rcases List.mem_append.1 fc with q | q
  ·exact h φ q
  ·rw[List.mem_singleton.1 q];exact hb
def aW.den:aW→(Exit→TS→Prop)→Prop
 | .jT ex s,R=>R ex s
 | .hE,_=>True
 | .no,_=>False
 | .p φ t,R=>φ∧t.den R
 | .ka φ t,R=>φ→t.den R
 | .je b _ x y,R=>(b.den=true→x.den R)∧(b.den=false→y.den R)
 | .two x y,R=>x.den R∧y.den R
 | .hN x fz b y,R=>x.den R∧(yq fz b→y.den R)
 | .all _ f,R=> ∀a,(f a).den R
 | .eq a b t,R=>a=b∧t.den R
def aW.bind:aW→(Exit→TS→aW)→aW
 | .jT ex s,K=>K ex s
 | .hE,_=> .hE
 | .no,_=> .no
 | .p φ t,K=> .p φ (t.bind K)
 | .ka φ t,K=> .ka φ (t.bind K)
 | .je b s x y,K=> .je b s (x.bind K) (y.bind K)
 | .two x y,K=> .two (x.bind K) (y.bind K)
 | .hN x fz b y,K=> .hN (x.bind K) fz b (y.bind K)
 | .all α f,K=> .all α fun a=>(f a).bind K
 | .eq a b t,K=> .eq a b (t.bind K)
theorem aW.TR (t:aW) (K:Exit→TS→aW) (R:Exit→TS→Prop):(t.bind K).den R=t.den fun ex s=>(K ex s).den R:=by
 induction t with
 | jT ex s=>rfl
 | hE=>rfl
 | no=>rfl
 | p φ t bQ=>simp only[aW.bind,aW.den,bQ]
 | ka φ t bQ=>simp only[aW.bind,aW.den,bQ]
 | je b s x y hZ hM=>simp only[aW.bind,aW.den,hZ,hM]
 | two x y hZ hM=>simp only[aW.bind,aW.den,hZ,hM]
 | hN x fz b y hZ hM=>simp only[aW.bind,aW.den,hZ,hM]
 | all α f bQ=>simp only[aW.bind,aW.den,bQ]
 | eq a b t bQ=>simp only[aW.bind,aW.den,bQ]
theorem aW.rH {t:aW} {R x6:Exit→TS→Prop} (h:t.den R) (k: ∀ex s,R ex s→x6 ex s):t.den x6:=by
 induction t with
 | jT ex s=>exact k _ _ h
 | hE=>trivial
 | no=>exact h
 | p φ t bQ=>exact⟨h.1,bQ h.2⟩
 | ka φ t bQ=>exact fun q=>bQ (h q)
 | je b s x y hZ hM=>exact⟨fun q=>hZ (h.1 q),fun q=>hM (h.2 q)⟩
 | two x y hZ hM=>exact⟨hZ h.1,hM h.2⟩
 | hN x fz b y hZ hM=>exact⟨hZ h.1,fun q=>hM (h.2 q)⟩
 | all α f bQ=>exact fun a=>bQ a (h a)
 | eq a b t bQ=>exact⟨h.1,bQ h.2⟩
inductive gb:Type 1 where
 | hE
 | p (φ:Prop)
 | and (a b:gb)
 | ka (φ:Prop) (c:gb)
 | all (α:Type) (f:α→gb)
def gb.and' (a b:gb):gb:=match a with
 | .hE=>b
 | a=>match b with
  | .hE=>a
  | b=> .and a b
def gb.wY (φ:Prop) (c:gb):gb:=match c with
 | .hE=> .hE
 | c=> .ka φ c
def gb.den:gb→Prop
 | .hE=>True
 | .p φ=>φ
 | .and a b=>a.den∧b.den
 | .ka φ c=>φ→c.den
 | .all _ f=> ∀a,(f a).den
theorem gb.As (a b:gb):(gb.and' a b).den↔a.den∧b.den:=by
 cases a<;>cases b<;>simp[gb.and',gb.den]
theorem gb.BW (φ:Prop) (c:gb):(gb.wY φ c).den↔(φ→c.den):=by
 cases c<;>simp[gb.wY,gb.den]
def gb.fact (fz:List Prop) (b:eB) (c:gb):gb:=match wc fz b with
 | []=>c
 | φ::r=> .wY (qt (φ::r)) c
theorem gb.Vj (fz:List Prop) (b:eB) (c:gb):(gb.fact fz b c).den↔(yq fz b→c.den):=by
 unfold gb.fact yq
 split
 ·rename_i h;rw[h];simp[qt]
 ·rename_i h;rw[h];exact gb.BW _ _
def aW.n9:aW→gb
 | .jT _ _=> .hE
 | .hE=> .hE
 | .no=> .p False
 | .p φ t=> .and' (.p φ) t.n9
 | .ka φ t=> .wY φ t.n9
 | .je b _ x y=> .and' (.wY (b.den=true) x.n9) (.wY (b.den=false) y.n9)
 | .two x y=> .and' x.n9 y.n9
 | .hN x fz b y=> .and' x.n9 (.fact fz b y.n9)
 | .all α f=> .all α fun a=>(f a).n9
 | .eq _ _ t=>t.n9
inductive rA:Type 1 where
 | u
 | v {α:Type} (a:α) (t:rA)
 | n (a b:rA)
 | f {α:Type} (g:α→rA)
def aW.lhs:aW→rA
 | .jT _ _ | .hE | .no=> .u
 | .p _ t | .ka _ t=>t.lhs
 | .je _ _ x y | .two x y | .hN x _ _ y=> .n x.lhs y.lhs
 | .all _ f=> .f fun a=>(f a).lhs
 | .eq a _ t=> .v a t.lhs
def aW.rhs:aW→rA
 | .jT _ _ | .hE | .no=> .u
 | .p _ t | .ka _ t=>t.rhs
 | .je _ _ x y | .two x y | .hN x _ _ y=> .n x.rhs y.rhs
 | .all _ f=> .f fun a=>(f a).rhs
 | .eq _ b t=> .v b t.rhs
theorem aW.full {t:aW} (h:t.n9.den) (e:t.lhs=t.rhs):t.den fun _ _=>True:=by
 induction t with
 | jT ex s=>trivial
 | hE=>trivial
 | no=>exact h
 | p φ t bQ=>
  have h:=(gb.As _ _).1 h
  exact⟨h.1,bQ h.2 e⟩
 | ka φ t bQ=>exact fun q=>bQ ((gb.BW _ _).1 h q) e
 | je b s x y hZ hM=>
  have h:=(gb.As _ _).1 h
  injection e with br e2
  exact⟨fun q=>hZ ((gb.BW _ _).1 h.1 q) br,fun q=>hM ((gb.BW _ _).1 h.2 q) e2⟩
 | two x y hZ hM=>
  have h:=(gb.As _ _).1 h
  injection e with br e2
  exact⟨hZ h.1 br,hM h.2 e2⟩
 | hN x fz b y hZ hM=>
  have h:=(gb.As _ _).1 h
  injection e with br e2
  exact⟨hZ h.1 br,fun q=>hM ((gb.Vj _ _ _).1 h.2 q) e2⟩
 | all α f bQ=>
  injection e with _ e
  exact fun a=>bQ a (h a) (congrFun e a)
 | eq a b t bQ=>
  injection e with _ br e2
  exact⟨br,bQ h e2⟩
def u3 (b:eB) (x y:TV):TV:=match x with
 | .i k n=>(match y with
  | .i kR m=>if k=kR then .i k (bif b.den then n else m) else .u
  | _=> .u)
 | .b x=>(match y with
  | .b y=> .b (eB.u2 b x y)
  | _=> .u)
 | _=> .u
def eB.sb:eB→eB→Bool
 | .at i _,.at j _=>Nat.beq i j
 | .t,.t=>true
 | .f,.f=>true
 | .n x,.n y=>x.sb y
 | .aF x y,.aF z w=>x.sb z&&y.sb w
 | .or x y,.or z w=>x.sb z&&y.sb w
 | .ite c x y,.ite d z w=>c.sb d&&x.sb z&&y.sb w
 | _,_=>false
def GI (x y:TV):Bool:=match x with
 | .b x=>(match y with
  | .b y=>x.sb y
  | _=>false)
 | _=>false
def B_ (b:eB) (x y:TV):TV:=match GI x y with
 | true=>x
 | false=>u3 b x y
def uP (s s':TS):List (Nat×TV)→List (List (Nat×TV)×List (Nat×TV))
 | []=>[]
 | p::r=>match GI (s.get p.1) (s'.get p.1) with
  | true=>([(p.1,s.get p.1)],[(p.1,s'.get p.1)])::uP s s' r
  | false=>uP s s' r
inductive rC where
 | bad
 | none
 | some (s:TS) (jX:List (List (Nat×TV)×List (Nat×TV)))
def lY {e dS:bJ} (h:dS=e) (xs:List dS.T):List e.T:=h▸xs
def EF:(e:bJ)→TV→e.T
 | .int,.i _ m=>m
 | .u64,.i _ m=>m
 | .bool,.b x=>x.den
 | .str,.s x=>x
 | .l e,.l dS xs _ _=>if h:dS=e then lY h xs else[]
 | e,_=>e.uK.default
def oS:(es:List bJ)→List TV→c8 es
 | [],_=>()
 | e::r,v::vs=>(EF e v,oS r vs)
 | e::r,[]=>(e.uK.default,oS r [])
def qU (c:List TV):bc:=bJ.mk .dd (oS bJ.dd.kT c)
def BZ:TV→Bool
 | .eN _ _=>true
 | _=>false
def xe (s s':TS):List (Nat×TV)→Bool
 | []=>true
 | (k,_)::r=>match Nat.blt k 1000000 with
  | true=>xe s s' r
  | false=>match BZ (s.get k)&&BZ (s'.get k)&&Nat.ble 1000010 k with
   | true=>xe s s' r
   | false=>false
def aaM (b:eB) (x y:TV):TV:=match x with
 | .eN g c=>(match y with
  | .eN _ c'=> .eN g (gJ false .dd (bif b.den then qU c else qU c'))
  | _=> .u)
 | _=> .u
def se (b:eB) (k:Nat) (x y:TV):TV:=match Nat.blt k 1000000 with
 | true=>B_ b x y
 | false=>aaM b x y
def abE (x y:TV):List (List (Nat×TV)×List (Nat×TV)):=match x with
 | .eN g c=>(match y with
  | .eN dJ c'=>[([(g,.agg c)],[(dJ,.agg (gJ false .dd (qU c)))]),([(0,.agg c')],[(0,.agg (gJ false .dd (qU c')))])]
  | _=>[])
 | _=>[]
def vb (s s':TS):List (Nat×TV)→List (List (Nat×TV)×List (Nat×TV))
 | []=>[]
 | p::r=>match Nat.blt p.1 1000000 with
  | true=>vb s s' r
  | false=>abE (s.get p.1) (s'.get p.1)++vb s s' r
def AY:List (Nat×Nat)→List (Nat×Nat)→Bool
 | [],[]=>true
 | (a,b)::r,(c,d)::q=>Nat.beq a c&&Nat.beq b d&&AY r q
 | _,_=>false
def rC.je (b:eB) (ff:TS) (x y:rC):rC:=match x with
 | .bad=> .bad
 | .none=>(match y with
  | .bad=> .bad
  | .none=> .none
  | .some s q=> .some ⟨s.T++ff.T,ff.B,s.vs,s.bu⟩ ((s.B,ff.T++ff.B)::q))
 | .some s q=>(match y with
  | .bad=> .bad
  | .none=> .some ⟨s.T++ff.T,ff.B,s.vs,s.bu⟩ ((s.B,ff.T++ff.B)::q)
  | .some s' tj=>match xe s s' (s.T++s'.T)&&AY s.vs s'.vs&&Nat.beq s.bu s'.bu with
   | true=> .some ⟨(s.T++s'.T).map (fun p=>(p.1,se b p.1 (s.get p.1) (s'.get p.1)))++ff.T,ff.B,s.vs,s.bu⟩ ((s.B,ff.T++ff.B)::(s'.B,ff.T++ff.B)::(q++(tj++(uP s s' (s.T++s'.T)++vb s s' (s.T++s'.T)))))
   | false=> .bad)
def aW.na:aW→rC
 | .jT ex s=>(match ex with
  | .normal=> .some s []
  | _=> .none)
 | .hE | .no=> .none
 | .p _ t | .ka _ t | .eq _ _ t=>t.na
 | .je b s x y=>rC.je b s x.na y.na
 | .two _ _ | .all _ _=> .bad
 | .hN x _ _ y=>(match x.na with
  | .none=>y.na
  | _=> .bad)
def aW.lz:aW→eB
 | .jT ex _=>(match ex with
  | .normal=> .t
  | _=> .f)
 | .hE | .no=> .f
 | .p _ t | .ka _ t | .eq _ _ t=>t.lz
 | .je b _ x y=>eB.u2 b x.lz y.lz
 | .two _ _ | .all _ _=> .t
 | .hN _ _ b y=>(match b with
  | .t=>y.lz
  | b=>eB.u2 b y.lz .f)
def aW.facts:aW→List Prop
 | .jT _ _ | .hE | .no | .two _ _ | .all _ _=>[]
 | .p _ t | .eq _ _ t=>t.facts
 | .ka φ t=>φ::t.facts
 | .je _ _ x y=>(match x.lz with
  | .f=>y.facts
  | _=>match y.lz with
   | .f=>x.facts
   | _=>[])
 | .hN _ fz _ y=>fz++y.facts
def JE (x y:TV):Prop:= ∃g c c',x= .eN g c∧y= .eN g c'∧cS c'=cS c
structure TS.gP (s S:TS):Prop where
 vs:S.vs=s.vs
 bu:S.bu=s.bu
 get: ∀k,S.get k=s.get k∨(k<1000000∧((S.get k).bE=(s.get k).bE∨(S.get k).bE= .undef))∨(1000010≤k∧JE (s.get k) (S.get k))
theorem TS.gP.refl (s:TS):s.gP s:=⟨rfl,rfl,fun _=> .inl rfl⟩
theorem TS.gP.trans {a b c:TS} (h:a.gP b) (k:b.gP c):a.gP c:=⟨k.vs.trans h.vs,k.bu.trans h.bu,fun t=>by
 rcases k.get t with e | ⟨aL,e⟩ | ⟨aL,e⟩
 ·rw[e];exact h.get t
 ·refine .inr (.inl ⟨aL,?_⟩)
  rcases e with e | e
  ·rcases h.get t with q | ⟨_,q⟩ | ⟨hb,_⟩
   ·rw[e,q];exact .inl rfl
   ·rw[e];exact q
   ·omega
  ·exact .inr e
 ·refine .inr (.inr ⟨aL,?_⟩)
  rcases h.get t with q | ⟨hb,_⟩ | ⟨_,q⟩
  ·rw[←q];exact e
  ·omega
  ·obtain⟨g,x,y,br,e2,dW⟩:=e
   obtain⟨dJ,lq,afG,f1,f2,f3⟩:=q
   rw[br] at f2
   cases f2
   exact⟨g,lq,y,f1,e2,dW.trans f3⟩⟩
theorem aaV {s s':TS} {l:List (Nat×TV)} (h:xe s s' l=true) {k:Nat} {v:TV} (hm:(k,v)∈l) (hk: ¬k<1000000):1000010≤k∧(∃g c,s.get k= .eN g c)∧ ∃g c,s'.get k= .eN g c:=by
 induction l with
 | nil=>cases hm
 | cons p r bQ=>
  obtain⟨a,w⟩:=p
  unfold xe at h
  split at h
  ·rename_i a3
   rcases List.mem_cons.1 hm with e | hm
   ·cases e;exact absurd (by rw[←Nat.blt_eq];exact a3) hk
   ·exact bQ h hm
  ·split at h
   ·rename_i hc
    rcases List.mem_cons.1 hm with e | hm
    ·cases e
     simp only[Bool.and_eq_true] at hc
     have PH: ∀x:TV,BZ x=true→ ∃g c,x= .eN g c:=fun x hx=>by
      unfold BZ at hx
      split at hx
      ·exact⟨_,_,rfl⟩
      ·cases hx
     exact⟨Nat.le_of_ble_eq_true hc.2,PH _ hc.1.1,PH _ hc.1.2⟩
    ·exact bQ h hm
   ·cases h
theorem PG {s s':TS}: ∀{l:List (Nat×TV)},(∀p∈vb s s' l,p.1=p.2)→ ∀k v,(k,v)∈l→ ¬k<1000000→ ∀(g:Nat) (c:List TV) (dJ:Nat) (c':List TV),s.get k= .eN g c→s'.get k= .eN dJ c'→g=dJ∧c=gJ false .dd (qU c)∧c'=gJ false .dd (qU c')
 | [],_,k,v,h,_=>by cases h
 | p::r,ak,k,v,h,hk=>fun g c dJ c' br e2=>by
  unfold vb at ak
  rcases List.mem_cons.1 h with e | h
  ·cases e
   have hb:Nat.blt k 1000000=false:=by
    cases hb:Nat.blt k 1000000 with
    | true=>rw[Nat.blt_eq] at hb;exact absurd hb hk
    | false=>rfl
   simp only[hb,br,e2] at ak
   have q1:=ak _ (List.mem_append_left _ (List.mem_cons_self ..))
   have q2:=ak _ (List.mem_append_left _ (List.mem_cons_of_mem _ (List.mem_cons_self ..)))
   injection q1 with M _
   injection q2 with U _
   have jr:=(Prod.mk.inj M)
   have dl:=(Prod.mk.inj U)
   exact⟨jr.1,TV.agg.inj jr.2,TV.agg.inj dl.2⟩
  ·refine PG (fun q hm=>ak q ?_) k v h hk g c dJ c' br e2
   split
   ·exact hm
   ·exact List.mem_append_right _ hm
theorem KF: ∀{l m:List (Nat×Nat)},AY l m=true→l=m
 | [],[],_=>rfl
 | [],_::_,h=>by cases h
 | _::_,[],h=>by cases h
 | (a,b)::r,(c,d)::q,h=>by
  simp only[AY,Bool.and_eq_true] at h
  rw[Nat.eq_of_beq_eq_true h.1.1,Nat.eq_of_beq_eq_true h.1.2,KF h.2]
theorem aa_ {b:eB} {x y:TV} (h:b.den=true):(u3 b x y).bE=x.bE∨(u3 b x y).bE= .undef:=by
 unfold u3
 split
 ·split
  ·split
   ·left;simp[TV.bE,h]
   ·exact .inr rfl
  ·exact .inr rfl
 ·split
  ·left;simp[TV.bE,eB.zv,h]
  ·exact .inr rfl
 ·exact .inr rfl
theorem aa9 {b:eB} {x y:TV} (h:b.den=false):(u3 b x y).bE=y.bE∨(u3 b x y).bE= .undef:=by
 unfold u3
 split
 ·split
  ·split
   ·rename_i e;left;subst e;simp[TV.bE,h]
   ·exact .inr rfl
  ·exact .inr rfl
 ·split
  ·left;simp[TV.bE,eB.zv,h]
  ·exact .inr rfl
 ·exact .inr rfl
theorem abI {s ff:TS} (h:s.B=ff.T++ff.B) (vs:List (Nat×Nat)) (bu k:Nat):TS.get ⟨s.T++ff.T,ff.B,vs,bu⟩ k=s.get k:=by
 unfold TS.get
 simp only
 rw[h,sc,sc]
theorem aar {l:List (Nat×TV)} {f:Nat→TV} {k:Nat} {d:TV}:((∃v,(k,v)∈l)∧fY (l.map fun p=>(p.1,f p.1)) k d=f k)∨((∀v,(k,v) ∉ l)∧fY (l.map fun p=>(p.1,f p.1)) k d=d):=by
 induction l with
 | nil=>exact .inr ⟨(fun v h=>by cases h),rfl⟩
 | cons p r bQ=>
  obtain⟨a,w⟩:=p
  rw[List.map_cons,gL]
  by_cases e:a=k
  ·subst e;exact .inl ⟨⟨w,List.mem_cons_self ..⟩,if_pos rfl⟩
  ·rw[if_neg e]
   rcases bQ with⟨⟨v,q⟩,h⟩ | ⟨q,h⟩
   ·exact .inl ⟨⟨v,List.mem_cons_of_mem _ q⟩,h⟩
   ·refine .inr ⟨fun v hv=> ?_,h⟩
    rcases List.mem_cons.1 hv with hv | hv
    ·cases hv;exact e rfl
    ·exact q v hv
theorem Oh {s s':TS}: ∀{l:List (Nat×TV)},(∀p∈uP s s' l,p.1=p.2)→ ∀k v,(k,v)∈l→GI (s.get k) (s'.get k)=true→s.get k=s'.get k
 | [],_,k,v,h,_=>by cases h
 | p::r,ak,k,v,h,aL=>by
  unfold uP at ak
  rcases List.mem_cons.1 h with e | h
  ·cases e
   rw[aL] at ak
   have:=ak _ (List.mem_cons_self ..)
   injection this with br _
   exact(Prod.mk.inj br).2
  ·refine Oh (fun q hm=>ak q ?_) k v h aL
   split
   ·exact List.mem_cons_of_mem _ hm
   ·exact hm
theorem aaA {b:eB} {ff s s':TS} (h1:s.B=ff.T++ff.B) (h2:s'.B=ff.T++ff.B) (da:xe s s' (s.T++s'.T)=true) (hv:s.vs=s'.vs) (aG:s.bu=s'.bu) (ak: ∀p∈uP s s' (s.T++s'.T)++vb s s' (s.T++s'.T),p.1=p.2):
  let S:TS:=⟨(s.T++s'.T).map (fun p=>(p.1,se b p.1 (s.get p.1) (s'.get p.1)))++ff.T,ff.B,s.vs,s.bu⟩
  (b.den=true→s.gP S)∧(b.den=false→s'.gP S):=by
 intro S
 have Fk: ∀p∈uP s s' (s.T++s'.T),p.1=p.2:=fun p aI=>ak p (List.mem_append_left _ aI)
 have kw: ∀p∈vb s s' (s.T++s'.T),p.1=p.2:=fun p aI=>ak p (List.mem_append_right _ aI)
 have ho: ∀k,((∃v,(k,v)∈s.T++s'.T)∧S.get k=se b k (s.get k) (s'.get k))∨((∀v,(k,v) ∉ s.T++s'.T)∧S.get k=fY ff.T k (fY ff.B k .u)):=fun k=>by
  have e:S.get k=fY (List.map (fun p=>(p.1,(fun k=>se b k (s.get k) (s'.get k)) p.1)) (s.T++s'.T)) k (fY ff.T k (fY ff.B k .u)):=by
   show fY (_++ff.T) k _=_
   rw[sc]
  rw[e];exact aar (f:=fun k=>se b k (s.get k) (s'.get k))
 have base: ∀(x:TS),x.B=ff.T++ff.B→ ∀k,(∀v,(k,v) ∉ x.T)→x.get k=fY ff.T k (fY ff.B k .u):=fun x hx k hk=>by
  unfold TS.get;rw[ta hk,hx,sc]
 have Qz: ∀k,k<1000000→se b k (s.get k) (s'.get k)=B_ b (s.get k) (s'.get k):=fun k hk=>by
  unfold se;rw[show Nat.blt k 1000000=true by rw[Nat.blt_eq];exact hk]
 have J0: ∀k v,(k,v)∈s.T++s'.T→ ¬k<1000000→1000010≤k∧ ∃g c c',s.get k= .eN g c∧s'.get k= .eN g c'∧c=gJ false .dd (qU c)∧c'=gJ false .dd (qU c')∧se b k (s.get k) (s'.get k)= .eN g (gJ false .dd (bif b.den then qU c else qU c')):=fun k v hm hk=>by
  obtain⟨dX,⟨g,c,br⟩,dJ,c',e2⟩:=aaV da hm hk
  obtain⟨fv,fZ,fE⟩:=PG kw k v hm hk _ _ _ _ br e2
  subst fv
  refine⟨dX,g,c,c',br,e2,fZ,fE,?_⟩
  unfold se
  have hb:Nat.blt k 1000000=false:=by
   cases hb:Nat.blt k 1000000 with
   | true=>rw[Nat.blt_eq] at hb;exact absurd hb hk
   | false=>rfl
  rw[hb,br,e2];rfl
 refine⟨fun hb=>⟨rfl,rfl,fun k=> ?_⟩,fun hb=>⟨hv,aG,fun k=> ?_⟩⟩
 ·rcases ho k with⟨⟨v,q⟩,h⟩ | ⟨q,h⟩
  ·by_cases hk:k<1000000
   ·rw[h,Qz k hk];refine .inr (.inl ⟨hk,?_⟩)
    unfold B_
    split
    ·exact .inl rfl
    ·exact aa_ hb
   ·obtain⟨dX,g,c,c',br,e2,fZ,fE,dW⟩:=J0 k v q hk
    refine .inr (.inr ⟨dX,g,c,_,br,h.trans dW,?_⟩)
    rw[hb];exact congrArg cS fZ.symm
  ·rw[h];exact .inl (base s h1 k fun v hv=>q v (List.mem_append_left _ hv)).symm
 ·rcases ho k with⟨⟨v,q⟩,h⟩ | ⟨q,h⟩
  ·by_cases hk:k<1000000
   ·rw[h,Qz k hk];refine .inr (.inl ⟨hk,?_⟩)
    unfold B_
    split
    ·rename_i aL;rw[Oh Fk k v q aL];exact .inl rfl
    ·exact aa9 hb
   ·obtain⟨dX,g,c,c',br,e2,fZ,fE,dW⟩:=J0 k v q hk
    refine .inr (.inr ⟨dX,g,c',_,e2,h.trans dW,?_⟩)
    rw[hb];exact congrArg cS fE.symm
  ·rw[h];exact .inl (base s' h2 k fun v hv=>q v (List.mem_append_right _ hv)).symm
theorem aW.Ow: ∀{t:aW} {R:Exit→TS→Prop},t.na= .none→t.den R→t.den fun ex s=>R ex s∧ex≠ .normal:=by
 intro t
 induction t with
 | jT ex s=>
  intro R h d
  refine⟨d,?_⟩
  rintro rfl;cases h
 | hE=>intros;trivial
 | no=>intro R h d;exact d
 | p φ t bQ=>intro R h d;exact⟨d.1,bQ h d.2⟩
 | ka φ t bQ=>intro R h d;exact fun q=>bQ h (d q)
 | eq a b t bQ=>intro R h d;exact⟨d.1,bQ h d.2⟩
 | two x y hZ hM=>intro R h;cases h
 | all α f bQ=>intro R h;cases h
 | hN x fz b y hZ hM=>
  intro R h d
  unfold aW.na at h
  split at h
  ·rename_i hx;exact⟨hZ hx d.1,fun q=>hM h (d.2 q)⟩
  ·cases h
 | je b s x y hZ hM=>
  intro R h d
  have h:rC.je b s x.na y.na= .none:=h
  unfold rC.je at h
  split at h
  ·cases h
  ·rename_i hx
   split at h
   ·cases h
   ·rename_i bm;exact⟨fun q=>hZ hx (d.1 q),fun q=>hM bm (d.2 q)⟩
   ·cases h
  ·split at h
   ·cases h
   ·cases h
   ·split at h<;>cases h
theorem aW.aaD: ∀{t:aW} {R:Exit→TS→Prop} {S:TS} {jX:List (List (Nat×TV)×List (Nat×TV))},t.na= .some S jX→(∀p∈jX,p.1=p.2)→t.den R→
  t.den fun ex s=>R ex s∧(ex= .normal→s.gP S∧t.lz.den=true∧ ∀φ∈t.facts,φ):=by
 intro t
 induction t with
 | jT ex s=>
  intro R S jX h ak d
  refine⟨d,?_⟩
  rintro rfl
  cases h
  exact⟨.refl s,rfl,fun φ h=>by cases h⟩
 | hE=>intros;trivial
 | no=>intro R S jX h ak d;exact d
 | p φ t bQ=>intro R S jX h ak d;exact⟨d.1,bQ h ak d.2⟩
 | ka φ t bQ=>
  intro R S jX h ak d q
  refine aW.rH (bQ h ak (d q)) fun ex s hs=>⟨hs.1,fun e=>⟨(hs.2 e).1,(hs.2 e).2.1,fun ψ FB=> ?_⟩⟩
  rcases List.mem_cons.1 FB with rfl | FB
  ·exact q
  ·exact(hs.2 e).2.2 ψ FB
 | eq a b t bQ=>intro R S jX h ak d;exact⟨d.1,bQ h ak d.2⟩
 | two x y hZ hM=>intro R S jX h;cases h
 | all α f bQ=>intro R S jX h;cases h
 | hN x fz b y hZ hM=>
  intro R S jX h ak d
  unfold aW.na at h
  split at h
  ·rename_i hx
   refine⟨aW.rH (aW.Ow hx d.1) fun ex s hs=>⟨hs.1,fun e=>absurd e hs.2⟩,fun q=>aW.rH (hM h ak (d.2 q)) fun ex s hs=>⟨hs.1,fun e=> ?_⟩⟩
   obtain⟨h1,h2,aO⟩:=hs.2 e
   have eK: ∀(l:List Prop),qt l→ ∀φ∈l,φ:=by
    intro l
    induction l with
    | nil=>intro _ φ fc;cases fc
    | cons a r bQ=>
     intro hc φ fc
     cases r with
     | nil=>rw[List.mem_singleton.1 fc];exact hc
     | cons ij CD=>
      have hc:a∧qt (ij::CD):=hc
      rcases List.mem_cons.1 fc with rfl | fc
      ·exact hc.1
      ·exact bQ hc.2 φ fc
   have eK:=eK _ q
   refine⟨h1,?_,fun φ fc=> ?_⟩
   ·unfold aW.lz
    split
    ·exact h2
    ·rename_i cl
     have hb:b.den=true:=eK _ (by
      unfold wc
      split
      ·exact absurd rfl cl
      ·simp)
     rw[eB.zv,hb,h2];rfl
   ·rcases List.mem_append.1 fc with fc | fc
    ·have hm: ∀b:eB,φ∈wc fz b:=fun b=>by
      unfold wc
      split
      ·exact fc
      ·exact List.mem_append_left _ fc
     exact eK φ (hm b)
    ·exact aO φ fc
  ·cases h
 | je b ff x y hZ hM=>
  intro R S jX h ak d
  have h:rC.je b ff x.na y.na= .some S jX:=h
  have OL: ∀{z:aW} {R:Exit→TS→Prop},z.na= .none→z.den R→z.den fun ex s=>R ex s∧(ex= .normal→False):=fun aP UW=>aW.Ow aP UW
  have Li:b.den=true→x.lz.den=true→(eB.u2 b x.lz y.lz).den=true:=fun h1 h2=>by rw[eB.zv,h1,h2];rfl
  have Lj:b.den=false→y.lz.den=true→(eB.u2 b x.lz y.lz).den=true:=fun h1 h2=>by rw[eB.zv,h1,h2];rfl
  have Lu:x.lz.den=true→(∀φ∈x.facts,φ)→ ∀φ∈(aW.je b ff x y).facts,φ:=fun h1 h2 φ fc=>by
   unfold aW.facts at fc
   split at fc
   ·rename_i e;rw[e] at h1;cases h1
   ·split at fc
    ·exact h2 φ fc
    ·cases fc
  have Lv:y.lz.den=true→(∀φ∈y.facts,φ)→ ∀φ∈(aW.je b ff x y).facts,φ:=fun h1 h2 φ fc=>by
   unfold aW.facts at fc
   split at fc
   ·exact h2 φ fc
   ·split at fc
    ·rename_i e;rw[e] at h1;cases h1
    ·cases fc
  have eN: ∀{s:TS},s.B=ff.T++ff.B→s.gP ⟨s.T++ff.T,ff.B,s.vs,s.bu⟩:=fun eg=>⟨rfl,rfl,fun k=> .inl (abI eg _ _ k)⟩
  unfold rC.je at h
  split at h
  ·cases h
  ·rename_i hx
   split at h
   ·cases h
   ·cases h
   ·rename_i s q bm
    cases h
    have eg:=ak _ (List.mem_cons_self ..)
    refine⟨fun hb=>aW.rH (OL hx (d.1 hb)) fun ex z aP=>⟨aP.1,fun e=>(aP.2 e).elim⟩,fun hb=>aW.rH (hM bm (fun p aI=>ak p (List.mem_cons_of_mem _ aI)) (d.2 hb)) fun ex z aP=>⟨aP.1,fun e=> ?_⟩⟩
    obtain⟨h1,h2,aO⟩:=aP.2 e
    exact⟨h1.trans (eN eg),Lj hb h2,Lv h2 aO⟩
  ·rename_i s q hx
   split at h
   ·cases h
   ·rename_i bm
    cases h
    have eg:=ak _ (List.mem_cons_self ..)
    refine⟨fun hb=>aW.rH (hZ hx (fun p aI=>ak p (List.mem_cons_of_mem _ aI)) (d.1 hb)) fun ex z aP=>⟨aP.1,fun e=> ?_⟩,fun hb=>aW.rH (OL bm (d.2 hb)) fun ex z aP=>⟨aP.1,fun e=>(aP.2 e).elim⟩⟩
    obtain⟨h1,h2,aO⟩:=aP.2 e
    exact⟨h1.trans (eN eg),Li hb h2,Lu h2 aO⟩
   ·rename_i s' tj bm
    split at h
    ·rename_i hc
     cases h
     simp only[Bool.and_eq_true] at hc
     obtain⟨⟨nz,DC⟩,DD⟩:=hc
     have WM:=ak _ (List.mem_cons_self ..)
     have WN:=ak _ (List.mem_cons_of_mem _ (List.mem_cons_self ..))
     obtain⟨aV,bt⟩:=aaA (b:=b) WM WN nz (KF DC) (Nat.eq_of_beq_eq_true DD) (fun p aI=>ak p (List.mem_cons_of_mem _ (List.mem_cons_of_mem _ (List.mem_append_right _ (List.mem_append_right _ aI)))))
     refine⟨fun hb=>aW.rH (hZ hx (fun p aI=>ak p (List.mem_cons_of_mem _ (List.mem_cons_of_mem _ (List.mem_append_left _ aI)))) (d.1 hb)) fun ex z aP=>⟨aP.1,fun e=> ?_⟩,
      fun hb=>aW.rH (hM bm (fun p aI=>ak p (List.mem_cons_of_mem _ (List.mem_cons_of_mem _ (List.mem_append_right _ (List.mem_append_left _ aI))))) (d.2 hb)) fun ex z aP=>⟨aP.1,fun e=> ?_⟩⟩
     ·obtain⟨h1,h2,aO⟩:=aP.2 e
      exact⟨h1.trans (aV hb),Li hb h2,Lu h2 aO⟩
     ·obtain⟨h1,h2,aO⟩:=aP.2 e
      exact⟨h1.trans (bt hb),Lj hb h2,Lv h2 aO⟩
    ·cases h
def kU:List (Nat×Nat)→Nat→Option Nat
 | [],_=>none
 | (k,m)::r,t=>match Nat.beq k t with
  | true=>some m
  | false=>kU r t
section
variable [FZ] {n:Nat} {s:TS}
theorem z2 (t:Nat):(s.aJ n).T.getD t .undef=if t<n then(s.get t).bE else .undef:=by
 show((List.range n).map fun t=>(s.get t).bE).getD t .undef=_
 rw[List.getD_eq_getElem?_getD,List.getElem?_map]
 by_cases h:t<n
 ·rw[List.getElem?_range h,if_pos h];rfl
 ·rw[List.getElem?_eq_none (by simpa using h),if_neg h];rfl
theorem vo (v:Nat):e0 (s.aJ n).L v=(kU s.vs v).map fun m=>cS (hU s v 0 m):=by
 show e0 (s.vs.map fun p=>(p.1,cS (hU s p.1 0 p.2))) v=_
 induction s.vs with
 | nil=>rfl
 | cons p r bQ=>
  obtain⟨k,m⟩:=p
  rw[List.map_cons]
  unfold e0 kU
  by_cases h:v=k
  ·subst h;simp
  ·have:Nat.beq k v=false:=by
    cases hb:Nat.beq k v with
    | true=>exact absurd (Nat.eq_of_beq_eq_true hb).symm h
    | false=>rfl
   simp only[h,if_false,this];exact bQ
theorem p8 (b:Nat):s.gw[b]?=if b<s.bu then some (s.get (bD b)).en else none:=by
 show((List.range s.bu).map fun b=>(s.get (bD b)).en)[b]?=_
 rw[List.getElem?_map]
 by_cases h:b<s.bu
 ·rw[List.getElem?_range h,if_pos h];rfl
 ·rw[List.getElem?_eq_none (by simpa using h),if_neg h];rfl
theorem nq:s.gw.length=s.bu:=by show((List.range s.bu).map _).length=_;simp
theorem rk {b:Nat} (h:b<s.bu):(s.aJ n).H[b]?=some (s.get (bD b)).en:=by
 show(s.gw++g4 s)[b]?=_
 rw[List.getElem?_append_left (by rw[nq];exact h),p8,if_pos h]
theorem CY (h:iu s=true):(s.aJ n).H.length=s.bu:=by
 show(s.gw++g4 s).length=_
 unfold g4;rw[h];simp[nq]
end
def AO:Value→TV
 | .int k n=> .i k n
 | .bool b=> .b (match b with
  | true=> .t
  | false=> .f)
 | .string x=> .s x
 | .slice none 0 0=> .nil true true
 | .pointer none=> .o .gj
 | .nilIface=> .o .gE
 | _=> .u
theorem UE (v:Value):(AO v).bE=oQ v:=by
 unfold AO oQ
 split
 ·rfl
 ·rename_i b;cases b<;>rfl
 ·rfl
 ·rfl
 ·rfl
 ·rfl
 ·rename_i h1 h2 aO bd ch cD
  split
  ·exact absurd rfl (h1 _ _)
  ·exact absurd rfl (h2 _)
  ·exact absurd rfl (aO _)
  ·exact absurd rfl bd
  ·exact absurd rfl ch
  ·exact absurd rfl cD
  ·rfl
def cP (n:Nat) (s:TS):Operand→TV
 | .tmp t=>(match Nat.blt t n with
  | true=>s.get t
  | false=> .u)
 | .const v=>AO v
 | .func f=> .fn f []
 | .global _=> .u
theorem lb [FZ] (n:Nat) (s:TS):cr (s.aJ n).T=fun x=>(cP n s x).bE:=by
 funext x
 cases x with
 | tmp t=>
  show(s.aJ n).T.getD t .undef=_
  rw[z2]
  unfold cP
  by_cases h:t<n
  ·have hb:Nat.blt t n=true:=by rw[Nat.blt_eq];exact h
   simp only[if_pos h,hb]
  ·have hb:Nat.blt t n=false:=by
    cases hb:Nat.blt t n with
    | true=>rw[Nat.blt_eq] at hb;exact absurd hb h
    | false=>rfl
   simp only[if_neg h,hb];rfl
 | const v=>exact(UE v).symm
 | func f=>rfl
 | global g=>rfl
def Lb (x:eB) (K:eB→aW):aW:=match x with
 | .t=>K .t
 | .f=>K .f
 | .v p=>K (.v p)
 | .at i p=>K (.at i p)
 | .n p=>K (.n p)
 | .aF p q=>K (.aF p q)
 | .or p q=>K (.or p q)
 | .ite p q r=>K (.ite p q r)
theorem V9 (x:eB) (K:eB→aW):Lb x K=K x:=by cases x<;>rfl
def pA (v:TV) (K:TV→aW):aW:=match v with
 | .u=>K .u
 | .i k m=>K (.i k m)
 | .b x=>Lb x fun x=>K (.b x)
 | .s x=>K (.s x)
 | .l e xs f r=>K (.l e xs f r)
 | .nil f r=>K (.nil f r)
 | .ref p g m f=>K (.ref p g m f)
 | .ptr p g j m c=>K (.ptr p g j m c)
 | .lp t c=>K (.lp t c)
 | .dA e x c=>K (.dA e x c)
 | .agg c=>K (.agg c)
 | .tup c=>K (.tup c)
 | .fn f c=>K (.fn f c)
 | .o a=>K (.o a)
 | .blk g e xs m h=>K (.blk g e xs m h)
 | .eN g c=>K (.eN g c)
 | .kG g m ids=>K (.kG g m ids)
 | .g3 V ids n h=>K (.g3 V ids n h)
 | .new id xs=>K (.new id xs)
 | .wm w ids m n=>K (.wm w ids m n)
 | .wk w ids m j=>K (.wk w ids m j)
 | .zp id m n=>K (.zp id m n)
theorem qy (v:TV) (K:TV→aW):pA v K=K v:=by
 cases v with
 | b x=>exact V9 x fun x=>K (.b x)
 | _=>rfl
def oc:(e:bJ)→e.T→AV
 | .ptr e,x=> .dA (cd false e x) 0
 | .ik f .unit,_=> .fn f []
 | .ik f e,x=> .fn f [oc e x]
 | e,x=>match e.isS with
  | true=> .agg (cd false e x)
  | false=>oR false e x
def od:(es:List bJ)→c8 es→List AV
 | [],_=>[]
 | e::r,x=>oc e x.1::od r x.2
def v9 (e:bJ) (x:e.T):AV:=match e.isS with
 | true=> .agg (cd true e x)
 | false=>oR true e x
def l2:(es:List bJ)→c8 es→List AV
 | [],_=>[]
 | e::r,x=>v9 e x.1::l2 r x.2
def k5:(es:List bJ)→c8 es→AV
 | [e],x=>v9 e x.1
 | es,x=> .tup (l2 es x)
def CH (e:bJ) (x:e.T):TV:=match e.isS with
 | true=> .agg (gJ true e x)
 | false=>z8 true e x
def CI:(es:List bJ)→c8 es→List TV
 | [],_=>[]
 | e::r,x=>CH e x.1::CI r x.2
def CJ:(es:List bJ)→c8 es→TV
 | [e],x=>CH e x.1
 | es,x=> .tup (CI es x)
theorem PP (e:bJ) (x:e.T):(CH e x).bE=v9 e x:=by
 unfold CH v9
 cases e.isS with
 | true=>show AV.agg (cS _)=_;rw[vX]
 | false=>exact Ji true e x
theorem PQ: ∀(es:List bJ) (x:c8 es),cS (CI es x)=l2 es x
 | [],_=>rfl
 | e::r,x=>by rw[CI,cS,l2,PP,PQ r]
theorem HE (es:List bJ) (x:c8 es):(CJ es x).bE=k5 es x:=by
 match es,x with
 | [],x=>rfl
 | [e],x=>exact PP e x.1
 | e::dS::r,x=>show AV.tup (cS _)=_;rw[PQ];rfl
structure eC (P:Program) where
 f:FuncId
 ps:List bJ
 rs:List bJ
 pre:Option (c8 ps→Prop)
 fn:c8 ps→c8 rs
 ok: ∀x,(match pre with
  | none=>True
  | some p=>p x)→b2 P f (od ps x) (k5 rs (fn x))
def Uk {e dS:bJ} (h:dS=e) (x:dS.T):e.T:=h▸x
def AN (a4:IntKind) (v:TV) (K:Int→List Prop→aW):aW:=match v with
 | .i k n=>if k=a4 then K n [] else .no
 | _=> .no
def DU (v:TV) (K:Bool→List Prop→aW):aW:=match v with
 | .b x=>K x.den []
 | _=> .no
def DY (v:TV) (K:ByteArray→List Prop→aW):aW:=match v with
 | .s x=>K x []
 | _=> .no
def DT (e:bJ) (g n:Nat) (v:TV) (K:List e.T→List Prop→aW):aW:=match v with
 | .blk dJ dS xs pV _=>if h:dS=e then .eq dJ g (.eq pV n (K (lY h xs) [xs.length≤4611686018427387904])) else .no
 | _=> .no
def DZ (s:TS) (e:bJ) (g n:Nat) (v:TV) (K:List e.T→List Prop→aW):aW:=match v with
 | .kG dJ m ids=>(match s.get dK with
  | .g3 V di bT _=>if h:bJ.held=e then .eq di ids (.eq dJ 0 (.eq g 0 (.eq n bT (.eq m s.bu (K (lY h V) [V.length≤4611686018427387904]))))) else .no
  | _=> .no)
 | v=>DT e g n v K
def DW (s:TS) (e:bJ) (v:TV) (K:List e.T→List Prop→aW):aW:=match v with
 | .l dS xs _ _=>if h:dS=e then K (lY h xs) [] else .no
 | .nil _ _=>K [] []
 | .ref b g n _=>(match Nat.blt b s.bu with
  | true=>DZ s e g n (s.get (bD b)) K
  | false=> .no)
 | _=> .no
def n_ (s:TS):(e:bJ)→TV→(e.T→List Prop→aW)→aW
 | .int,v,K=>AN .i64 v K
 | .u64,v,K=>AN .u64 v K
 | .bool,v,K=>DU v K
 | .str,v,K=>DY v K
 | .l e,v,K=>DW s e v K
 | _,_,_=> .no
def yk (s:TS):(es:List bJ)→List TV→(c8 es→List Prop→aW)→aW
 | [],[],K=>K () []
 | e::r,v::vs,K=>n_ s e v fun x o=>yk s r vs fun y lF=>K (x,y) (o++lF)
 | _,_,_=> .no
def oa (s:TS) (e:bJ) (v:TV) (K:e.T→List Prop→aW):aW:=match e.isS with
 | true=>(match v with
  | .agg c=>yk s e.kT c fun x o=>K (e.mk x) o
  | _=> .no)
 | false=>n_ s e v K
def DX (s:TS) (e:bJ) (v:TV) (K:e.T→List Prop→aW):aW:=match v with
 | .lp t c=>(match Nat.beq c 0 with
  | true=>(match kU s.vs t with
   | some m=>yk s e.kT (hU s t 0 m) fun x o=>K (e.mk x) o
   | none=> .no)
  | false=> .no)
 | .dA dS x c=>(match Nat.beq c 0 with
  | true=>if h:dS=e then K (Uk h x) [] else .no
  | false=> .no)
 | _=> .no
def DV (f:Nat) (v:TV) (K:Unit→List Prop→aW):aW:=match v with
 | .fn g c=>(match Nat.beq f g with
  | true=>(match c with
   | []=>K () []
   | _=> .no)
  | false=> .no)
 | _=> .no
def AM (f:Nat) (v:TV) (K:TV→aW):aW:=match v with
 | .fn g c=>(match Nat.beq f g with
  | true=>(match c with
   | [w]=>K w
   | _=> .no)
  | false=> .no)
 | _=> .no
def conv (s:TS):(e:bJ)→TV→(e.T→List Prop→aW)→aW
 | .ptr e,v,K=>DX s e v K
 | .ik f .unit,v,K=>DV f v K
 | .ik f e,v,K=>AM f v fun w=>match e.isS with
  | true=> .no
  | false=>conv s e w K
 | .bj,v,K=>oa s .bj v K
 | .ki,v,K=>oa s .ki v K
 | .dt,v,K=>oa s .dt v K
 | .fT,v,K=>oa s .fT v K
 | .gM,v,K=>oa s .gM v K
 | .held,v,K=>oa s .held v K
 | .frame,v,K=>oa s .frame v K
 | .done,v,K=>oa s .done v K
 | .fault,v,K=>oa s .fault v K
 | .stays,v,K=>oa s .stays v K
 | .dd,v,K=>oa s .dd v K
 | .int,v,K=>n_ s .int v K
 | .u64,v,K=>n_ s .u64 v K
 | .u8,v,K=>n_ s .u8 v K
 | .bool,v,K=>n_ s .bool v K
 | .str,v,K=>n_ s .str v K
 | .unit,v,K=>n_ s .unit v K
 | .nat,v,K=>n_ s .nat v K
 | .l e,v,K=>n_ s (.l e) v K
def DN (s:TS):(es:List bJ)→List TV→(c8 es→List Prop→aW)→aW
 | [],[],K=>K () []
 | e::r,v::vs,K=>conv s e v fun x o=>DN s r vs fun y lF=>K (x,y) (o++lF)
 | _,_,_=> .no
section
variable {n:Nat} {s:TS} {R:Exit→TS→Prop}
theorem Um {L:List (Nat×List AV)} {H:List Blk} (e:bJ) (x:e.T):oI L H (cd true e x) (cd false e x):=by
 rw[←qw,←qw]
 have key: ∀(es:List bJ) (y:c8 es),oI L H (l1 true es y) (l1 false es y):=by
  intro es
  induction es with
  | nil=>intro y;exact .nil
  | cons e r bQ=>
   intro y
   refine .cons ?_ (bQ y.2)
   cases e<;>first | exact .int _ _ | exact .bool _ | exact .str _ | exact cH | exact .undef _
 exact key _ _
end
section
variable {n:Nat} {s:TS} {R:Exit→TS→Prop}
theorem Kt {k:IntKind} {v:TV} {K:Int→List Prop→aW} (h:(AN k v K).den R): ∃m,v= .i k m∧(K m []).den R:=by
 unfold AN at h
 split at h
 ·split at h
  ·rename_i e;subst e;exact⟨_,rfl,h⟩
  ·exact h.elim
 ·exact h.elim
end
section
variable {n:Nat} {s:TS} {R:Exit→TS→Prop}
theorem Uy {v:TV} {K:Bool→List Prop→aW} (h:(DU v K).den R): ∃x,v= .b x∧(K x.den []).den R:=by
 unfold DU at h
 split at h
 ·exact⟨_,rfl,h⟩
 ·exact h.elim
end
section
variable {n:Nat} {s:TS} {R:Exit→TS→Prop}
theorem UD {v:TV} {K:ByteArray→List Prop→aW} (h:(DY v K).den R): ∃x,v= .s x∧(K x []).den R:=by
 unfold DY at h
 split at h
 ·exact⟨_,rfl,h⟩
 ·exact h.elim
end
section
variable {n:Nat} {s:TS} {R:Exit→TS→Prop}
theorem Ux {e:bJ} {g m:Nat} {v:TV} {K:List e.T→List Prop→aW} (h:(DT e g m v K).den R): ∃xs,∃hx:xs.length=m,v= .blk g e xs m hx∧(K xs [xs.length≤4611686018427387904]).den R:=by
 unfold DT at h
 split at h
 ·rename_i dJ dS xs pV hx
  split at h
  ·rename_i b0
   subst b0
   obtain⟨h1,h2,h⟩:=h
   subst h1;subst h2
   exact⟨xs,hx,rfl,h⟩
  ·exact h.elim
 ·exact h.elim
end
section
variable {n:Nat} {s:TS} {R:Exit→TS→Prop}
theorem acV {L:List (Nat×List AV)} {H:List Blk} {a b:AV} (h:dc L H a b) (hb: ∀l,b≠ .agg l):gd L H a b:=by
 rcases h with⟨l,fu,_,e,_⟩ | h
 ·exact absurd e (hb fu)
 ·exact h
end
section
variable {n:Nat} {s:TS} {R:Exit→TS→Prop}
theorem U3 (fr:Bool) (e:bJ) (x:e.T): ∀l,oR fr e x≠ .agg l:=by
 intro l h;cases e<;>cases h
end
section
variable {n:Nat} {s:TS} {R:Exit→TS→Prop}
theorem Uz {f:Nat} {v:TV} {K:Unit→List Prop→aW} (h:(DV f v K).den R):v= .fn f []∧(K () []).den R:=by
 unfold DV at h
 split at h
 ·split at h
  ·rename_i hf
   obtain rfl:=Nat.eq_of_beq_eq_true hf
   split at h
   ·exact⟨rfl,h⟩
   ·exact h.elim
  ·exact h.elim
 ·exact h.elim
end
section
variable {n:Nat} {s:TS} {R:Exit→TS→Prop}
theorem UA {f:Nat} {v:TV} {K:TV→aW} (h:(AM f v K).den R): ∃w,v= .fn f [w]∧(K w).den R:=by
 unfold AM at h
 split at h
 ·split at h
  ·rename_i hf
   obtain rfl:=Nat.eq_of_beq_eq_true hf
   split at h
   ·exact⟨_,rfl,h⟩
   ·exact h.elim
  ·exact h.elim
 ·exact h.elim
end
section
variable {n:Nat} {s:TS} {R:Exit→TS→Prop}
theorem U7 {e:bJ} (h:e.isS=false) (x:e.T): ∀l,oc e x≠ .agg l:=by
 intro l
 cases e with
 | ik f e=>cases e<;>(intro h;cases h)
 | ptr e=>intro h;cases h
 | _=>first | (cases h;done) | exact U3 false _ x l
end
section
variable [FZ] {n:Nat} {s:TS} {R:Exit→TS→Prop}
theorem rK {V:List ad} {ids:List Nat} {bT:Nat} {hv:V.length=bT} (hk:s.get dK= .g3 V ids bT hv):(s.aJ n).H=s.gw++List.map bo ‹FZ›.bs:=by
 show s.gw++g4 s=_
 unfold g4 iu
 rw[hk]
theorem KV {V:List ad} {ids:List Nat} {bT:Nat} {hv:V.length=bT} (hk:s.get dK= .g3 V ids bT hv) {id:Nat} {k:Blk} (h:(List.map bo ‹FZ›.bs)[id]?=some k):(s.aJ n).H[id+s.bu]?=some k:=by
 rw[rK hk,List.getElem?_append_right (by rw[nq];omega),nq,Nat.add_sub_cancel];exact h
variable (aP:Fits s)
include aP in
theorem UF {e:bJ} {b g m:Nat} {eJ:Bool} {K:List e.T→List Prop→aW} (hb:b<s.bu) (h:(DZ s e g m (s.get (bD b)) K).den R): ∃x o,(K x o).den R∧((∀φ∈o,φ)→gd (s.aJ n).L (s.aJ n).H (.ref b g 0 m eJ) (.bC (List.map (cd false e) x) false false)):=by
 unfold DZ at h
 split at h
 ·rename_i dJ hP ids hg
  split at h
  ·rename_i V di bT kP hk
   split at h
   ·rename_i he
    subst he
    obtain⟨h1,h2,aO,bd,ch,h⟩:=h
    subst h1;subst h2;subst aO;subst bd;subst ch;subst kP
    refine⟨_,_,h,fun aC=> ?_⟩
    have aL:=aC _ (List.mem_singleton.2 rfl)
    obtain⟨q1,q2,q3⟩:=aP V di _ _ hk
    have pN:V.length= ‹FZ›.ws.length:=by rw[←q2];exact jo q1.ok
    have:=tx (L:=(s.aJ n).L) (H:=(s.aJ n).H) (b:=b) (s:=s.bu) (n:=V.length) (full:=eJ) (ws:= ‹FZ›.ws) (ids:=di) (bs:= ‹FZ›.bs) pN (by rw[rk hb,hg];rfl) (fun id k jP=>KV hk jP) q1.ok (by omega) (fun x hx=>by have:=q1.len x hx;omega)
    rw[q2] at this
    exact this
   ·exact h.elim
  ·exact h.elim
 ·obtain⟨xs,hx,hg,h'⟩:=Ux h
  subst hx
  refine⟨_,_,h',fun aC=> ?_⟩
  have aL:=aC _ (List.mem_singleton.2 rfl)
  exact P8 (eT:=cd true e) (by rw[rk hb,hg];rfl) (fun x=>Um e x) aL
include aP in
theorem UB {e:bJ} {v:TV} {K:List e.T→List Prop→aW} (h:(DW s e v K).den R): ∃x o,(K x o).den R∧((∀φ∈o,φ)→gd (s.aJ n).L (s.aJ n).H v.bE (.bC (List.map (cd false e) x) false false)):=by
 unfold DW at h
 split at h
 ·split at h
  ·rename_i b0;subst b0;exact⟨_,_,h,fun _=>cH⟩
  ·exact h.elim
 ·exact⟨_,_,h,fun _=>by rw[List.map_nil];exact cH⟩
 ·rename_i b g l9 eJ
  split at h
  ·rename_i hb
   exact UF aP (by rw[←Nat.blt_eq];exact hb) h
  ·exact h.elim
 ·exact h.elim
include aP in
theorem DM {e:bJ} {v:TV} {K:e.T→List Prop→aW} (h:(n_ s e v K).den R): ∃x o,(K x o).den R∧((∀φ∈o,φ)→gd (s.aJ n).L (s.aJ n).H v.bE (oR false e x)):=by
 cases e with
 | int=>obtain⟨m,rfl,h⟩:=Kt h;exact⟨m,_,h,fun _=> .int _ _⟩
 | u64=>obtain⟨m,rfl,h⟩:=Kt h;exact⟨m,_,h,fun _=> .int _ _⟩
 | bool=>obtain⟨x,rfl,h⟩:=Uy h;exact⟨_,_,h,fun _=> .bool _⟩
 | str=>obtain⟨x,rfl,h⟩:=UD h;exact⟨_,_,h,fun _=> .str _⟩
 | l e=>exact UB aP h
 | _=>exact h.elim
include aP in
theorem AK: ∀{es:List bJ} {vs:List TV} {K:c8 es→List Prop→aW},(yk s es vs K).den R→ ∃x o,(K x o).den R∧((∀φ∈o,φ)→aD (gd (s.aJ n).L (s.aJ n).H) (cS vs) (l1 false es x))
 | [],[],K,h=>⟨(),[],h,fun _=>aD.nil⟩
 | e::r,v::vs,K,h=>by
  obtain⟨x,o,h,da⟩:=DM aP (n:=n) (show(n_ s e v _).den R from h)
  obtain⟨y,lF,h,ir⟩:=AK h
  exact⟨(x,y),o++lF,h,fun aC=>aD.cons (da fun φ fc=>aC φ (List.mem_append_left _ fc)) (ir fun φ fc=>aC φ (List.mem_append_right _ fc))⟩
 | [],_::_,K,h=>h.elim
 | _::_,[],K,h=>h.elim
include aP in
theorem Uv {e:bJ} {v:TV} {K:e.T→List Prop→aW} (h:(oa s e v K).den R): ∃x o,(K x o).den R∧((∀φ∈o,φ)→dc (s.aJ n).L (s.aJ n).H v.bE (match e.isS with
  | true=> .agg (cd false e x)
  | false=>oR false e x)):=by
 unfold oa at h
 cases m4:e.isS with
 | true=>
  rw[m4] at h
  simp only at h
  split at h
  ·rename_i c
   obtain⟨x,o,h,k⟩:=AK aP (n:=n) h
   refine⟨_,o,h,fun aC=> ?_⟩
   show dc _ _ (.agg (cS c)) (.agg (cd false e (e.mk x)))
   rw[←qw,bJ.SP]
   exact dc.agg (k aC)
  ·exact h.elim
 | false=>
  rw[m4] at h
  obtain⟨x,o,h,k⟩:=DM aP (n:=n) (show(n_ s e v K).den R from h)
  exact⟨x,o,h,fun aC=> .inr (k aC)⟩
include aP in
theorem UC {e:bJ} {v:TV} {K:e.T→List Prop→aW} (h:(DX s e v K).den R): ∃x o,(K x o).den R∧((∀φ∈o,φ)→dc (s.aJ n).L (s.aJ n).H v.bE (.dA (cd false e x) 0)):=by
 unfold DX at h
 split at h
 ·rename_i t c
  split at h
  ·rename_i hc
   obtain rfl:=Nat.eq_of_beq_eq_true hc
   split at h
   ·rename_i m hm
    obtain⟨x,o,h,k⟩:=AK aP (n:=n) h
    refine⟨_,o,h,fun aC=> .inr ?_⟩
    have k:=k aC
    show gd _ _ (.fH t 0) (.dA (cd false e (e.mk x)) 0)
    rw[←qw,bJ.SP]
    exact .fH (cells:=cS (hU s t 0 m)) (by rw[vo,hm];rfl) k.1 k.2
   ·exact h.elim
  ·exact h.elim
 ·rename_i dS x c
  split at h
  ·rename_i hc
   obtain rfl:=Nat.eq_of_beq_eq_true hc
   split at h
   ·rename_i b0;subst b0;exact⟨_,_,h,fun _=> .inr (.dA _ _)⟩
   ·exact h.elim
  ·exact h.elim
 ·exact h.elim
include aP in
theorem DO: ∀{e:bJ} {v:TV} {K:e.T→List Prop→aW},(conv s e v K).den R→ ∃x o,(K x o).den R∧((∀φ∈o,φ)→dc (s.aJ n).L (s.aJ n).H v.bE (oc e x)):=by
 intro e
 induction e with
 | ptr e bQ=>intro v K h;exact UC aP h
 | ik f e bQ=>
  intro v K h
  have key:(∀x,oc (.ik f e) x= .fn f [oc e x])→(AM f v fun w=>match e.isS with
   | true=> .no
   | false=>conv s e w K).den R→ ∃x o,(K x o).den R∧((∀φ∈o,φ)→dc (s.aJ n).L (s.aJ n).H v.bE (oc (.ik f e) x)):=by
   intro he h
   obtain⟨w,rfl,h'⟩:=UA h
   cases m4:e.isS with
   | true=>rw[m4] at h';exact h'.elim
   | false=>
    rw[m4] at h'
    obtain⟨x,o,h2,k⟩:=bQ h'
    refine⟨x,o,h2,fun aC=> .inr ?_⟩
    rw[he]
    refine gd.fn (caps:=[w.bE]) rfl fun j a b h1 h2=> ?_
    cases j with
    | zero=>cases h1;cases h2;exact acV (k aC) (U7 m4 x)
    | succ j=>cases h1
  cases e with
  | unit=>
   obtain⟨rfl,h'⟩:=Uz h
   exact⟨(),[],h',fun _=> .inr (gd.fn (caps:=[]) rfl fun j a b h1 _=>by cases h1)⟩
  | _=>exact key (fun x=>rfl) h
 | _=>
  intro v K h
  first
  | exact Uv aP (n:=n) h
  | (obtain⟨x,o,h,k⟩:=DM aP (n:=n) h;exact⟨x,o,h,fun aC=> .inr (k aC)⟩)
include aP in
theorem Km: ∀{es:List bJ} {vs:List TV} {K:c8 es→List Prop→aW},(DN s es vs K).den R→ ∃x o,(K x o).den R∧((∀φ∈o,φ)→aD (dc (s.aJ n).L (s.aJ n).H) (cS vs) (od es x))
 | [],[],K,h=>⟨(),[],h,fun _=>aD.nil⟩
 | e::r,v::vs,K,h=>by
  obtain⟨x,o,h,da⟩:=DO aP (n:=n) (show(conv s e v _).den R from h)
  obtain⟨y,lF,h,ir⟩:=Km h
  exact⟨(x,y),o++lF,h,fun aC=>aD.cons (da fun φ fc=>aC φ (List.mem_append_left _ fc)) (ir fun φ fc=>aC φ (List.mem_append_right _ fc))⟩
 | [],_::_,K,h=>h.elim
 | _::_,[],K,h=>h.elim
end
def Cl (l:List Prop) (t:aW):aW:=match l with
 | []=>t
 | l=> .p (qt l) t
theorem Kl: ∀{l:List Prop},qt l→ ∀φ∈l,φ
 | [],_,φ,h=>by cases h
 | [a],hc,φ,h=>by rw[List.mem_singleton.1 h];exact hc
 | a::b::r,hc,φ,h=>by
  have hc:a∧qt (b::r):=hc
  rcases List.mem_cons.1 h with rfl | h
  ·exact hc.1
  ·exact Kl hc.2 φ h
theorem OU {l:List Prop} {t:aW} {R:Exit→TS→Prop} (h:(Cl l t).den R):(∀φ∈l,φ)∧t.den R:=by
 unfold Cl at h
 split at h
 ·exact⟨(fun φ h=>by cases h),h⟩
 ·exact⟨Kl h.1,h.2⟩
def Bc {P:Program}:List (eC P)→FuncId→(eC P→aW)→aW
 | [],_,_=> .no
 | c::r,f,K=>match Nat.beq c.f f with
  | true=>K c
  | false=>Bc r f K
def xb:TV→Bool
 | .tup _=>false
 | .o a=>e7 a
 | _=>true
theorem Cf {v:TV} (h:xb v=true):e7 v.bE=true:=by cases v<;>first | rfl | exact h | cases h
def Hg {P:Program} (c:eC P) (x:c8 c.ps):List Prop:=match c.pre with
 | none=>[]
 | some p=>[p x]
def DE {P:Program} (p9:List (eC P)) (f:FuncId) (args:List TV) (s:TS) (K:TV→aW):aW:=match args.all xb with
 | false=> .no
 | true=>Bc p9 f fun c=>DN s c.ps args fun x o=>Cl (o++Hg c x) (K (CJ c.rs (c.fn x)))
theorem K1 {P:Program} {f:FuncId} {K:eC P→aW} {R:Exit→TS→Prop}: ∀{p9:List (eC P)},(Bc p9 f K).den R→ ∃c,c.f=f∧(K c).den R
 | [],h=>h.elim
 | c::r,h=>by
  unfold Bc at h
  split at h
  ·rename_i hf;exact⟨c,Nat.eq_of_beq_eq_true hf,h⟩
  ·exact K1 h
theorem Ui [FZ] {P:Program} {p9:List (eC P)} {f:FuncId} {args:List TV} {s:TS} {K:TV→aW} {R:Exit→TS→Prop} {n:Nat} {Kp:AV→Prop} (aP:Fits s) (hK: ∀v,(K v).den R→Kp v.bE) (h:(DE p9 f args s K).den R):
  oP P f (cS args) (s.aJ n).L (s.aJ n).H Kp:=by
 unfold DE at h
 split at h
 ·exact h.elim
 ·rename_i aG
  obtain⟨c,rfl,h1⟩:=K1 h
  obtain⟨x,o,h2,k⟩:=Km aP (n:=n) h1
  obtain⟨aC,aO⟩:=OU h2
  refine⟨?_,_,_,k fun φ fc=>aC φ (List.mem_append_left _ fc),c.ok x ?_,?_⟩
  ·rw[List.all_eq_true] at aG ⊢
   intro a a3
   rw[n7] at a3
   obtain⟨v,hv,rfl⟩:=List.mem_map.1 a3
   exact Cf (aG v hv)
  ·have aI: ∀φ∈Hg c x,φ:=fun φ fc=>aC φ (List.mem_append_right _ fc)
   unfold Hg at aI
   revert aI
   cases c.pre with
   | none=>intro _;trivial
   | some p=>intro aI;exact aI _ (List.mem_singleton.2 rfl)
  ·rw[←HE];exact hK _ aO
inductive Al:Type 1 where
 | no
 | v (x:TV)
 | c (φ:Prop) (x:TV)
 | lW (φ ψ:Prop) (x:TV)
def rR (F:List Blk→(AV→Prop)→Prop) (K:TV→aW):Al→aW
 | .no=> .no
 | .v x=> .eq F (fun _ Q=>Q x.bE) (pA x K)
 | .c φ x=> .eq F (fun _ Q=>φ∧Q x.bE) (.p φ (pA x K))
 | .lW φ ψ x=> .eq F (fun _ Q=>φ∧ψ∧Q x.bE) (.p (φ∧ψ) (pA x K))
theorem sS {F:List Blk→(AV→Prop)→Prop} (H:List Blk) {K:TV→aW} {g:Al} {R:Exit→TS→Prop} {Kp:AV→Prop} (hK: ∀v,(K v).den R→Kp v.bE) (h:(rR F K g).den R):F H Kp:=by
 cases g with
 | no=>exact h.elim
 | v x=>obtain⟨e,h⟩:=h;rw[qy] at h;rw[e];exact hK _ h
 | c φ x=>obtain⟨e,h1,h⟩:=h;rw[qy] at h;rw[e];exact⟨h1,hK _ h⟩
 | lW φ ψ x=>obtain⟨e,h1,h⟩:=h;rw[qy] at h;rw[e];exact⟨h1.1,h1.2,hK _ h⟩
def qs:TV→List TV
 | .agg c=>c
 | v=>[v]
def vt (P:Program) (t:TypeId) (cells:List TV) (c:Nat):TV:=match w0 P t with
 | true=> .agg ((cells.drop c).take (P.cellsOf t))
 | false=>cells.getD c .u
def qp:eB→Nat
 | .t=>1
 | .f=>2
 | .v _=>3
 | .at i _=>i+8
 | .n x=>5+7*qp x
 | .aF x y=>4+11*qp x+13*qp y
 | .or x y=>6+17*qp x+19*qp y
 | .ite x y z=>7+23*qp x+29*qp y+31*qp z
def Ka (o:Nat) (p q:eB):Nat:=1000000+4*(qp p*4093+qp q)+o
def Wn (op:BinOp) (x y:TV):Al:=match x with
 | .i k a=>(match y with
  | .i _ b=>(match op with
   | .add=> .v (.i k (k.wrap (a+b)))
   | .sub=> .v (.i k (k.wrap (a - b)))
   | .mul=> .v (.i k (k.wrap (a*b)))
   | .quo=> .c (b≠0) (.i k (k.wrap (a.tdiv b)))
   | .rem=> .c (b≠0) (.i k (a.tmod b))
   | .and=> .v (.i k (k.wrap (BitVec.ofInt k.bits a&&&BitVec.ofInt k.bits b).toNat))
   | .shl=> .c (0≤b) (.i k (k.wrap (a*2 ^ (min b.toNat k.bits))))
   | .shr=> .c (0≤b) (.i k (a.fdiv (2 ^ (min b.toNat k.bits))))
   | .eql=> .v (.b (.v (a==b)))
   | .neq=> .v (.b (.v (a !=b)))
   | .lss=> .v (.b (.v (decide (a<b))))
   | .leq=> .v (.b (.v (decide (a≤b))))
   | .gtr=> .v (.b (.v (decide (a>b))))
   | .geq=> .v (.b (.v (decide (a ≥ b))))
   | _=> .no)
  | _=> .no)
 | .b p=>(match y with
  | .b q=>(match op with
   | .eql=> .v (.b (.at (Ka 1 p q) (p.den==q.den)))
   | .neq=> .v (.b (.at (Ka 2 p q) (p.den !=q.den)))
   | _=> .no)
  | _=> .no)
 | .s p=>(match y with
  | .s q=>(match op with
   | .add=> .c (p.size+q.size≤9223372036854775807) (.s (p++q))
   | .eql=> .v (.b (.v (p.toList==q.toList)))
   | .neq=> .v (.b (.v (!(p.toList==q.toList))))
   | _=> .no)
  | _=> .no)
 | .agg l=>(match y with
  | .agg m=>(match l,m with
   | [.i _ a,.i _ b],[.i _ c,.i _ d]=>(match op with
    | .eql=> .v (.b (.v (a==c&&b==d)))
    | .neq=> .v (.b (.v (!(a==c&&b==d))))
    | _=> .no)
   | _,_=> .no)
  | _=> .no)
 | _=> .no
def Ag (P:Program) (t:TypeId):List TV:=match(P.info? t).bind (·.zero) with
 | some z=>z.cells.toList.map AO
 | none=>[]
def KW (pl:List (Nat×Nat)) (cells:List TV):List (Nat×TV)→List TV
 | []=>cells
 | (i,v)::r=>match pl[i]? with
  | some p=>KW pl (cells.take p.1++qs v++cells.drop (p.1+(qs v).length)) r
  | none=>cells
def Wf (e:bJ) (v:TV):e.T:=match e.isS with
 | true=>e.mk (oS e.kT (qs v))
 | false=>EF e v
def Wa:TV→Bool
 | .l _ _ _ fr=>fr
 | .nil _ fr=>fr
 | .agg c=>c.all fun v=>match v with
  | .l _ _ _ fr=>fr
  | .nil _ fr=>fr
  | _=>true
 | _=>true
def Ok (e:bJ) (xs:List e.T) (l:List TV):TV:=match l with
 | []=> .nil true true
 | l=> .l e xs true (l.all Wa)
def B5 (s:TS) (e:bJ):List TV→(List e.T→aW)→aW
 | [],K=>K []
 | v::r,K=>conv s e v fun x _=>B5 s e r fun xs=>K (x::xs)
theorem GK [FZ] {n:Nat} {s:TS} {e:bJ} {R:Exit→TS→Prop} (aP:Fits s): ∀{l:List TV} {K:List e.T→aW},(B5 s e l K).den R→ ∃xs,(K xs).den R
 | [],K,h=>⟨_,h⟩
 | v::r,K,h=>by
  obtain⟨x,o,h,_⟩:=DO aP (n:=n) (show(conv s e v _).den R from h)
  obtain⟨xs,h⟩:=GK (n:=n) aP h
  exact⟨_,h⟩
def w2:List (Nat×bJ)→Nat→(bJ→aW)→aW
 | [],_,_=> .no
 | (k,e)::r,t,K=>match Nat.beq k t with
  | true=>K e
  | false=>w2 r t K
structure hj (P:Program) where
 n:Nat
 yn:List (Nat×bJ)
 p9:List (eC P)
section
variable {P:Program} (cf:hj P) (s:TS)
def gs (P:Program) (n:Nat) (s:TS) (op:Op):Al:=match op with
 | .nilCheck x=> .v (cP n s x)
 | .load t a=>(match cP n s a with
  | .lp v c=>(match kU s.vs v with
   | some m=> .v (vt P t (hU s v 0 m) c)
   | none=> .no)
  | .dA e x c=> .v (vt P t (gJ false e x) c)
  | _=> .no)
 | .fieldAddr t x f=>(match A7 P t f with
  | some fd=>(match cP n s x with
   | .lp v c=> .v (.lp v (c+fd.offset))
   | .dA e x c=> .v (.dA e x (c+fd.offset))
   | .ptr b g i m c=> .v (.ptr b g i m (c+fd.offset))
   | _=> .no)
  | none=> .no)
 | .unOp op _ x=>(match cP n s x with
  | .b z=>(match op with
   | .not=> .v (.b z.not)
   | _=> .no)
  | .i k m=>(match op with
   | .neg=> .v (.i k (k.wrap (0 - m)))
   | _=> .no)
  | _=> .no)
 | .convert _ d x=>(match cP n s x with
  | .i _ m=>(match wZ P d with
   | some k=> .v (.i k (k.wrap m))
   | none=> .no)
  | _=> .no)
 | .binOp op _ x y _=>Wn op (cP n s x) (cP n s y)
 | .build t ps=>(match G8 P t with
  | some pl=> .v (.agg (KW pl (Ag P t) (ps.toList.map fun p=>(p.1,cP n s p.2))))
  | none=> .no)
 | .index _ x i=>(match cP n s x with
  | .s z=>(match cP n s i with
   | .i _ m=> .lW (0≤m) (m<z.size) (.i .u8 (z.data.getD m.toNat 0).toNat)
   | _=> .no)
  | _=> .no)
 | .extract x i=>(match cP n s x with
  | .tup l=> .v (l.getD i .u)
  | _=> .no)
 | .makeFunc fn _ caps=>(match fn with
  | .func f=> .v (.fn f (caps.toList.map (cP n s)))
  | _=> .no)
 | _=> .no
def s7 (P:Program) (t:TypeId):Option Nat:=match jv P t with
 | some e=>(match(P.info? e).isSome with
  | true=>some (P.cellsOf e)
  | false=>none)
 | none=>none
theorem wW {P:Program} {t:TypeId} {m:Nat} (h:s7 P t=some m): ∃e,jv P t=some e∧(P.info? e).isSome=true∧P.cellsOf e=m:=by
 unfold s7 at h
 split at h
 ·rename_i e he
  split at h
  ·rename_i hi;exact⟨e,he,hi,Option.some.inj h⟩
  ·cases h
 ·cases h
def rF (s:TS) (b g:Nat) (K:(e:bJ)→(xs:List e.T)→(m:Nat)→xs.length=m→aW):aW:=match Nat.blt b s.bu with
 | true=>(match s.get (bD b) with
  | .blk dJ e xs m h=> .eq dJ g (K e xs m h)
  | _=> .no)
 | false=> .no
theorem vQ [FZ] {n:Nat} {s:TS} {b g:Nat} {K:(e:bJ)→(xs:List e.T)→(m:Nat)→xs.length=m→aW} {R:Exit→TS→Prop} (h:(rF s b g K).den R):
  ∃e xs m hm,(K e xs m hm).den R∧b<s.bu∧(s.aJ n).H[b]?=some ⟨g,e.l_,xs.map (cd true e)⟩:=by
 unfold rF at h
 split at h
 ·rename_i hb
  have hb:b<s.bu:=by rw[←Nat.blt_eq];exact hb
  split at h
  ·rename_i dJ e xs m hm hg
   obtain⟨h1,h⟩:=h
   subst h1
   exact⟨e,xs,m,hm,h,hb,by rw[rk hb,hg];rfl⟩
  ·exact h.elim
 ·exact h.elim
def AJ (V:List ad) (ids:List Nat) (m:Nat) (i:Int):List TV:=[.i .i64 (nth V i).aq,.i .i64 (nth V i).af,.wm i ids m (nth V i).ac.length,.b (.v (nth V i).ar),.i .i64 (nth V i).au]
theorem Da {ws:List ad} {ids:List Nat} {bs:List (List Bool)} {i:Int} (ok:kl ws ids bs) (h:i.toNat<(view ws ids bs).length):nth (view ws ids bs) i={nth ws i with ac:=bs.getD (nth ids i) []}:=by
 have aL:=jo ok
 have h1:=gV (xs:=ws) (i:=i) (by omega)
 have h2:=gV (xs:=ids) (i:=i) (by have:=ok.len;omega)
 have:=xT (bs:=bs) h1 h2
 rw[gV h] at this
 exact Option.some.inj this
theorem abR [Z:FZ] {V:List ad} {ids:List Nat} {m:Nat} {i:Int} (G:gA Z.ws ids Z.bs) (e:view Z.ws ids Z.bs=V) (h:i.toNat<V.length):(a1 m Z.ws ids)[i.toNat]?=some (cS (AJ V ids m i)):=by
 subst e
 have aL:=jo G.ok
 have L1:=G.ok.len
 rw[dO L1 (by omega)]
 have hb:=G.ok.ac i.toNat _ _ (gV (xs:=Z.ws) (i:=i) (by omega)) (gV (xs:=ids) (i:=i) (by omega))
 unfold AJ
 rw[Da G.ok h]
 show some (kp m (nth Z.ws i) (nth ids i))=some _
 unfold kp
 rw[hb];rfl
def FE (P:Program) (t:TypeId) (b g m:Nat) (i:Int) (s:TS) (v:TV) (K:TV→aW):aW:=match v with
 | .kG dJ _ _=>(match Nat.blt b s.bu with
  | true=> .eq dJ g (.eq (s7 P t) (some 5) (.p (0≤i∧i.toNat<m) (K (.ptr b g i m 0))))
  | false=> .no)
 | _=>rF s b g fun e _ _ _=> .eq (s7 P t) (some e.l_) (.p (0≤i∧i.toNat<m) (K (.ptr b g i m 0)))
def FF (P:Program) (t:TypeId) (w:Int) (ids:List Nat) (m k:Nat) (i:Int) (s:TS) (K:TV→aW):aW:=match s.get dK with
 | .g3 V di _ _=> .eq di ids (.eq m s.bu (.eq (s7 P t) (some 1) (.p (w.toNat<V.length∧0≤i∧i.toNat<k) (K (.wk w ids m i)))))
 | _=> .no
def FG (P:Program) (t:TypeId) (x i:TV) (s:TS) (K:TV→aW):aW:=match i with
 | .i _ i=>(match x with
  | .l e xs _ _=> .eq (s7 P t) (some e.l_) (.p (0≤i∧i.toNat<xs.length) (K (.dA e (tf e xs i) 0)))
  | .ref b g m _=>FE P t b g m i s (s.get (bD b)) K
  | .wm w ids m k=>FF P t w ids m k i s K
  | _=> .no)
 | _=> .no
def GD (P:Program) (t:TypeId) (w:Int) (ids:List Nat) (m:Nat) (j:Int) (s:TS) (K:TV→aW):aW:=match s.get dK with
 | .g3 V di _ _=> .eq di ids (.eq m s.bu (.p (w.toNat<V.length∧j.toNat<(nth V w).ac.length) (rR (fun _ Q=>jI P t [AV.bool (nth (nth V w).ac j)] 0 Q) K (.v (vt P t [.b (.v (nth (nth V w).ac j))] 0)))))
 | _=> .no
def GF (P:Program) (t:TypeId) (b g:Nat) (i:Int) (m c:Nat) (s:TS) (K:TV→aW):aW:=match s.get (bD b) with
 | .kG dJ hP ids=>(match Nat.blt b s.bu with
  | true=>(match s.get dK with
   | .g3 V di _ _=> .eq dJ g (.eq di ids (.p (i.toNat<V.length) (rR (fun _ Q=>jI P t (cS (AJ V ids hP i)) c Q) K (.v (vt P t (AJ V ids hP i) c)))))
   | _=> .no)
  | false=> .no)
 | .eN dJ a_=>(match Nat.blt b s.bu with
  | true=> .eq dJ g (.eq i 0 (rR (fun _ Q=>jI P t (cS a_) c Q) K (.v (vt P t a_ c))))
  | false=> .no)
 | _=>rF s b g fun e xs fB _=> .eq fB m (.p (i.toNat<m) (rR (fun _ Q=>jI P t (cd true e (tf e xs i)) c Q) K (.v (vt P t (gJ true e (tf e xs i)) c))))
def HY (P:Program) (t:TypeId) (x:TV) (lo hi:Option TV) (K:TV→aW):aW:=match x with
 | .l e xs _ fr=>(match lo with
  | none=>(match hi with
   | some (.i _ b)=> .eq (s7 P t) (some e.l_) (.p (0≤b∧b≤(xs.length:Int)) (K (.l e (xs.take b.toNat) false fr)))
   | _=> .no)
  | some (.i _ a)=>(match hi with
   | none=> .eq (s7 P t) (some e.l_) (.p (0≤a∧a≤(xs.length:Int)) (K (.l e (xs.drop a.toNat) false fr)))
   | _=> .no)
  | _=> .no)
 | _=> .no
def GG (P:Program) (t:TypeId) (x:TV) (K:TV→aW):aW:=match x with
 | .l _ xs _ _=> .eq (kb P t x.bE) true (K (.i .i64 xs.length))
 | .nil _ _=> .eq (kb P t x.bE) true (K (.i .i64 (0:Nat)))
 | .s z=> .eq (kb P t x.bE) true (K (.i .i64 z.size))
 | .ref _ _ m _=> .eq (kb P t x.bE) true (K (.i .i64 m))
 | .wm _ _ _ k=> .eq (kb P t x.bE) true (K (.i .i64 k))
 | _=> .no
def sn (o:Oper) (K:TV→aW):aW:=match o.op with
 | .move x=>pA (cP cf.n s x) K
 | .assign x=>pA (cP cf.n s x) K
 | .indexAddr t x i=>FG P t (cP cf.n s x) (cP cf.n s i) s K
 | .load t a=>(match cP cf.n s a with
  | .ptr b g i m c=>GF P t b g i m c s K
  | .wk w ids m j=>GD P t w ids m j s K
  | _=>rR (fun H Q=>j6 P o (fun x=>(cP cf.n s x).bE) s.cs H Q) K (gs P cf.n s o.op))
 | .slice t x lo hi mx=>(match mx with
  | none=>HY P t (cP cf.n s x) (lo.map (cP cf.n s)) (hi.map (cP cf.n s)) K
  | some _=> .no)
 | .call c=>(match c.callee with
  | .builtin b=>(match b with
   | .len=>(match c.args.toList,c.argTypes.toList with
    | [x],[t]=>GG P t (cP cf.n s x) K
    | _,_=> .no)
   | _=> .no)
  | .value f=>(match cP cf.n s f with
   | .fn g caps=>DE cf.p9 g (c.args.toList.map (cP cf.n s)++caps) s K
   | _=> .no)
  | _=> .no)
 | .buildSlice t m ps=>w2 cf.yn t fun e=>B5 s e (ps.toList.map fun p=>cP cf.n s p.2) fun xs=>rR (fun H Q=>j6 P o (fun x=>(cP cf.n s x).bE) s.cs H Q) K (.v (Ok e xs (ps.toList.map fun p=>cP cf.n s p.2)))
 | op=>rR (fun H Q=>j6 P o (fun x=>(cP cf.n s x).bE) s.cs H Q) K (gs P cf.n s op)
end
theorem GY {e:bJ} {xs:List e.T} {i:Int} (h:i.toNat<xs.length) (fr:Bool):(xs.map (cd fr e))[i.toNat]?=some (cd fr e (tf e xs i)):=by
 rw[List.getElem?_map]
 have:xs[i.toNat]?=some (tf e xs i):=by
  have:= @gV e.T e.uK xs i h
  exact this
 rw[this];rfl
section
variable {P:Program} {cf:hj P} {s:TS} {R:Exit→TS→Prop} {K:TV→aW} {Kp:AV→Prop}
theorem ach {t:TypeId} {x:TV} {lo hi:Option TV} {H:List Blk} (hK: ∀v,(K v).den R→Kp v.bE) (h:(HY P t x lo hi K).den R):vj P t x.bE (lo.map TV.bE) (hi.map TV.bE) H Kp:=by
 unfold HY at h
 split at h
 ·rename_i e xs eJ fr
  have e1: ∀{m:Nat},m=e.l_→ ∀(i:Nat) (row:List AV),(List.map (cd false e) xs)[i]?=some row→row.length=m:=fun hm i row aK=>by
   rw[List.getElem?_map] at aK
   cases hx:xs[i]? with
   | none=>rw[hx] at aK;cases aK
   | some x=>rw[hx] at aK;cases aK;rw[rJ,hm]
  split at h
  ·split at h
   ·rename_i k b
    obtain⟨h1,h2,h⟩:=h
    obtain⟨nW,q1,q2,q3⟩:=wW h1
    refine et q1 ?_
    rw[if_pos q2]
    refine⟨h2.1,Nat.zero_le _,by rw[List.length_map];omega,e1 q3,?_⟩
    rw[List.drop_zero,Nat.sub_zero,←List.map_take];exact hK _ h
   ·exact h.elim
  ·split at h
   ·rename_i k a
    obtain⟨h1,h2,h⟩:=h
    obtain⟨nW,q1,q2,q3⟩:=wW h1
    refine et q1 ?_
    rw[if_pos q2]
    refine⟨h2.1,by rw[List.length_map];omega,Nat.le_refl _,e1 q3,?_⟩
    rw[List.take_of_length_le (by rw[List.length_drop];omega),←List.map_drop];exact hK _ h
   ·exact h.elim
  ·exact h.elim
 ·exact h.elim
end
section
variable {P:Program} {cf:hj P} {s:TS} {R:Exit→TS→Prop} {K:TV→aW} {Kp:AV→Prop}
theorem aad {t:TypeId} {x:TV} (hK: ∀v,(K v).den R→Kp v.bE) (h:(GG P t x K).den R):e8 (kb P t x.bE) (sa x.bE Kp):=by
 unfold GG at h
 split at h
 ·obtain⟨h1,h⟩:=h
  rw[h1]
  show Kp (.int .i64 ((List.map _ _).length:Nat))
  rw[List.length_map];exact hK _ h
 ·obtain⟨h1,h⟩:=h;rw[h1];exact hK _ h
 ·obtain⟨h1,h⟩:=h;rw[h1];exact hK _ h
 ·obtain⟨h1,h⟩:=h;rw[h1];exact hK _ h
 ·obtain⟨h1,h⟩:=h;rw[h1];exact hK _ h
 ·exact h.elim
end
section
variable {P:Program} {cf:hj P} {s:TS} {R:Exit→TS→Prop} {K:TV→aW} {Kp:AV→Prop}
theorem GL {l:List (Nat×bJ)} {t:Nat} {K:bJ→aW} (h:(w2 l t K).den R): ∃e,(K e).den R:=by
 induction l with
 | nil=>exact h.elim
 | cons p r bQ=>
  obtain⟨k,e⟩:=p
  unfold w2 at h
  split at h
  ·exact⟨e,h⟩
  ·exact bQ h
end
section
variable [FZ] {P:Program} {cf:hj P} {s:TS} {R:Exit→TS→Prop} {K:TV→aW} {Kp:AV→Prop}
variable (aP:Fits s)
theorem Yg {t:TypeId} {b g m:Nat} {i:Int} {k:IntKind} {eJ:Bool} (hK: ∀v,(K v).den R→Kp v.bE) (h:(FE P t b g m i s (s.get (bD b)) K).den R):wV P t (.ref b g 0 m eJ) (.int k i) (s.aJ cf.n).H Kp:=by
 unfold FE at h
 split at h
 ·rename_i dJ hP ids hg
  split at h
  ·rename_i hb
   have hb:b<s.bu:=by rw[←Nat.blt_eq];exact hb
   obtain⟨h1,h2,aO,h⟩:=h
   subst h1
   obtain⟨nW,q1,q2,q3⟩:=wW h2
   refine et q1 ?_
   rw[if_pos q2]
   refine et (by rw[rk hb,hg]) ⟨rfl,q3.symm,aO.1,by have:=aO.2;omega,?_⟩
   rw[Nat.zero_add];exact hK _ h
  ·exact h.elim
 ·obtain⟨e,xs,fB,hm,h,hb,aS⟩:=vQ (n:=cf.n) h
  obtain⟨h1,h2,h⟩:=h
  obtain⟨nW,q1,q2,q3⟩:=wW h1
  refine et q1 ?_
  rw[if_pos q2]
  refine et aS ⟨rfl,q3.symm,h2.1,by have:=h2.2;omega,?_⟩
  rw[Nat.zero_add];exact hK _ h
include aP in
theorem Eu {V:List ad} {ids:List Nat} {w:Int} {bT:Nat} {hv:V.length=bT} (hk:s.get dK= .g3 V ids bT hv) (hw:w.toNat<V.length):(s.aJ cf.n).H[nth ids w+s.bu]?=some (bo (nth V w).ac):=by
 obtain⟨G,e,_⟩:=aP V ids _ _ hk
 have aL:=jo G.ok
 rw[e] at aL
 have gS:=G.ok.lt w.toNat _ (gV (xs:=ids) (i:=w) (by have:=G.ok.len;omega))
 refine KV hk ?_
 rw[sO gS,←e,Da G.ok (by rw[e];exact hw)]
include aP in
theorem Yi {t:TypeId} {w:Int} {ids:List Nat} {m c:Nat} {i:Int} {k:IntKind} (hK: ∀v,(K v).den R→Kp v.bE) (h:(FF P t w ids m c i s K).den R):wV P t (.ref (nth ids w+m) 0 0 c false) (.int k i) (s.aJ cf.n).H Kp:=by
 unfold FF at h
 split at h
 ·rename_i V di bT kP hk
  obtain⟨h1,h2,aO,bd,h⟩:=h
  subst h1;subst h2
  obtain⟨nW,q1,q2,q3⟩:=wW aO
  refine et q1 ?_
  rw[if_pos q2]
  refine et (Eu aP hk bd.1) ⟨rfl,q3.symm,bd.2.1,by have:=bd.2.2;omega,?_⟩
  rw[Nat.zero_add];exact hK _ h
 ·exact h.elim
include aP in
theorem Yl {t:TypeId} {x i:TV} (hK: ∀v,(K v).den R→Kp v.bE) (h:(FG P t x i s K).den R):wV P t x.bE i.bE (s.aJ cf.n).H Kp:=by
 unfold FG at h
 split at h
 ·split at h
  ·obtain⟨h1,h2,h⟩:=h
   obtain⟨nW,q1,q2,q3⟩:=wW h1
   refine et q1 ?_
   rw[if_pos q2]
   exact⟨h2.1,et (GY h2.2 false) ⟨by rw[rJ,q3],hK _ h⟩⟩
  ·exact Yg hK h
  ·exact Yi aP hK h
  ·exact h.elim
 ·exact h.elim
include aP in
theorem Z5 {t:TypeId} {w:Int} {ids:List Nat} {m:Nat} {j:Int} (hK: ∀v,(K v).den R→Kp v.bE) (h:(GD P t w ids m j s K).den R):oZ P t (.ptr (nth ids w+m) 0 j.toNat 0) (s.aJ cf.n).L (s.aJ cf.n).H Kp:=by
 unfold GD at h
 split at h
 ·rename_i V di bT kP hk
  obtain⟨h1,h2,aO,h⟩:=h
  subst h1;subst h2
  exact et (Eu aP hk aO.1) ⟨rfl,et (yh aO.2) (sS [] hK h)⟩
 ·exact h.elim
include aP in
theorem Z6 {t:TypeId} {b g m c:Nat} {i:Int} (hK: ∀v,(K v).den R→Kp v.bE) (h:(GF P t b g i m c s K).den R):oZ P t (.ptr b g i.toNat c) (s.aJ cf.n).L (s.aJ cf.n).H Kp:=by
 unfold GF at h
 split at h
 ·rename_i dJ hP ids hg
  split at h
  ·rename_i hb
   have hb:b<s.bu:=by rw[←Nat.blt_eq];exact hb
   split at h
   ·rename_i V di bT kP hk
    obtain⟨h1,h2,aO,h⟩:=h
    subst h1;subst h2
    obtain⟨G,e,_⟩:=aP V di _ _ hk
    exact et (by rw[rk hb,hg]) ⟨rfl,et (abR G e aO) (sS [] hK h)⟩
   ·exact h.elim
  ·exact h.elim
 ·rename_i dJ a_ hg
  split at h
  ·rename_i hb
   have hb:b<s.bu:=by rw[←Nat.blt_eq];exact hb
   obtain⟨h1,h2,h⟩:=h
   subst h1;subst h2
   exact et (by rw[rk hb,hg]) ⟨rfl,et (a:=cS a_) rfl (sS [] hK h)⟩
  ·exact h.elim
 ·obtain⟨e,xs,fB,hm,h,hb,aS⟩:=vQ (n:=cf.n) h
  obtain⟨h1,h2,h⟩:=h
  refine et aS ⟨rfl,et (GY (by omega) true) ?_⟩
  exact sS [] hK h
include aP in
theorem PI {o:Oper} (hK: ∀v,(K v).den R→Kp v.bE) (h:(sn cf s o K).den R):j6 P o (cr (s.aJ cf.n).T) (s.aJ cf.n).L (s.aJ cf.n).H Kp:=by
 rw[lb]
 obtain⟨dst,op,ty,pos,after,guard⟩:=o
 unfold sn at h
 split at h
 ·rename_i x fW;cases fW;rw[qy] at h;exact hK _ h
 ·rename_i x fW;cases fW;rw[qy] at h;exact hK _ h
 ·rename_i t x i fW;cases fW;exact Yl aP hK h
 ·rename_i t a fW
  cases fW
  split at h
  ·rename_i b g i m c a3
   show oZ P t (cP cf.n s a).bE _ _ Kp
   rw[a3];exact Z6 aP hK h
  ·rename_i w ids m j a3
   show oZ P t (cP cf.n s a).bE _ _ Kp
   rw[a3];exact Z5 aP hK h
  ·exact sS (F:=fun H Q=>j6 P _ _ _ H Q) _ hK h
 ·rename_i t x lo hi mx fW
  cases fW
  split at h
  ·have:=ach (H:=(s.aJ cf.n).H) hK h
   show vj P t _ (lo.map _) (hi.map _) _ Kp
   rw[Option.map_map,Option.map_map] at this
   exact this
  ·exact h.elim
 ·rename_i c fW
  cases fW
  obtain⟨callee,args,argTypes⟩:=c
  split at h
  ·rename_i b hb
   cases hb
   split at h
   ·show(match args.toList,argTypes.toList with
     | [x],[t]=>e8 (kb P t ((fun x=>(cP cf.n s x).bE) x)) (sa ((fun x=>(cP cf.n s x).bE) x) Kp)
     | _,_=>False)
    split at h
    ·rename_i x t h1 h2
     simp only at h1 h2
     simp only[h1,h2];exact aad hK h
    ·exact h.elim
   ·exact h.elim
  ·rename_i f hf
   cases hf
   show lX (cP cf.n s f).bE fun g caps=>oP P g (args.toList.map (fun x=>(cP cf.n s x).bE)++caps) _ _ Kp
   split at h
   ·rename_i g caps hc
    rw[hc]
    have:=Ui (n:=cf.n) aP hK h
    rw[n7,List.map_append,List.map_map] at this
    show oP P g (_++cS caps) _ _ Kp
    rw[n7];exact this
   ·exact h.elim
  ·exact h.elim
 ·rename_i t m ps fW
  cases fW
  obtain⟨e,h⟩:=GL h
  obtain⟨xs,h⟩:=GK (n:=cf.n) aP h
  exact sS (F:=fun H Q=>j6 P _ _ _ H Q) _ hK h
 ·exact sS (F:=fun H Q=>j6 P _ _ _ H Q) _ hK h
end
theorem fG {n:Int} (h1: -9223372036854775808≤n) (h2:n≤9223372036854775807):IntKind.i64.wrap n=n:=by
 rw[IntKind.wrap_i64];omega
def b3 (x a b:Int):Bool:=decide (a≤x)&&decide (x≤b)
theorem iq {x a b:Int}:b3 x a b=true↔a≤x∧x≤b:=by simp[b3]
theorem gk {α:Type} [Inhabited α] {xs:List α} {i:Int} (h:i.toNat<xs.length):nth xs i=xs[i.toNat]:=by
 have:=gV h
 rw[List.getElem?_eq_getElem h] at this
 exact(Option.some.inj this).symm
theorem dz {α:Type} [Inhabited α] {xs:List α} {i:Int} (h:i.toNat<xs.length):nth xs i∈xs:=by rw[gk h];exact List.getElem_mem h
theorem jg {α:Type} [Inhabited α] {xs:List α} {i:Nat} (h:i<xs.length):nth xs (i:Int)=xs[i]:=by rw[gk (by simpa using h)];simp
def first {α:Type} (xs:List α) (p:α→Bool):Option Nat:=xs.findIdx? p
theorem Vp {α:Type} {xs:List α} {p:α→Bool} (h: ∀x∈xs,p x=false):first xs p=none:=by
 unfold first;rw[List.findIdx?_eq_none_iff];exact h
theorem Vq {α:Type} [Inhabited α] {xs:List α} {p:α→Bool} {i:Int} (h: ∀x∈xs.take i.toNat,p x=false) (hi:i.toNat<xs.length) (aI:p (nth xs i)=true):first xs p=some i.toNat:=by
 unfold first
 rw[List.findIdx?_eq_some_iff_getElem]
 refine⟨hi,by rw[←gk hi];exact aI,fun j aN=> ?_⟩
 have:=h xs[j] (by rw[List.mem_take_iff_getElem];exact⟨j,by omega,rfl⟩)
 simp[this]
def Cj (o:Option Nat):Int:=match o with
 | some i=>i
 | none=> -1
def nJ (xs:List Int) (v:Int):Int:=Cj (first xs (fun x=>v==x))
def fU (xs:List Int) (v:Int):Bool:=xs.contains v
def r6 (xs:List Bool) (v:Bool):Int:=Cj (first xs (fun x=>v==x))
def j7 (xs:List Bool) (v:Bool):Bool:=xs.contains v
def aa {α:Type} (x:α):α:=x
def meets (a b:List Int):Bool:=a.any fun x=>b.contains x
def dup (l:List Int):Bool:= !decide l.Nodup
def bA (w:Way):List cv:=w.aX++w.bx
def hy (l:List Int) (n:Int):Bool:=decide (l.length≤30)&&l.all (fun x=>b3 x 0 (n - 1))&&decide l.Nodup
def lD (p:az) (l:List cv):Bool:=decide (l.length≤30)&&l.all (fun x=>b3 x.sw 0 (p.a5.length - 1)&&b3 x.bj 1 2)&&decide (l.map (·.sw)).Nodup
def g0 (p:az) (w:Way):Bool:=
 decide (w.ai≠[])&&hy w.ai p.ai&&hy w.cQ p.ai&&hy w.cK p.ai&&lD p w.aX&&lD p w.bx&&
 decide ((bA w).map (·.sw)).Nodup&&w.aX.all (fun x=>w.ai.contains (nth p.a5 x.sw))&& !meets w.ai w.cQ
def rE (p:az) (i k:Nat):Bool:=nth (nth p.bW i) k
def n8 (p:az) (i k:Nat):Bool:=(rE p i k !=rE p k i) || (decide (i≠k)&& !rE p i k&&meets (nth p.O i).ai (nth p.O k).ai)
def o6 (p:az):jp:=if p.bW.length=p.O.length then
  match first p.bW (fun b=>decide (b.length≠p.O.length)) with
  | some k=>⟨4,k⟩
  | none=>match first (List.range p.O.length) (fun i=>(List.range p.O.length).any fun k=>n8 p i k) with
   | some k=>⟨5,k⟩
   | none=>⟨0,0⟩
 else⟨4,0⟩
def xm (p:az):jp:=match first p.O (fun w=> !g0 p w) with
 | some k=>⟨3,k⟩
 | none=>o6 p
def xl (p:az):jp:=match first p.a5 (fun s=> !b3 s 0 (p.ai - 1)) with
 | some k=>⟨2,k⟩
 | none=>xm p
def hQ (p:az):jp:=if b3 p.ai 1 60&&b3 p.dx 1 300&&decide (p.a5.length≤40)&&decide (p.O.length≤100) then xl p else⟨1,0⟩
def dT (p:az):Bool:=decide (hQ p=⟨0,0⟩)
def ey (p:az) (e:Event):Bool:=
 if e.op=1∨e.op=2 then b3 e.ah 0 (p.O.length - 1)&&decide (e.bj=0)
 else if e.op=3∨e.op=4 then b3 e.ah 0 (p.ai - 1)&&decide (e.bj=0)
 else if e.op=5 then b3 e.ah 0 (p.a5.length - 1)&&b3 e.bj 0 2
 else if e.op=6 then b3 e.ah 0 (p.a5.length - 1)&&b3 e.bj 1 2
 else if e.op=7 then decide (e.ah=0)&&decide (e.bj=0)
 else false
def small {α:Type} (a:List α):Prop:=a.length≤1048576
def eqv {α:Type} [DecidableEq α] (a b:α):Bool:=decide (a=b)
def rz {α:Type} (a:α):Bool:=true
def zx (l:List Int) (n:Int):Prop:= -9223372036854775808<n∧n≤9223372036854775807
def Hh (p:az) (w:Way):Prop:= -9223372036854775808<p.ai∧p.ai≤9223372036854775807
def Pf (p:az) (e:Event):Prop:= -9223372036854775808<p.ai∧p.ai≤9223372036854775807
def xn (w:Way):Prop:=w.aX.length≤1048576∧w.bx.length≤1048576
def ct (N:Int) (p:Int→Bool) (v:Int):Prop:=0≤v∧v≤N∧ ∀j:Int,0≤j→j<v→p j=false
def cG (N:Int) (v:Int):Nat:=(N - v).toNat
theorem df {N:Int} {p:Int→Bool} (h:0≤N):ct N p 0:=⟨Int.le_refl _,h,fun j aT h1=>by omega⟩
theorem iU {N v:Int} (aG:N≤4611686018427387904) (aT:0≤v) (hv:v<N):IntKind.i64.wrap (v+1)=v+1:=fG (by omega) (by omega)
theorem cO {N v:Int} {p:Int→Bool} (aG:N≤4611686018427387904) (h:ct N p v) (hv:decide (v<N)=true) (aI:p v=false):ct N p (IntKind.i64.wrap (v+1))∧cG N (IntKind.i64.wrap (v+1))<cG N v:=by
 obtain⟨aT,h1,h2⟩:=h
 have hv:v<N:=by simpa using hv
 rw[iU aG aT hv]
 refine⟨⟨by omega,by omega,fun j cq e6=> ?_⟩,by unfold cG;omega⟩
 rcases Int.lt_or_eq_of_le (show j≤v by omega) with aL | rfl
 ·exact h2 j cq aL
 ·exact aI
theorem gO {N v:Int} {p:Int→Bool} (h:ct N p v) (hv:decide (v<N)=false): ∀j:Int,0≤j→j<N→p j=false:=by
 obtain⟨aT,h1,h2⟩:=h
 have hv: ¬v<N:=by simpa using hv
 exact fun j cq e6=>h2 j cq (by omega)
theorem cb {α:Type} {xs:List α} {v:Int} {p:Int→Bool} (h:ct xs.length p v) (hv:decide (v<(xs.length:Int))=true):0≤v∧v.toNat<xs.length:=by
 have hv:v<(xs.length:Int):=by simpa using hv
 exact⟨h.1,by have:=h.1;omega⟩
theorem cw {α:Type} {xs:List α} (h:xs.length≤4611686018427387904):(xs.length:Int)≤4611686018427387904:=by omega
theorem dp {α:Type} (xs:List α):0≤(xs.length:Int):=by omega
theorem ml {α:Type} [Inhabited α] {xs:List α} {q:α→Bool} (h: ∀j:Int,0≤j→j<xs.length→q (nth xs j)=false): ∀x∈xs,q x=false:=fun x hx=>by
 obtain⟨i,hi,rfl⟩:=List.mem_iff_getElem.1 hx
 have:=h i (by omega) (by omega)
 rwa [jg hi] at this
theorem qa {α:Type} [Inhabited α] {xs:List α} {q:α→Bool} {v:Int} (h:ct xs.length (fun j=>q (nth xs j)) v) (hv:decide (v<(xs.length:Int))=true) (aI:q (nth xs v)=true):first xs q=some v.toNat:=by
 have hi:=cb h hv
 refine Vq (fun x hx=> ?_) hi.2 aI
 obtain⟨i,gg,rfl⟩:=List.mem_take_iff_getElem.1 hx
 have:q (nth xs (i:Int))=false:=h.2.2 i (by omega) (by omega)
 rwa [jg (by omega)] at this
theorem qb {α:Type} [Inhabited α] {xs:List α} {q:α→Bool} {v:Int} (h:ct xs.length (fun j=>q (nth xs j)) v) (hv:decide (v<(xs.length:Int))=false):first xs q=none:=
 Vp (ml (gO h hv))
theorem C_ {α:Type} [Inhabited α] {xs:List α} {q:α→Bool} {v:Int} (h:ct xs.length (fun j=>q (nth xs j)) v) (hv:decide (v<(xs.length:Int))=true) (aI:q (nth xs v)=true):xs.any q=true:=by
 rw[List.any_eq_true];exact⟨_,dz (cb h hv).2,aI⟩
theorem z_ {α:Type} [Inhabited α] {xs:List α} {q:α→Bool} {v:Int} (h:ct xs.length (fun j=>q (nth xs j)) v) (hv:decide (v<(xs.length:Int))=false):xs.any q=false:=by
 rw[List.any_eq_false]
 intro x hx
 rw[ml (gO h hv) x hx];simp
theorem not_eq {b:Bool} (h:(!b)=true):b=false:=by simpa using h
theorem HP {α:Type} [Inhabited α] {a b:List α} (aL:a.length=b.length) (h: ∀j:Int,0≤j→j<a.length→nth a j=nth b j):a=b:=by
 apply List.ext_getElem aL
 intro i h1 h2
 have:=h i (by omega) (by omega)
 rwa [jg h1,jg h2] at this
theorem Eg {α:Type} [Inhabited α] [DecidableEq α] {a b:List α} {ne:Int→Bool} (cl: ∀v,ne v=true↔nth a v≠nth b v):
  ((a.length≤4611686018427387904)∧(b.length≤4611686018427387904)→((a.length:Int) !=(b.length:Int))=true→false=eqv a b)∧((a.length≤4611686018427387904)∧(b.length≤4611686018427387904)∧((!((a.length:Int) !=(b.length:Int)))=true)→
   ct a.length ne 0∧ ∀(v:Int),ct a.length ne v→(((decide (v<(a.length:Int)))=false→true=eqv a b)∧((decide (v<(a.length:Int)))=true→(((0≤v∧v.toNat<a.length)∧(0≤v∧v.toNat<b.length))∧((ne v)=true→false=eqv a b))∧
    ((!(ne v))=true→ct a.length ne (IntKind.i64.wrap (v+1))∧cG a.length (IntKind.i64.wrap (v+1))<cG a.length v)))):=by
 refine⟨fun _ h=> ?_,fun⟨h1,h2,aO⟩=> ?_⟩
 ·have:a≠b:=fun e=>by subst e;simp at h
  simp[eqv,this]
 ·have aL:a.length=b.length:=by have:(a.length:Int)=b.length:=by simpa using aO
                                omega
  refine⟨df (dp a),fun v a0=>⟨fun hv=> ?_,fun hv=>⟨⟨⟨cb a0 hv,by rw[←aL];exact cb a0 hv⟩,fun aG=> ?_⟩,fun aG=>cO (cw h1) a0 hv (not_eq aG)⟩⟩⟩
  ·have:a=b:=HP aL fun j cq e6=>by
    have ak:=gO a0 hv j cq e6
    by_cases he:nth a j=nth b j
    ·exact he
    ·rw[(cl j).2 he] at ak;cases ak
   simp[eqv,this]
  ·have:a≠b:=fun e=>(cl v).1 aG (by rw[e])
   simp[eqv,this]
theorem ui {xs:List Int} {x:Int}:fU xs x=true↔x∈xs:=by unfold fU;simp
theorem WZ {xs:List Int} {x k:Int} (hk:k.toNat<xs.length) (h:(x==nth xs k)=true):fU xs x=true:=by
 rw[ui,show x=nth xs k by simpa using h];exact dz hk
theorem WX {xs:List Int} {x:Int} (h: ∀j:Int,0≤j→j<xs.length→(x==nth xs j)=false):fU xs x=false:=by
 rw[←Bool.not_eq_true,ui]
 intro hm
 have:=ml (q:=fun y=>x==y) h x hm
 simp at this
theorem Yj (xs:List Int) (x:Int):(decide (nJ xs x ≥ 0))=fU xs x:=by
 unfold nJ
 cases h:first xs (fun y=>x==y) with
 | none=>
  unfold first at h
  rw[List.findIdx?_eq_none_iff] at h
  have:fU xs x=false:=by
   rw[←Bool.not_eq_true,ui]
   intro hm
   have:=h x hm
   simp at this
  rw[this];rfl
 | some i=>
  unfold first at h
  rw[List.findIdx?_eq_some_iff_getElem] at h
  obtain⟨hi,aI,_⟩:=h
  have:fU xs x=true:=by rw[ui,show x=xs[i] by simpa using aI];exact List.getElem_mem hi
  rw[this]
  show decide ((i:Int) ≥ 0)=true
  simp
theorem UU {xs:List Int} {v:Int} (aT:0≤v) (hv:v.toNat<xs.length) (h:fU (xs.take v.toNat) (nth xs v)=true):dup xs=true:=by
 rw[ui] at h
 unfold dup
 simp only[Bool.not_eq_true',decide_eq_false_iff_not]
 intro aG
 obtain⟨i,hi,he⟩:=List.mem_take_iff_getElem.1 h
 rw[gk hv] at he
 exact(List.pairwise_iff_getElem.1 aG) i v.toNat (by omega) hv (by omega) he
theorem Kz {xs:List Int} (h: ∀j:Int,0≤j→j<xs.length→fU (xs.take j.toNat) (nth xs j)=false):dup xs=false:=by
 unfold dup
 simp only[Bool.not_eq_false',decide_eq_true_eq]
 unfold List.Nodup
 rw[List.pairwise_iff_getElem]
 intro i j hi aN bf he
 have:=h j (by omega) (by omega)
 rw[←Bool.not_eq_true,ui,jg aN] at this
 exact this (by rw[List.mem_take_iff_getElem];exact⟨i,by omega,he⟩)
theorem HH (x n:Int):(decide (x<0) || decide (x ≥ n))= !b3 x 0 (n - 1):=by
 rw[Bool.eq_iff_iff]
 simp[b3]
 omega
theorem OC {α:Type} {l:List α} (k:Nat):decide ((l.length:Int)≤(k:Int))=decide (l.length≤k):=decide_eq_decide.2 (by omega)
theorem aaQ {α:Type} [Inhabited α] {β:Type} [DecidableEq β] {l:List α} {f:α→β} (h: ∀i j:Int,0≤i→i<j→j<l.length→f (nth l i)≠f (nth l j)):(l.map f).Nodup:=by
 unfold List.Nodup
 rw[List.pairwise_iff_getElem]
 intro i j hi aN bf
 simp only[List.length_map] at hi aN
 rw[List.getElem_map,List.getElem_map]
 have:=h i j (by omega) (by omega) (by omega)
 rwa [jg hi,jg aN] at this
theorem OJ {α:Type} [Inhabited α] {β:Type} [DecidableEq β] {l:List α} {f:α→β} {i j:Int} (aT:0≤i) (h1:i<j) (h2:j<l.length) (he:f (nth l i)=f (nth l j)): ¬(l.map f).Nodup:=by
 intro aG
 have:=(List.pairwise_iff_getElem.1 aG) i.toNat j.toNat (by simp;omega) (by simp;omega) (by omega)
 rw[List.getElem_map,List.getElem_map,←gk (by omega),←gk (by omega)] at this
 exact this he
theorem map_id' {α:Type} (l:List α):l.map (fun x=>x)=l:=by simp
theorem qT {l:List Int} {n:Int}:hy l n=true↔l.length≤30∧(∀x∈l,b3 x 0 (n - 1)=true)∧l.Nodup:=by
 unfold hy;simp[and_assoc]
theorem aam {l:List Int} {n:Int} (h: ∀j:Int,0≤j→j<l.length→(!b3 (nth l j) 0 (n - 1) || fU (l.take j.toNat) (nth l j))=false):hy l n=decide (l.length≤30):=by
 have h1: ∀x∈l,b3 x 0 (n - 1)=true:=fun x hx=>by
  have:=ml (q:=fun x=> !b3 x 0 (n - 1)) (fun j cq e6=>(Bool.or_eq_false_iff.1 (h j cq e6)).1) x hx
  simpa using this
 have h2:dup l=false:=Kz fun j cq e6=>(Bool.or_eq_false_iff.1 (h j cq e6)).2
 have h2:l.Nodup:=by unfold dup at h2;simpa using h2
 rw[Bool.eq_iff_iff,qT]
 simp only[decide_eq_true_eq]
 exact⟨fun h=>h.1,fun h=>⟨h,h1,h2⟩⟩
theorem Oj {l:List Int} {n:Int} {v:Int} (hv:v.toNat<l.length) (h:(!b3 (nth l v) 0 (n - 1))=true):hy l n=false:=by
 rw[←Bool.not_eq_true,qT]
 intro b0
 have:=b0.2.1 _ (dz hv)
 simp[this] at h
theorem aal {l:List Int} {n:Int} {i j:Int} (aT:0≤i) (h1:i<j) (h2:j<l.length) (he:(nth l i==nth l j)=true):hy l n=false:=by
 rw[←Bool.not_eq_true,qT]
 intro b0
 have:=OJ (f:=fun x=>x) aT h1 h2 (by simpa using he)
 rw[map_id'] at this
 exact this b0.2.2
theorem WY {l:List Int} {v:Int} (aT:0≤v) (hv:v<l.length) (h: ∀j:Int,0≤j→j<v→(nth l j==nth l v)=false):fU (l.take v.toNat) (nth l v)=false:=by
 rw[←Bool.not_eq_true,ui]
 intro hm
 obtain⟨i,hi,he⟩:=List.mem_take_iff_getElem.1 hm
 have:=h i (by omega) (by omega)
 rw[jg (by omega),he] at this
 simp at this
theorem mB {p:az} {l:List cv}:lD p l=true↔l.length≤30∧(∀x∈l,(b3 x.sw 0 (p.a5.length - 1)&&b3 x.bj 1 2)=true)∧(l.map (·.sw)).Nodup:=by
 unfold lD;simp[and_assoc]
def o0 (p:az) (x:cv):Bool:=(!b3 x.sw 0 (p.a5.length - 1)) || (!b3 x.bj 1 2)
theorem ze (p:az) (x:cv):o0 p x= !(b3 x.sw 0 (p.a5.length - 1)&&b3 x.bj 1 2):=by unfold o0;rw[Bool.not_and]
def zf (l:List cv) (j:Int):Bool:=(l.take j.toNat).any fun y=>y.sw==(nth l j).sw
theorem aaj {p:az} {l:List cv} (h: ∀j:Int,0≤j→j<l.length→(o0 p (nth l j) || zf l j)=false):lD p l=decide (l.length≤30):=by
 have h1: ∀x∈l,(b3 x.sw 0 (p.a5.length - 1)&&b3 x.bj 1 2)=true:=fun x hx=>by
  have:=ml (q:=o0 p) (fun j cq e6=>(Bool.or_eq_false_iff.1 (h j cq e6)).1) x hx
  rw[ze] at this
  simpa using this
 have h2:(l.map (·.sw)).Nodup   :=aaQ fun i j aT h1 aN=>by
  have:=(Bool.or_eq_false_iff.1 (h j (by omega) aN)).2
  unfold zf at this
  rw[List.any_eq_false] at this
  have:=this (nth l i) (by rw[gk (by omega)];exact List.mem_take_iff_getElem.2 ⟨i.toNat,by omega,rfl⟩)
  simpa using this
 rw[Bool.eq_iff_iff,mB]
 simp only[decide_eq_true_eq]
 exact⟨fun h=>h.1,fun h=>⟨h,h1,h2⟩⟩
theorem aak {p:az} {l:List cv} {v:Int} (hv:v.toNat<l.length) (h:o0 p (nth l v)=true):lD p l=false:=by
 rw[←Bool.not_eq_true,mB]
 intro b0
 rw[ze,b0.2.1 _ (dz hv)] at h
 cases h
theorem aai {p:az} {l:List cv} {i j:Int} (aT:0≤i) (h1:i<j) (h2:j<l.length) (he:((nth l i).sw==(nth l j).sw)=true):lD p l=false:=by
 rw[←Bool.not_eq_true,mB]
 exact fun b0=>OJ (f:=fun x:cv=>x.sw) aT h1 h2 (by simpa using he) b0.2.2
theorem aag {l:List cv} {v:Int} (aT:0≤v) (hv:v<l.length) (h: ∀j:Int,0≤j→j<v→((nth l j).sw==(nth l v).sw)=false):zf l v=false:=by
 unfold zf
 rw[List.any_eq_false]
 intro y bm
 obtain⟨i,hi,rfl⟩:=List.mem_take_iff_getElem.1 bm
 have:=h i (by omega) (by omega)
 rw[jg (by omega)] at this
 rw[this];simp
theorem Ov (a b:List Int):meets a b=meets b a:=by
 unfold meets
 rw[Bool.eq_iff_iff]
 simp only[List.any_eq_true,List.contains_iff_mem]
 exact⟨fun⟨x,h1,h2⟩=>⟨x,h2,h1⟩,fun⟨x,h1,h2⟩=>⟨x,h2,h1⟩⟩
theorem uS (x:Int) (b:List Int):meets [x] b=b.contains x:=by unfold meets;simp
theorem n1 {p:az} {w:Way}:g0 p w=true↔w.ai≠[]∧hy w.ai p.ai=true∧hy w.cQ p.ai=true∧hy w.cK p.ai=true∧lD p w.aX=true∧lD p w.bx=true∧
  ((bA w).map (·.sw)).Nodup∧(∀x∈w.aX,w.ai.contains (nth p.a5 x.sw)=true)∧meets w.ai w.cQ=false:=by
 unfold g0;simp[and_assoc]
theorem Ca {w:Way}:((bA w).map (·.sw)).Nodup↔(w.aX.map (·.sw)).Nodup∧(w.bx.map (·.sw)).Nodup∧ ∀x∈w.aX,∀y∈w.bx,x.sw≠y.sw:=by
 unfold bA
 rw[List.map_append,List.nodup_append]
 simp only[List.mem_map]
 constructor
 ·rintro⟨h1,h2,aO⟩;exact⟨h1,h2,fun x hx y bm=>aO _ ⟨x,hx,rfl⟩ _ ⟨y,bm,rfl⟩⟩
 ·rintro⟨h1,h2,aO⟩
  refine⟨h1,h2,?_⟩
  rintro a ⟨x,hx,rfl⟩ b ⟨y,bm,rfl⟩
  exact aO x hx y bm
def kW (p:az):Bool:=b3 p.ai 1 60&&b3 p.dx 1 300&&decide (p.a5.length≤40)&&decide (p.O.length≤100)
theorem G_ {p:az} (h:kW p=false):hQ p=⟨1,0⟩:=by
 unfold hQ;unfold kW at h;rw[if_neg (by rw[h];simp)]
theorem Hb {p:az} (h:kW p=true):hQ p=xl p:=by
 unfold hQ;unfold kW at h;rw[if_pos h]
theorem Pb {p:az} {k:Nat} (hb:kW p=true) (h:first p.a5 (fun s=> !b3 s 0 (p.ai - 1))=some k):hQ p=⟨2,k⟩:=by rw[Hb hb];unfold xl;rw[h]
theorem Pd {p:az} (hb:kW p=true) (h:first p.a5 (fun s=> !b3 s 0 (p.ai - 1))=none):hQ p=xm p:=by rw[Hb hb];unfold xl;rw[h]
theorem Pc {p:az} {k:Nat} (hb:kW p=true) (h:first p.a5 (fun s=> !b3 s 0 (p.ai - 1))=none) (hw:first p.O (fun w=> !g0 p w)=some k):hQ p=⟨3,k⟩:=by rw[Pd hb h];unfold xm;rw[hw]
theorem Ha {p:az} (hb:kW p=true) (h:first p.a5 (fun s=> !b3 s 0 (p.ai - 1))=none) (hw:first p.O (fun w=> !g0 p w)=none):hQ p=o6 p:=by rw[Pd hb h];unfold xm;rw[hw]
theorem Pa {p:az} (h:p.bW.length≠p.O.length):o6 p=⟨4,0⟩:=by unfold o6;rw[if_neg h]
theorem O9 {p:az} {k:Nat} (h:p.bW.length=p.O.length) (hb:first p.bW (fun b=>decide (b.length≠p.O.length))=some k):o6 p=⟨4,k⟩:=by unfold o6;rw[if_pos h,hb]
theorem O_ {p:az} {k:Nat} (h:p.bW.length=p.O.length) (hb:first p.bW (fun b=>decide (b.length≠p.O.length))=none) (ak:first (List.range p.O.length) (fun i=>(List.range p.O.length).any fun k=>n8 p i k)=some k):o6 p=⟨5,k⟩:=by
 unfold o6;rw[if_pos h,hb];simp only;rw[ak]
theorem G9 {p:az} (h:p.bW.length=p.O.length) (hb:first p.bW (fun b=>decide (b.length≠p.O.length))=none) (ak:first (List.range p.O.length) (fun i=>(List.range p.O.length).any fun k=>n8 p i k)=none):o6 p=⟨0,0⟩:=by
 unfold o6;rw[if_pos h,hb];simp only;rw[ak]
theorem sg {p:az}:kW p=true↔(1≤p.ai∧p.ai≤60)∧(1≤p.dx∧p.dx≤300)∧p.a5.length≤40∧p.O.length≤100:=by
 unfold kW b3;simp[and_assoc]
theorem K5 {n:Nat} {q:Nat→Bool} {v:Int} (aT:0≤v) (hv:v<n) (h: ∀j:Int,0≤j→j<v→q j.toNat=false) (ak:q v.toNat=true):first (List.range n) q=some v.toNat:=by
 unfold first
 rw[List.findIdx?_eq_some_iff_getElem]
 refine⟨by simp;omega,by simpa using ak,fun j aN=> ?_⟩
 have:=h j (by omega) (by omega)
 simpa using this
theorem K4 {n:Nat} {q:Nat→Bool} (h: ∀j:Int,0≤j→j<n→q j.toNat=false):first (List.range n) q=none:=by
 unfold first
 rw[List.findIdx?_eq_none_iff]
 intro x hx
 have:=h x (by omega) (by have:=List.mem_range.1 hx;omega)
 simpa using this
theorem JO {n:Nat} {q:Nat→Bool} {v:Int} (aT:0≤v) (hv:v<n) (h:q v.toNat=true):(List.range n).any q=true:=by
 rw[List.any_eq_true];exact⟨v.toNat,List.mem_range.2 (by omega),h⟩
theorem OB {n:Nat} {q:Nat→Bool} (h: ∀j:Int,0≤j→j<n→q j.toNat=false):(List.range n).any q=false:=by
 rw[List.any_eq_false]
 intro x hx
 have:=h x (by omega) (by have:=List.mem_range.1 hx;omega)
 simp only[Int.toNat_natCast] at this
 rw[this];simp
theorem jy {α:Type} [Inhabited α] {xs:List α} {i:Int} (h:0≤i):nth xs (i.toNat:Int)=nth xs i:=by rw[Int.toNat_of_nonneg h]
theorem aaf (p:az) (x:cv):((decide (x.sw<0)) || ((decide (x.sw ≥ (p.a5.length:Int))) || ((x.bj !=1)&&(x.bj !=2))))=o0 p x:=by
 unfold o0
 rw[←HH,Bool.or_assoc]
 congr 2
 rw[Bool.eq_iff_iff]
 simp[b3]
 omega
def pW (p:az) (w:Way) (j:Int):Bool:=o0 p (nth (bA w) j) || (decide (j<(w.aX.length:Int))&& !(fU w.ai (nth p.a5 (nth (bA w) j).sw)))
theorem OE {w:Way} {j:Int} (aT:0≤j) (h:j<w.aX.length):nth (bA w) j=nth w.aX j:=by
 rw[gk (xs:=w.aX) (by omega),gk (by unfold bA;rw[List.length_append];omega)]
 unfold bA
 rw[List.getElem_append_left]
theorem Wl {p:az} {w:Way} (h:g0 p w=true): ∀l∈[w.ai,w.cQ,w.cK],hy l p.ai=true:=by
 obtain⟨-,h1,h2,aO,-⟩:=n1.1 h
 intro l aL
 simp only[List.mem_cons,List.not_mem_nil,or_false] at aL
 rcases aL with rfl | rfl | rfl
 ·exact h1
 ·exact h2
 ·exact aO
theorem Wm {p:az} {w:Way} (h:g0 p w=true) {j:Int} (aT:0≤j) (aN:j.toNat<(bA w).length):pW p w j=false:=by
 obtain⟨-,-,-,-,bd,ch,-,cD,-⟩:=n1.1 h
 have hm:=dz aN
 have hb:o0 p (nth (bA w) j)=false:=by
  rw[ze]
  unfold bA at hm ⊢
  rcases List.mem_append.1 hm with hm | hm
  ·rw[(mB.1 bd).2.1 _ hm];rfl
  ·rw[(mB.1 ch).2.1 _ hm];rfl
 unfold pW
 rw[hb,Bool.false_or]
 by_cases aL:j<(w.aX.length:Int)
 ·rw[OE aT aL]
  have:fU w.ai (nth p.a5 (nth w.aX j).sw)=true:=cD _ (dz (by omega))
  rw[this];simp
 ·simp[aL]
theorem Wk {p:az} {w:Way} (h1:w.ai≠[]) (aL: ∀l∈[w.ai,w.cQ,w.cK],hy l p.ai=true) (aO:w.aX.length≤30) (bd:w.bx.length≤30)
  (aG: ∀j:Int,0≤j→j<(bA w).length→pW p w j=false):((!(dup ((bA w).map (·.sw))))&&(!(meets w.ai w.cQ)))=g0 p w:=by
 have hb: ∀x∈bA w,(b3 x.sw 0 (p.a5.length - 1)&&b3 x.bj 1 2)=true:=fun x hx=>by
  have:=ml (q:=o0 p) (fun j cq e6=>by have:=aG j cq e6;unfold pW at this;exact(Bool.or_eq_false_iff.1 this).1) x hx
  rw[ze] at this
  simpa using this
 have hc: ∀x∈w.aX,w.ai.contains (nth p.a5 x.sw)=true:=fun x hx=>by
  have:=ml (q:=fun x=> !(fU w.ai (nth p.a5 x.sw))) (fun j cq e6=>by
   have:=aG j cq (by unfold bA;rw[List.length_append];omega)
   unfold pW at this
   have:=(Bool.or_eq_false_iff.1 this).2
   rw[OE cq e6] at this
   simpa[e6] using this) x hx
  simp only[Bool.not_eq_false'] at this
  exact this
 rw[Bool.eq_iff_iff,n1]
 simp only[Bool.and_eq_true,Bool.not_eq_true',dup,Bool.not_eq_false',decide_eq_true_eq]
 constructor
 ·rintro⟨bh,hm⟩
  have pG:=Ca.1 bh
  exact⟨h1,aL _ (by simp),aL _ (by simp),aL _ (by simp),mB.2 ⟨aO,fun x hx=>hb x (by unfold bA;exact List.mem_append_left _ hx),pG.1⟩,mB.2 ⟨bd,fun x hx=>hb x (by unfold bA;exact List.mem_append_right _ hx),pG.2.1⟩,bh,hc,hm⟩
 ·rintro⟨-,-,-,-,-,-,bh,-,hm⟩
  exact⟨bh,hm⟩
theorem JW {p:az} {i k:Int} (aT:0≤i) (h1:0≤k):(((nth (nth p.bW i) k) !=(nth (nth p.bW k) i)) || ((i !=k)&&((!(nth (nth p.bW i) k))&&(meets (nth p.O i).ai (nth p.O k).ai))))=n8 p i.toNat k.toNat:=by
 unfold n8 rE
 rw[Int.toNat_of_nonneg aT,Int.toNat_of_nonneg h1]
 have:(i !=k)=decide (i.toNat≠k.toNat):=by
  rw[Bool.eq_iff_iff];simp;omega
 rw[this,Bool.and_assoc]
def qP (n:Int) (e:Event):Bool:=decide (e.ah ≥ 0)&&decide (e.ah<n)
theorem zs (x a b:Int):(bif (x==a) then(x==a) else(x==b))=decide (x=a∨x=b):=by
 by_cases h:x=a
 ·simp[h]
 ·have h1:(x==a)=false:=by simp[h]
  rw[h1,Bool.eq_iff_iff]
  simp[h]
theorem Ej {p:az} {e:Event} (h:e.op=1∨e.op=2):ey p e=(b3 e.ah 0 (p.O.length - 1)&&decide (e.bj=0)):=by unfold ey;rw[if_pos h]
theorem Ek {p:az} {e:Event} (h1: ¬(e.op=1∨e.op=2)) (h:e.op=3∨e.op=4):ey p e=(b3 e.ah 0 (p.ai - 1)&&decide (e.bj=0)):=by unfold ey;rw[if_neg h1,if_pos h]
theorem AZ {p:az} {e:Event} (h:e.op=5):ey p e=(b3 e.ah 0 (p.a5.length - 1)&&b3 e.bj 0 2):=by unfold ey;simp[h]
theorem A0 {p:az} {e:Event} (h:e.op=6):ey p e=(b3 e.ah 0 (p.a5.length - 1)&&b3 e.bj 1 2):=by unfold ey;simp[h]
theorem KJ {p:az} {e:Event} (h:e.op=7):ey p e=(decide (e.ah=0)&&decide (e.bj=0)):=by unfold ey;simp[h]
theorem KL {p:az} {e:Event} (h1: ¬(e.op=1∨e.op=2)) (aO: ¬(e.op=3∨e.op=4)) (ch:e.op≠5) (cD:e.op≠6) (gp:e.op≠7):ey p e=false:=by unfold ey;rw[if_neg h1,if_neg aO,if_neg ch,if_neg cD,if_neg gp]
theorem ql (x y:Int):(x==y)=decide (x=y):=by rw[Bool.eq_iff_iff];simp
theorem Jd (n:Int) (e:Event):qP n e=b3 e.ah 0 (n - 1):=by
 unfold qP b3
 rw[Bool.eq_iff_iff];simp;omega
theorem abg (p:az):((hQ p).code==0)=dT p:=by
 have key:(hQ p).code=0→(hQ p).pos=0:=by
  unfold hQ xl xm o6
  split
  ·split
   ·intro h;cases h
   ·split
    ·intro h;cases h
    ·split
     ·split
      ·intro h;cases h
      ·split
       ·intro h;cases h
       ·intro _;rfl
     ·intro h;cases h
  ·intro h;cases h
 unfold dT
 rw[Bool.eq_iff_iff]
 simp only[beq_iff_eq,decide_eq_true_eq]
 constructor
 ·intro h
  have:=key h
  cases ak:hQ p with
  | mk c q=>rw[ak] at h this;simp at h this;rw[h,this]
 ·intro h;rw[h]
theorem abf (p:az):((hQ p).code==0&&(hQ p).pos==0)=dT p:=by
 unfold dT
 rw[Bool.eq_iff_iff]
 simp only[Bool.and_eq_true,beq_iff_eq,decide_eq_true_eq]
 constructor
 ·rintro⟨h1,h2⟩
  cases ak:hQ p with
  | mk c q=>rw[ak] at h1 h2;simp at h1 h2;rw[h1,h2]
 ·intro h;rw[h];exact⟨rfl,rfl⟩
theorem abd {p:az} (h:dT p=true):kW p=true:=by
 cases hb:kW p with
 | true=>rfl
 | false=>unfold dT at h;rw[G_ hb] at h;simp at h
def jH (f:Frame):Prop:=f.aw.length≤1048576∧f.ap.length≤1048576∧f.O.length≤1048576∧ ∀h∈f.O,h.ac.length≤1048576
structure sA (p:az):Prop where
 c2:0≤p.ai∧p.ai≤60
 O:p.O.length≤100
 sw:p.a5.length≤40
 ai: ∀w∈p.O,w.ai≠[]∧w.ai.length≤30∧ ∀x∈w.ai,0≤x∧x<p.ai
 cQ: ∀w∈p.O,w.cQ.length≤30∧ ∀x∈w.cQ,0≤x∧x<p.ai
 cK: ∀w∈p.O,w.cK.length≤30∧ ∀x∈w.cK,0≤x∧x<p.ai
 aX: ∀w∈p.O,w.aX.length≤30∧w.bx.length≤30∧ ∀x∈bA w,0≤x.sw∧x.sw<p.a5.length
 a5: ∀x∈p.a5,0≤x∧x<p.ai
structure ih (p:az) (f:Frame):Prop where
 aw:(f.aw.length:Int)=p.ai
 ap:f.ap.length=p.a5.length
 O:f.O.length=p.O.length
 ac: ∀(i:Nat) (h:ad) (w:Way),f.O[i]?=some h→p.O[i]?=some w→h.ac.length=w.ai.length
 af: ∀h∈f.O,0≤h.af∧h.af≤h.ac.length
def eh (f:Frame) (x:Int):Bool:=nth f.aw x
def gH (f:Frame) (l:List Int):Bool:=l.any (eh f)
def vk (f:Frame) (l:List Int):Prop:= ∀x∈l,0≤x∧x<f.aw.length
def gl (p:az) (f:Frame) (i:Int):Bool:=
 (bA (nth p.O i)).all (fun l=>decide (nth f.ap l.sw=⟨l.bj,l.bj⟩))&& !gH f (nth p.O i).ai&& !gH f (nth p.O i).cQ
def xo (p:az) (f:Frame) (i:Int):Prop:=sA p∧ih p f∧0≤i∧i<p.O.length
def g8 (n:Nat):ad:=⟨0,0,List.replicate n false,false,0⟩
def a6 (p:az) (i:Int):ad:=g8 (nth p.O i).ai.length
def wX (p:az) (i:Int):Prop:=sA p∧0≤i∧i<p.O.length
def gf (s:List Int) (f:Frame) (ac:List Bool):Nat→Nat→Nat
 | 0,g=>g
 | n+1,g=>if g<s.length∧ac.getD g false=true∧eh f (s.getD g 0)=false∧(g+1=s.length∨ac.getD (g+1) false=true) then gf s f ac n (g+1) else g
def hp (s:List Int) (f:Frame) (h:ad):ad:=
 let ac:=List.zipWith (fun b x=>b || eh f x) h.ac s
 let g:=gf s f ac s.length h.af.toNat
 if g=s.length then g8 s.length else{h with ac:=ac,af:=g}
def mj (p:az) (f:Frame) (i:Nat):ad:=
 let h:=nth f.O i
 let s:=(nth p.O i).ai
 if h.aq=0 then h else
 let h:=if h.aq≠4∧eh f (nth s 0)=true then{h with aq:=4,au:=0} else h
 let h:=if h.aq=1∨h.aq=2 then(if gl p f i=true then{h with aq:=2,ar:=true} else{h with aq:=1}) else h
 if h.aq=4 then hp s f h else h
def iz (p:az):Nat→Frame→Frame
 | 0,f=>f
 | n+1,f=>let g:=iz p n f;{g with O:=g.O.set n (mj p g n)}
def ea (p:az) (f:Frame):Frame:=iz p f.O.length f
def tA (p:az) (f:Frame):Prop:=sA p∧ih p f
structure dr (V:List ad) (ids:List Nat) (v:Int) (h:ad) (ws:List ad) (bs:List (List Bool)):Prop where
 ok:kl ws ids bs
 kV: ∀i j k:Nat,ids[i]?=some k→ids[j]?=some k→i=j
 lt:v.toNat<ws.length
 gZ:view ws ids bs=V.set v.toNat h
 len: ∀b∈bs,b.length≤1048576
section
variable {V:List ad} {ids:List Nat} {v:Int} {h:ad} {ws:List ad} {bs:List (List Bool)}
theorem dr.fo (F:dr V ids v h ws bs):ws.length=ids.length∧v.toNat<ws.length:=⟨F.ok.len,F.lt⟩
theorem dr.tF (F:dr V ids v h ws bs):V.length=ws.length:=by
 have:=congrArg List.length F.gZ
 rw[jo F.ok,List.length_set] at this;exact this.symm
theorem dr.id (F:dr V ids v h ws bs):ids[v.toNat]?=some (nth ids v):=gV (by rw[←F.ok.len];exact F.lt)
theorem dr.qN (F:dr V ids v h ws bs):nth ids v<bs.length:=F.ok.lt _ _ F.id
theorem dr.row (F:dr V ids v h ws bs):h={nth ws v with ac:=bs.getD (nth ids v) []}:=by
 have h1:=xT (bs:=bs) (gV F.lt) F.id
 rw[F.gZ,List.getElem?_set_self (by rw[F.tF];exact F.lt)] at h1
 exact Option.some.inj h1
theorem dr.aq (F:dr V ids v h ws bs):(nth ws v).aq=h.aq:=by rw[F.row]
theorem dr.af (F:dr V ids v h ws bs):(nth ws v).af=h.af:=by rw[F.row]
theorem dr.ar (F:dr V ids v h ws bs):(nth ws v).ar=h.ar:=by rw[F.row]
theorem dr.au (F:dr V ids v h ws bs):(nth ws v).au=h.au:=by rw[F.row]
theorem dr.ac (F:dr V ids v h ws bs):bs.getD (nth ids v) []=h.ac:=by rw[F.row]
theorem dr.qm (F:dr V ids v h ws bs):(nth ws v).ac.length=h.ac.length:=by
 rw[←F.ac];exact F.ok.ac _ _ _ (gV F.lt) F.id
theorem dr.start (ok:kl ws ids bs) (kV: ∀i j k:Nat,ids[i]?=some k→ids[j]?=some k→i=j) (lt:v.toNat<ws.length) (gZ:view ws ids bs=V) (len: ∀b∈bs,b.length≤1048576):dr V ids v (nth V v) ws bs:=by
 have aL:v.toNat<V.length:=by rw[←gZ,jo ok];exact lt
 exact⟨ok,kV,lt,by rw[gZ,gk aL];exact(List.set_getElem_self _).symm,len⟩
theorem dr.re (F:dr V ids v h ws bs) (x:ad) (hx:x.ac.length=h.ac.length):dr V ids v {x with ac:=h.ac} (ws.set v.toNat x) bs where
 ok:=⟨by rw[List.length_set];exact F.ok.len,F.ok.lt,fun i id y h1 h2=>by
  rw[List.getElem?_set] at h1
  split at h1
  ·rename_i e;subst e
   rw[if_pos F.lt] at h1;cases h1
   rw[F.id] at h2;cases h2
   rw[hx,F.ac]
  ·exact F.ok.ac i id y h1 h2⟩
 kV:=F.kV
 lt:=by rw[List.length_set];exact F.lt
 gZ:=by
  apply List.ext_getElem?
  intro j
  have aN:=congrArg (·[j]?) F.gZ
  simp only[view,List.getElem?_zipWith,List.getElem?_set] at aN ⊢
  by_cases e:v.toNat=j
  ·subst e
   have hv:=F.tF
   have:=F.lt
   rw[if_pos rfl,if_pos rfl,if_pos this,if_pos (by omega),F.id]
   show some _=some _
   rw[F.ac]
  ·rw[if_neg e] at aN ⊢
   rw[if_neg e];exact aN
 len:=F.len
theorem dr.setState (F:dr V ids v h ws bs) (x:Int):dr V ids v {h with aq:=x} (ws.set v.toNat ({aq:=x,af:=(nth ws v).af,ac:=(nth ws v).ac,ar:=(nth ws v).ar,au:=(nth ws v).au}:ad)) bs:=by
 have:=F.re ({aq:=x,af:=(nth ws v).af,ac:=(nth ws v).ac,ar:=(nth ws v).ar,au:=(nth ws v).au}:ad) F.qm
 simpa only[F.af,F.ar,F.au] using this
theorem dr.Qa (F:dr V ids v h ws bs) (x:Int):dr V ids v {h with af:=x} (ws.set v.toNat ({aq:=(nth ws v).aq,af:=x,ac:=(nth ws v).ac,ar:=(nth ws v).ar,au:=(nth ws v).au}:ad)) bs:=by
 have:=F.re ({aq:=(nth ws v).aq,af:=x,ac:=(nth ws v).ac,ar:=(nth ws v).ar,au:=(nth ws v).au}:ad) F.qm
 simpa only[F.aq,F.ar,F.au] using this
theorem dr.Qe (F:dr V ids v h ws bs) (x:Bool):dr V ids v {h with ar:=x} (ws.set v.toNat ({aq:=(nth ws v).aq,af:=(nth ws v).af,ac:=(nth ws v).ac,ar:=x,au:=(nth ws v).au}:ad)) bs:=by
 have:=F.re ({aq:=(nth ws v).aq,af:=(nth ws v).af,ac:=(nth ws v).ac,ar:=x,au:=(nth ws v).au}:ad) F.qm
 simpa only[F.aq,F.af,F.au] using this
theorem dr.xF (F:dr V ids v h ws bs) (x:Int):dr V ids v {h with au:=x} (ws.set v.toNat ({aq:=(nth ws v).aq,af:=(nth ws v).af,ac:=(nth ws v).ac,ar:=(nth ws v).ar,au:=x}:ad)) bs:=by
 have:=F.re ({aq:=(nth ws v).aq,af:=(nth ws v).af,ac:=(nth ws v).ac,ar:=(nth ws v).ar,au:=x}:ad) F.qm
 simpa only[F.aq,F.af,F.ar] using this
theorem dr.HR (F:dr V ids v h ws bs) (b:List Bool) (hb:b.length=h.ac.length):dr V ids v {h with ac:=b} ws (bs.set (nth ids v) b) where
 ok:=⟨F.ok.len,fun i id hi=>by rw[List.length_set];exact F.ok.lt i id hi,fun i id y h1 h2=>by
  rw[F.ok.ac i id y h1 h2,List.getD_eq_getElem?_getD,List.getD_eq_getElem?_getD,List.getElem?_set]
  split
  ·rename_i e;subst e
   rw[if_pos F.qN,←List.getD_eq_getElem?_getD,F.ac];exact hb.symm
  ·rfl⟩
 kV:=F.kV
 lt:=F.lt
 gZ:=by
  apply List.ext_getElem?
  intro j
  have aN:=congrArg (·[j]?) F.gZ
  simp only[view,List.getElem?_zipWith,List.getElem?_set] at aN ⊢
  by_cases e:v.toNat=j
  ·subst e
   have hv:=F.tF
   have:=F.lt
   rw[if_pos rfl,if_pos (by omega),F.id,gV F.lt]
   simp only[List.getD_eq_getElem?_getD,List.getElem?_set,if_pos F.qN]
   rw[F.row];simp
  ·rw[if_neg e] at aN ⊢
   rw[←aN]
   cases h1:ws[j]? with
   | none=>rfl
   | some y=>
    cases h2:ids[j]? with
    | none=>rfl
    | some id=>
     have cl:nth ids v≠id:=fun gS=>by
      have aO:=F.id
      rw[gS] at aO
      exact e (F.kV _ _ _ aO h2)
     simp only[List.getD_eq_getElem?_getD,List.getElem?_set,if_neg cl]
 len:=fun x hx=>by
  rcases List.mem_or_eq_of_mem_set hx with hx | rfl
  ·exact F.len x hx
  ·rw[hb,←F.ac,List.getD_eq_getElem?_getD,List.getElem?_eq_getElem F.qN];exact F.len _ (List.getElem_mem F.qN)
theorem dr.new (F:dr V ids v h ws bs) (x:ad) (hx:x.ac.length≤1048576):dr V (ids.set v.toNat bs.length) v x (ws.set v.toNat x) (bs++[x.ac]) where
 ok:=⟨by rw[List.length_set,List.length_set];exact F.ok.len,fun i id hi=>by
   rw[List.getElem?_set] at hi
   rw[List.length_append,List.length_singleton]
   split at hi
   ·split at hi
    ·cases hi;omega
    ·cases hi
   ·have:=F.ok.lt i id hi;omega,fun i id y h1 h2=>by
   rw[List.getElem?_set] at h1 h2
   split at h1
   ·rename_i e;subst e
    have:=F.ok.len
    have:=F.lt
    rw[if_pos F.lt] at h1;rw[if_pos rfl,if_pos (by omega)] at h2
    cases h1;cases h2;simp
   ·rename_i e
    rw[if_neg e] at h2
    rw[F.ok.ac i id y h1 h2,List.getD_eq_getElem?_getD,List.getD_eq_getElem?_getD,List.getElem?_append_left (F.ok.lt i id h2)]⟩
 kV:=fun i j k hi aN=>by
  rw[List.getElem?_set] at hi aN
  have bf: ∀q,ids[q]?≠some bs.length:=fun q ak=>by have:=F.ok.lt q _ ak;omega
  split at hi
  ·rename_i e;subst e
   split at hi
   ·cases hi
    split at aN
    ·rename_i e;exact e
    ·exact absurd aN (bf j)
   ·cases hi
  ·split at aN
   ·rename_i e;subst e
    split at aN
    ·cases aN;exact absurd hi (bf i)
    ·cases aN
   ·exact F.kV i j k hi aN
 lt:=by rw[List.length_set];exact F.lt
 gZ:=by
  apply List.ext_getElem?
  intro j
  have aN:=congrArg (·[j]?) F.gZ
  simp only[view,List.getElem?_zipWith,List.getElem?_set] at aN ⊢
  by_cases e:v.toNat=j
  ·subst e
   have hv:=F.tF
   have:=F.lt
   have:=F.ok.len
   rw[if_pos rfl,if_pos rfl,if_pos rfl,if_pos F.lt,if_pos (by omega),if_pos (by omega)]
   simp
  ·rw[if_neg e] at aN ⊢
   rw[if_neg e,if_neg e,←aN]
   cases h1:ws[j]? with
   | none=>rfl
   | some y=>
    cases h2:ids[j]? with
    | none=>rfl
    | some id=>
     simp only
     rw[List.getD_eq_getElem?_getD,List.getD_eq_getElem?_getD,List.getElem?_append_left (F.ok.lt j id h2)]
 len:=fun b hb=>by
  rcases List.mem_append.1 hb with hb | hb
  ·exact F.len b hb
  ·rw[List.mem_singleton.1 hb];exact hx
end
theorem we (ws:List ad):kl ws (List.range ws.length) (ws.map ad.ac)∧(∀i j k:Nat,(List.range ws.length)[i]?=some k→(List.range ws.length)[j]?=some k→i=j)∧view ws (List.range ws.length) (ws.map ad.ac)=ws:=by
 refine⟨⟨by simp,fun i id h=> ?_,fun i id h h1 h2=> ?_⟩,fun i j k h1 h2=> ?_,?_⟩
 ·obtain⟨hi,rfl⟩:=List.getElem?_eq_some_iff.1 h
  simpa using hi
 ·obtain⟨hi,rfl⟩:=List.getElem?_eq_some_iff.1 h2
  simp[h1]
 ·obtain⟨hi,rfl⟩:=List.getElem?_eq_some_iff.1 h1
  obtain⟨aN,e⟩:=List.getElem?_eq_some_iff.1 h2
  simpa using e.symm
 ·apply List.ext_getElem?
  intro j
  unfold view
  rw[List.getElem?_zipWith]
  rcases Nat.lt_or_ge j ws.length with aN | aN
  ·rw[List.getElem?_range aN,List.getElem?_eq_getElem aN]
   simp[aN]
  ·rw[List.getElem?_eq_none aN]
theorem pc (p:az) (f:Frame): ∀n,(iz p n f).ok=f.ok∧(iz p n f).aw=f.aw∧(iz p n f).ap=f.ap
 | 0=>⟨rfl,rfl,rfl⟩
 | n+1=>pc p f n
theorem EK {s:List Int} {f:Frame} {ac:List Bool}: ∀(n g:Nat),g≤s.length→g≤gf s f ac n g∧gf s f ac n g≤s.length
 | 0,g,h=>⟨Nat.le_refl _,h⟩
 | n+1,g,h=>by
  unfold gf
  split
  ·rename_i hc
   have:=EK (f:=f) (ac:=ac) n (g+1) hc.1
   exact⟨by omega,this.2⟩
  ·exact⟨Nat.le_refl _,h⟩
theorem aa4 {s:List Int} {f:Frame} {h:ad} (hb:h.ac.length=s.length) (hg:0≤h.af∧h.af≤h.ac.length):(hp s f h).ac.length=s.length∧0≤(hp s f h).af∧(hp s f h).af≤(hp s f h).ac.length:=by
 unfold hp
 simp only
 have aL:(List.zipWith (fun b x=>b || eh f x) h.ac s).length=s.length:=by rw[List.length_zipWith];omega
 have b0:=(EK (s:=s) (f:=f) (ac:=List.zipWith (fun b x=>b || eh f x) h.ac s) s.length h.af.toNat (by omega)).2
 split
 ·simp[g8]
 ·exact⟨aL,Int.natCast_nonneg _,by simp only;rw[aL];omega⟩
theorem ae2 {p:az} {f:Frame} {i:Nat} (hb:(nth f.O i).ac.length=(nth p.O i).ai.length) (hg:0≤(nth f.O i).af∧(nth f.O i).af≤(nth f.O i).ac.length):
  (mj p f i).ac.length=(nth p.O i).ai.length∧0≤(mj p f i).af∧(mj p f i).af≤(mj p f i).ac.length:=by
 unfold mj
 simp only
 split
 ·exact⟨hb,hg⟩
 ·have h1: ∀(c:Prop) [Decidable c] (x y:ad),x.ac=y.ac→x.af=y.af→(if c then x else y).ac=y.ac∧(if c then x else y).af=y.af:=fun c _ x y br e2=>by
   split
   ·exact⟨br,e2⟩
   ·exact⟨rfl,rfl⟩
  generalize iF:(if(nth f.O i).aq≠4∧eh f (nth (nth p.O i).ai 0)=true then{nth f.O i with aq:=4,au:=0} else nth f.O i)=A
  have m3:A.ac=(nth f.O i).ac∧A.af=(nth f.O i).af:=by rw[←iF];exact h1 _ _ _ rfl rfl
  generalize eg:(if A.aq=1∨A.aq=2 then(if gl p f i=true then{A with aq:=2,ar:=true} else{A with aq:=1}) else A)=B
  have EN:B.ac=(nth f.O i).ac∧B.af=(nth f.O i).af:=by
   rw[←eg,←m3.1,←m3.2]
   exact h1 _ _ _ (by split<;>rfl) (by split<;>rfl)
  have br:B.ac.length=(nth p.O i).ai.length:=by rw[EN.1];exact hb
  have e2:0≤B.af∧B.af≤B.ac.length:=by rw[EN.1,EN.2];exact hg
  split
  ·exact aa4 br e2
  ·exact⟨br,e2⟩
theorem zU {p:az} {f:Frame} (h:ih p f): ∀n,ih p (iz p n f)
 | 0=>h
 | n+1=>by
  have bQ:=zU h n
  show ih p {iz p n f with O:=(iz p n f).O.set n (mj p (iz p n f) n)}
  have key:n<(iz p n f).O.length→(mj p (iz p n f) n).ac.length=(nth p.O n).ai.length∧0≤(mj p (iz p n f) n).af∧(mj p (iz p n f) n).af≤(mj p (iz p n f) n).ac.length:=fun aG=>by
   have hw:=bQ.O
   have h1:(iz p n f).O[n]?=some (nth (iz p n f).O n):=by rw[jg aG];exact List.getElem?_eq_getElem aG
   have h2:p.O[n]?=some (nth p.O n):=by rw[jg (by omega)];exact List.getElem?_eq_getElem (by omega)
   exact ae2 (bQ.ac n _ _ h1 h2) (bQ.af _ (List.mem_of_getElem? h1))
  refine⟨bQ.aw,bQ.ap,by rw[List.length_set];exact bQ.O,fun i x w h1 h2=> ?_,fun x hx=> ?_⟩
  ·replace h1:((iz p n f).O.set n (mj p (iz p n f) n))[i]?=some x:=h1
   rw[List.getElem?_set] at h1
   split at h1
   ·rename_i e;subst e
    split at h1
    ·rename_i aG
     cases h1
     have hw:=bQ.O
     rw[(key aG).1,jg (by omega)]
     rw[List.getElem?_eq_getElem (by omega)] at h2
     cases h2;rfl
    ·cases h1
   ·exact bQ.ac i x w h1 h2
  ·rcases List.mem_or_eq_of_mem_set hx with hx | rfl
   ·exact bQ.af x hx
   ·by_cases aG:n<(iz p n f).O.length
    ·exact(key aG).2
    ·rw[List.set_eq_of_length_le (by omega)] at hx
     exact bQ.af _ hx
theorem pb (p:az) (f:Frame): ∀n,(iz p n f).O.length=f.O.length
 | 0=>rfl
 | n+1=>by show((iz p n f).O.set n _).length=_;rw[List.length_set];exact pb p f n
theorem Hj {p:az} {f g:Frame} {i:Int} (h1:f.aw=g.aw) (h2:f.ap=g.ap):gl p f i=gl p g i:=by
 unfold gl gH eh
 rw[h1,h2]
def kh (s:List Int) (f:Frame) (b:List Bool) (v:Nat):List Bool:=List.zipWith (fun b x=>b || eh f x) (b.take v) (s.take v)++b.drop v
theorem Jl {s:List Int} {f:Frame} {b:List Bool} {v:Nat} (aL:b.length=s.length) (hv:v≤s.length):(kh s f b v).length=b.length:=by
 unfold kh
 rw[List.length_append,List.length_zipWith,List.length_take,List.length_take,List.length_drop];omega
theorem SR (s:List Int) (f:Frame) (b:List Bool):kh s f b 0=b:=by simp[kh]
theorem SU {s:List Int} {f:Frame} {b:List Bool} {v:Nat} (aL:b.length=s.length) (hv:s.length≤v):kh s f b v=List.zipWith (fun b x=>b || eh f x) b s:=by
 unfold kh
 rw[List.take_of_length_le (by omega),List.take_of_length_le hv,List.drop_of_length_le (by omega),List.append_nil]
theorem SS {s:List Int} {f:Frame} {b:List Bool} {v:Nat} (aL:b.length=s.length) (hv:v<s.length):nth (kh s f b v) v=b[v]:=by
 rw[jg (by rw[Jl aL (by omega)];omega)]
 unfold kh
 rw[List.getElem_append_right (by rw[List.length_zipWith,List.length_take,List.length_take];omega)]
 simp only[List.length_zipWith,List.length_take,List.getElem_drop]
 congr 1;omega
theorem SV {s:List Int} {f:Frame} {b:List Bool} {v:Nat} (aL:b.length=s.length) (hv:v<s.length):(kh s f b v).set v (b[v] || eh f s[v])=kh s f b (v+1):=by
 unfold kh
 have hlen:(List.zipWith (fun b x=>b || eh f x) (b.take v) (s.take v)).length=v:=by rw[List.length_zipWith,List.length_take,List.length_take];omega
 rw[List.set_append_right _ _ (by omega),hlen,Nat.sub_self,List.take_succ_eq_append_getElem (by omega),List.take_succ_eq_append_getElem hv,List.zipWith_append (by rw[List.length_take,List.length_take];omega),List.append_assoc]
 congr 1
 rw[List.drop_eq_getElem_cons (by omega:v<b.length)]
 rfl
def nC (s:List Int) (f:Frame) (ac:List Bool) (g:Int):Bool:=
 decide (g<(s.length:Int))&&(nth ac g&&((!(nth f.aw (nth s g)))&&((g==IntKind.i64.wrap ((s.length:Int) - 1)) || nth ac (IntKind.i64.wrap (g+1)))))
theorem Ln {s:List Int} {f:Frame} {ac:List Bool} {g:Nat} (hs:s.length≤1048576) (hg:g≤s.length):
  nC s f ac g=true↔g<s.length∧ac.getD g false=true∧eh f (s.getD g 0)=false∧(g+1=s.length∨ac.getD (g+1) false=true):=by
 unfold nC
 rw[fG (by omega) (by omega),fG (by omega) (by omega)]
 have br:nth ac (g:Int)=ac.getD g false:=rfl
 have e2:nth ac ((g:Int)+1)=ac.getD (g+1) false:=rfl
 have dW:nth s (g:Int)=s.getD g 0:=rfl
 rw[br,e2,dW]
 simp only[Bool.and_eq_true,Bool.or_eq_true,decide_eq_true_eq,Bool.not_eq_true',beq_iff_eq]
 constructor
 ·rintro⟨h1,h2,aO,bd⟩;exact⟨by omega,h2,aO,bd.imp (fun h=>by omega) _root_.id⟩
 ·rintro⟨h1,h2,aO,bd⟩;exact⟨by omega,h2,aO,bd.imp (fun h=>by omega) _root_.id⟩
def wo (s:List Int) (f:Frame) (ac:List Bool) (bB g:Int):Prop:=0≤g∧g≤s.length∧gf s f ac s.length bB.toNat=gf s f ac (s.length - g.toNat) g.toNat
theorem Bh {s:List Int} {f:Frame} {ac:List Bool} {n g:Nat} (h: ¬(g<s.length∧ac.getD g false=true∧eh f (s.getD g 0)=false∧(g+1=s.length∨ac.getD (g+1) false=true))):gf s f ac n g=g:=by
 cases n with
 | zero=>rfl
 | succ n=>unfold gf;rw[if_neg h]
theorem Lr {s:List Int} {f:Frame} {ac:List Bool}: ∀(n m g:Nat),s.length≤n+g→s.length≤m+g→gf s f ac n g=gf s f ac m g
 | 0,m,g,h1,h2=>by
  rw[Bh (n:=m) fun h=>by omega];rfl
 | n+1,0,g,h1,h2=>by rw[Bh (n:=n+1) fun h=>by omega];rfl
 | n+1,m+1,g,h1,h2=>by
  unfold gf
  split
  ·exact Lr n m (g+1) (by omega) (by omega)
  ·rfl
theorem Lo {s:List Int} {f:Frame} {ac:List Bool} {g:Int} (aT:0≤g) (h1:g≤s.length):wo s f ac g g:=⟨aT,h1,Lr _ _ _ (by omega) (by omega)⟩
theorem Lp {s:List Int} {f:Frame} {ac:List Bool} {bB g:Int} (hs:s.length≤1048576) (h:wo s f ac bB g) (hc:nC s f ac g=true):wo s f ac bB (IntKind.i64.wrap (g+1))∧g<s.length:=by
 obtain⟨aT,h1,h2⟩:=h
 obtain⟨k,rfl⟩:=Int.eq_ofNat_of_zero_le aT
 have hc:=(Ln hs (by omega)).1 hc
 rw[fG (by omega) (by omega)]
 refine⟨⟨by omega,by omega,?_⟩,by omega⟩
 rw[h2]
 simp only[Int.toNat_natCast]
 rw[show((k:Int)+1).toNat=k+1 by omega,show s.length - k=(s.length - (k+1))+1 by omega]
 conv=>lhs;unfold gf
 rw[if_pos hc]
theorem EJ {s:List Int} {f:Frame} {ac:List Bool} {bB g:Int} (hs:s.length≤1048576) (h:wo s f ac bB g) (hc:nC s f ac g=false):(gf s f ac s.length bB.toNat:Int)=g:=by
 obtain⟨aT,h1,h2⟩:=h
 obtain⟨k,rfl⟩:=Int.eq_ofNat_of_zero_le aT
 rw[h2]
 simp only[Int.toNat_natCast]
 rw[Bh fun b0=>by rw[(Ln hs (by omega)).2 b0] at hc;cases hc]
def HT (p:az) (f:Frame) (bs:List (List Bool)) (ids:List Nat) (v:Int) (ws:List ad):Prop:=
 ct f.O.length (fun _=>false) v∧kl ws ids bs∧(∀i j k:Nat,ids[i]?=some k→ids[j]?=some k→i=j)∧view ws ids bs=(iz p v.toNat f).O∧ ∀b∈bs,b.length≤1048576
def dR (p:az) (f:Frame) (v:Int):Frame:=iz p v.toNat f
def c2 (p:az) (v:Int):List Int:=(nth p.O v).ai
def h5 (p:az) (f:Frame) (v:Int):ad:=
 let G:=dR p f v
 let h:=nth G.O v
 if h.aq≠4∧eh G (nth (c2 p v) 0)=true then{h with aq:=4,au:=0} else h
def gG (p:az) (f:Frame) (v:Int):ad:=
 let h:=h5 p f v
 if h.aq=1∨h.aq=2 then(if gl p (dR p f v) v=true then{h with aq:=2,ar:=true} else{h with aq:=1}) else h
def qk (p:az) (f:Frame) (v:Int):List Bool:=List.zipWith (fun b x=>b || eh (dR p f v) x) (gG p f v).ac (c2 p v)
theorem Sz {p:az} {f:Frame} {v:Int} (aT:0≤v):mj p (dR p f v) v.toNat=if(nth (dR p f v).O v).aq=0 then nth (dR p f v).O v else if(gG p f v).aq=4 then hp (c2 p v) (dR p f v) (gG p f v) else gG p f v:=by
 unfold mj gG h5 c2
 rw[jy aT,jy aT,Int.toNat_of_nonneg aT]
theorem ti {p:az} {f:Frame} {v:Int}:(h5 p f v).ac=(nth (dR p f v).O v).ac∧(h5 p f v).af=(nth (dR p f v).O v).af:=by
 unfold h5;simp only;split<;>exact⟨rfl,rfl⟩
theorem Cs {p:az} {f:Frame} {v:Int}:(gG p f v).ac=(nth (dR p f v).O v).ac∧(gG p f v).af=(nth (dR p f v).O v).af:=by
 rw[←ti.1,←ti.2]
 unfold gG;simp only;split
 ·split<;>exact⟨rfl,rfl⟩
 ·exact⟨rfl,rfl⟩
theorem vg {p:az} {f:Frame} {v:Int} {h:ad} {ws:List ad} {ids:List Nat} {bs:List (List Bool)} (aG:(f.O.length:Int)≤4611686018427387904) (a0:ct f.O.length (fun _=>false) v) (hv:decide (v<(f.O.length:Int))=true)
  (F:dr (dR p f v).O ids v h ws bs) (b0:h=mj p (dR p f v) v.toNat):HT p f bs ids (IntKind.i64.wrap (v+1)) ws∧cG f.O.length (IntKind.i64.wrap (v+1))<cG f.O.length v:=by
 have bk:=cO aG a0 hv rfl
 refine⟨⟨bk.1,F.ok,F.kV,?_,F.len⟩,bk.2⟩
 have aT:=a0.1
 have hv:v<(f.O.length:Int):=by simpa using hv
 rw[iU aG aT hv,show(v+1).toNat=v.toNat+1 by omega,F.gZ,b0]
 rfl
def BT (j:Int) (k:Bool) (o:List Bool) (q:List a8) (w:List ad) (i:List Nat) (b:List (List Bool)):Prop:=gA w i b∧0≤j∧j<w.length
def uJ (j:Int) (k:Bool) (o:List Bool) (q:List a8) (w:List ad) (i:List Nat) (b:List (List Bool)) (lF:List Bool) (tj:List a8) (w':List ad) (jd:List Nat) (cn:List (List Bool)):Prop:=
 gA w' jd cn∧view w' jd cn=(view w i b).set j.toNat (g8 (nth (view w i b) j).ac.length)
def c7 (k:Bool) (o:List Bool) (q:List a8) (w:List ad) (i:List Nat) (b:List (List Bool)):Frame:=⟨k,o,q,view w i b⟩
def O5 (s:Way) (j:Int) (k:Bool) (o:List Bool) (q:List a8) (w:List ad) (i:List Nat) (b:List (List Bool)):Prop:=
 gA w i b∧0≤j∧j<w.length∧s.ai.length≤1048576∧(∀x∈s.ai,0≤x∧x<o.length)∧(nth (view w i b) j).ac.length=s.ai.length∧0≤(nth (view w i b) j).af∧(nth (view w i b) j).af≤s.ai.length
def zu (s:Way) (j:Int) (k:Bool) (o:List Bool) (q:List a8) (w:List ad) (i:List Nat) (b:List (List Bool)) (lF:List Bool) (tj:List a8) (w':List ad) (jd:List Nat) (cn:List (List Bool)):Prop:=
 gA w' jd cn∧view w' jd cn=(view w i b).set j.toNat (hp s.ai (c7 k o q w i b) (nth (view w i b) j))
def HU (p:az) (k:Bool) (o:List Bool) (q:List a8) (w:List ad) (i:List Nat) (b:List (List Bool)):Prop:=gA w i b∧tA p (c7 k o q w i b)
def zS (p:az) (k:Bool) (o:List Bool) (q:List a8) (w:List ad) (i:List Nat) (b:List (List Bool)) (lF:List Bool) (tj:List a8) (w':List ad) (jd:List Nat) (cn:List (List Bool)):Prop:=
 gA w' jd cn∧view w' jd cn=(ea p (c7 k o q w i b)).O
def P9 (f g:Frame):Prop:=f.O.length=g.O.length∧jH f∧jH g∧ ∀(i:Nat) (x y:ad),f.O[i]?=some x→g.O[i]?=some y→x.ac.length=y.ac.length
def oE (f g:Frame):Bool:=decide (f.O=g.O)
def LN (p:az) (f:Frame) (i:Int):Prop:=sA p∧jH f∧f.O.length=p.O.length∧0≤i∧i<p.O.length
def hn (p:az) (f:Frame) (i:Int):Bool:=
 let h:=nth f.O i
 let n:=(nth p.O i).ai.length
 b3 h.aq 0 4&&decide (h.ac.length=n)&&b3 h.af 0 ((n:Int) - 1)&&(decide (h.aq=4) || (decide (h.af=0)&&h.ac.all (fun b=> !b)))&&(h.ac.take h.af.toNat).all (fun b=>b)&&
 (if h.aq=3 then h.ar&&b3 h.au 1 p.dx else decide (h.au=0)&&(decide (h.aq≠0) || !h.ar)&&(decide (h.aq≠2) || h.ar))
def Du (p:az) (f:Frame):Bool:=(List.range f.O.length).all fun i=>(List.range f.O.length).all fun k=>decide (i=k) || !rE p i k || decide ((nth f.O i).aq=0) || decide ((nth f.O k).aq=0)
def eI (p:az) (f:Frame):Bool:=
 dT p&&f.ok&&decide ((f.aw.length:Int)=p.ai)&&decide (f.ap.length=p.a5.length)&&decide (f.O.length=p.O.length)&&
 f.ap.all (fun x=>b3 x.b5 1 2&&b3 x.aX 0 2)&&(List.range f.O.length).all (fun i=>hn p f i)&&Du p f&&oE f (ea p f)
def yu (p:az) (f:Frame):Prop:=jH f
theorem ww {xs:List Bool} {b:Bool}:j7 xs b=true↔b∈xs:=by unfold j7;simp
theorem Yh (xs:List Bool) (x:Bool):(decide (r6 xs x ≥ 0))=j7 xs x:=by
 unfold r6
 cases h:first xs (fun y=>x==y) with
 | none=>
  unfold first at h
  rw[List.findIdx?_eq_none_iff] at h
  have:j7 xs x=false:=by
   rw[←Bool.not_eq_true,ww]
   intro hm
   have:=h x hm
   simp at this
  rw[this];rfl
 | some i=>
  unfold first at h
  rw[List.findIdx?_eq_some_iff_getElem] at h
  obtain⟨hi,hx,_⟩:=h
  have:j7 xs x=true:=by
   rw[ww]
   have hx:x=xs[i]:=by simpa using hx
   rw[hx];exact List.getElem_mem hi
  rw[this]
  show decide ((i:Int) ≥ 0)=true
  simp
def vd (a b:Frame):Bool:=eqv a.aw b.aw&&eqv a.ap b.ap&&eqv a.O b.O
def v_ (a b:List ad) (_:Unit):Bool:=eqv a b
def qS (f:Frame) (l:cv):Bool:=((nth f.ap l.sw).b5 !=l.bj) || ((nth f.ap l.sw).aX !=l.bj)
def Pk (p:az) (f:Frame) (i:Int):Prop:= ∀l∈bA (nth p.O i),qS f l=false
theorem Hi (p:az) (f:Frame) (i:Int):gl p f i=((bA (nth p.O i)).all (fun l=> !qS f l)&& !gH f (nth p.O i).ai&& !gH f (nth p.O i).cQ):=by
 have ak: ∀l:cv,decide (nth f.ap l.sw=⟨l.bj,l.bj⟩)= !qS f l:=fun l=>by
  unfold qS
  rcases nth f.ap l.sw with⟨x,y⟩
  rw[Bool.eq_iff_iff];simp
 unfold gl
 simp only[ak]
theorem Jj {α:Type} {x y:α} {v:Int} (aT:0≤v) (h1:v.toNat<[x,y].length):v=0∨v=1:=by simp at h1;omega
theorem gA.oO {w:List ad} {i:List Nat} {b:List (List Bool)} {j:Int} (F:gA w i b) (h:j.toNat<w.length):dr (view w i b) i j (nth (view w i b) j) w b:=dr.start F.ok F.kV h rfl F.len
section
variable {V:List ad} {ids di:List Nat} {v:Int} {h x:ad} {ws kH:List ad} {bs mr:List (List Bool)}
theorem dr.G (F:dr V ids v h ws bs):gA ws ids bs:=⟨F.ok,F.kV,F.len⟩
theorem dr.xc (F:dr V ids v h ws bs):nth (view ws ids bs) v=h:=by
 rw[gk (by rw[jo F.ok];exact F.lt)]
 simp only[F.gZ,List.getElem_set_self]
theorem dr.again (F:dr V ids v h ws bs) (G:gA kH di mr) (e:view kH di mr=(view ws ids bs).set v.toNat x):dr V di v x kH mr where
 ok:=G.ok
 kV:=G.kV
 lt:=by
  have:=congrArg List.length e
  rw[jo G.ok,List.length_set,jo F.ok] at this
  have:=F.lt;omega
 gZ:=by rw[e,F.gZ,List.set_set]
 len:=G.len
end
theorem O4 {s:List Int} {f g:Frame} {h:ad} (e:f.aw=g.aw):hp s f h=hp s g h:=by
 have aC:eh f=eh g:=by funext x;unfold eh;rw[e]
 have hg: ∀(ac:List Bool) (n q:Nat),gf s f ac n q=gf s g ac n q:=fun ac n=>by
  induction n with
  | zero=>intro q;rfl
  | succ n bQ=>intro q;unfold gf;rw[aC,bQ]
 unfold hp
 simp only[aC,hg]
def nN (s:List Int) (f:Frame) (h:ad):List Bool:=List.zipWith (fun b x=>b || eh f x) h.ac s
theorem O3 (s:List Int) (f:Frame) (h:ad):hp s f h=if gf s f (nN s f h) s.length h.af.toNat=s.length then g8 s.length else{h with ac:=nN s f h,af:=gf s f (nN s f h) s.length h.af.toNat}:=rfl
def aa6 (s:List Int) (f:Frame) (V:List ad) (ids:List Nat) (j:Int) (ws:List ad) (bs:List (List Bool)) (k:Int):Prop:=
 ct s.length (fun _=>false) k∧dr V ids j {nth V j with ac:=kh s f (nth V j).ac k.toNat} ws bs
def aa7 (s:List Int) (f:Frame) (V:List ad) (ids:List Nat) (j:Int) (bs:List (List Bool)) (ws:List ad):Prop:=
 ∃g,wo s f (nN s f (nth V j)) (nth V j).af g∧dr V ids j {nth V j with ac:=nN s f (nth V j),af:=g} ws bs
theorem ae9 {s:List Int} {f:Frame} {ac:List Bool} {g:Int} (hs:s.length≤1048576) (h:decide (g<(s.length:Int))=true):
  ((!(nth ac g)) || ((nth f.aw (nth s g)) || ((decide (g<(IntKind.i64.wrap ((s.length:Int) - 1))))&&(!(nth ac (IntKind.i64.wrap (g+1)))))))= !nC s f ac g:=by
 unfold nC
 rw[h,Bool.true_and,fG (n:=(s.length:Int) - 1) (by omega) (by omega)]
 have:(g==(s.length:Int) - 1)= !decide (g<(s.length:Int) - 1):=by
  have h:g<(s.length:Int):=by simpa using h
  rw[Bool.eq_iff_iff];simp;omega
 rw[this]
 cases nth ac g<;>cases nth f.aw (nth s g)<;>cases decide (g<(s.length:Int) - 1)<;>cases nth ac (IntKind.i64.wrap (g+1))<;>rfl
def pu:List (Nat×TV)→Bool
 | []=>true
 | (k,_)::r=>match Nat.ble 1000010 k&&Nat.blt k 1000000000000 with
  | true=>pu r
  | false=>false
theorem AA {l:List (Nat×TV)} (h:pu l=true) {k:Nat} (hk:k<1000010∨1000000000000≤k): ∀v,(k,v) ∉ l:=by
 induction l with
 | nil=>intro v hv;cases hv
 | cons p r bQ=>
  obtain⟨a,w⟩:=p
  unfold pu at h
  split at h
  ·rename_i a3
   rw[Bool.and_eq_true,Nat.blt_eq] at a3
   intro v hv
   rcases List.mem_cons.1 hv with e | hv
   ·cases e;have:=Nat.le_of_ble_eq_true a3.1;have:=a3.2;omega
   ·exact bQ h v hv
  ·cases h
def TS.add (s:TS) (l:List (Nat×TV)) (vs:List (Nat×Nat)) (bu:Nat):TS:=⟨l++s.T,s.B,vs,bu⟩
theorem TS.iY (s:TS) (l:List (Nat×TV)) (vs:List (Nat×Nat)) (bu k:Nat):(s.add l vs bu).get k=fY l k (s.get k):=by
 unfold TS.get TS.add;exact sc ..
theorem x9 {n:Nat} {s:TS} {l:List (Nat×TV)} {vs:List (Nat×Nat)} {bu:Nat} (aG:n≤1000000) (h:pu l=true):(s.add l vs bu).tT n=s.tT n:=by
 show(List.range n).map _=(List.range n).map _
 refine List.map_congr_left fun t bq=> ?_
 have bq:t<n:=List.mem_range.1 bq
 rw[TS.iY,ta (AA h (.inl (by omega)))]
theorem Cc {s s':TS} (e:s'.get dK=s.get dK):iu s'=iu s:=by unfold iu;rw[e]
theorem I2 [FZ] {n:Nat} {s s':TS} (hb:s'.bu=s.bu) (e: ∀b,s'.get (bD b)=s.get (bD b)) (dS:s'.get dK=s.get dK):(s'.aJ n).H=(s.aJ n).H:=by
 show s'.gw++g4 s'=s.gw++g4 s
 unfold TS.gw g4
 rw[Cc dS,hb]
 simp only[e]
theorem x8 [FZ] {n:Nat} {s:TS} {l:List (Nat×TV)} {vs:List (Nat×Nat)} (h:pu l=true):((s.add l vs s.bu).aJ n).H=(s.aJ n).H:=
 I2 rfl (fun b=>by rw[TS.iY,ta (AA h (.inr (by unfold bD;omega)))]) (by rw[TS.iY,ta (AA h (.inl (by unfold dK;omega)))])
theorem x_ [FZ] {s:TS} {l:List (Nat×TV)} {vs:List (Nat×Nat)} {bu:Nat} (h:pu l=true) (f:Fits s):Fits (s.add l vs bu):=
 f.congr fun k _ h2=>by rw[TS.iY,ta (AA h (.inl h2))]
def tY (v:Nat):Nat→List TV→List (Nat×TV)
 | _,[]=>[]
 | c,a::r=>(eL v c,a)::tY v (c+1) r
def TS.gQ (s:TS) (b bu:Nat) (v:TV):TS:=s.add [(bD b,v)] s.vs bu
theorem Dz (s:TS) {b bu:Nat} {v:TV} {k:Nat} (h:k<1000000000000):(s.gQ b bu v).get k=s.get k:=by
 unfold TS.gQ
 rw[TS.iY,gL,if_neg (by unfold bD;omega)];rfl
theorem qn {n:Nat} {s:TS} {b bu:Nat} {v:TV} (aG:n≤1000000):(s.gQ b bu v).tT n=s.tT n:=by
 show(List.range n).map _=(List.range n).map _
 refine List.map_congr_left fun t bq=> ?_
 have bq:t<n:=List.mem_range.1 bq
 rw[Dz s (by omega)]
theorem qo [FZ] {s:TS} {b bu:Nat} {v:TV} (f:Fits s):Fits (s.gQ b bu v):=f.congr fun k _ h2=>Dz s (by omega)
theorem J5 {s:TS} {b bu:Nat} {v:TV}:iu (s.gQ b bu v)=iu s:=Cc (Dz s (by unfold dK;omega))
theorem J4 (s:TS) (b bu:Nat) (v:TV) (cn:Nat):(s.gQ b bu v).get (bD cn)=if b=cn then v else s.get (bD cn):=by
 unfold TS.gQ
 rw[TS.iY,gL]
 by_cases h:b=cn
 ·subst h;rw[if_pos rfl,if_pos rfl]
 ·rw[if_neg h,if_neg (by unfold bD;omega)];rfl
theorem tU [FZ] {n:Nat} {s:TS} {b:Nat} {v:TV} (h:b<s.bu):((s.gQ b s.bu v).aJ n).H=(s.aJ n).H.set b v.en:=by
 show(s.gQ b s.bu v).gw++g4 (s.gQ b s.bu v)=(s.gw++g4 s).set b v.en
 rw[List.set_append_left _ _ (by rw[nq];exact h)]
 have e2:g4 (s.gQ b s.bu v)=g4 s:=by unfold g4;rw[J5]
 rw[e2]
 congr 1
 apply List.ext_getElem?
 intro i
 rw[p8,List.getElem?_set,p8,nq,J4]
 show(if i<s.bu then _ else _)=_
 by_cases hi:b=i
 ·subst hi;simp[h]
 ·simp[hi]
theorem AD [FZ] {n:Nat} {s:TS} {v:TV} (cZ:iu s=true):((s.gQ s.bu (s.bu+1) v).aJ n).H=(s.aJ n).H++[v.en]:=by
 show(s.gQ s.bu (s.bu+1) v).gw++g4 (s.gQ s.bu (s.bu+1) v)=(s.gw++g4 s)++[v.en]
 unfold g4
 rw[J5,cZ]
 show(s.gQ s.bu (s.bu+1) v).gw++[]=(s.gw++[])++[v.en]
 rw[List.append_nil,List.append_nil]
 apply List.ext_getElem?
 intro i
 rw[p8,J4]
 show(if i<s.bu+1 then _ else _)=_
 rcases Nat.lt_trichotomy i s.bu with h | h | h
 ·rw[if_pos (by omega),if_neg (by omega),List.getElem?_append_left (by rw[nq];exact h),p8,if_pos h]
 ·subst h
  rw[if_pos (by omega),if_pos rfl,List.getElem?_append_right (by rw[nq];exact Nat.le_refl _),nq];simp
 ·rw[if_neg (by omega),List.getElem?_eq_none (by rw[List.length_append,nq];simp;omega)]
def vn (P:Program) (t:TypeId) (v:AV):Bool:=(P.info? t).isSome&&Nat.beq (fj v).length (P.cellsOf t)&&(fj v).all jk
theorem CW {P:Program} {t:TypeId} {v:AV} (h:vn P t v=true):(P.info? t).isSome=true∧(fj v).length=P.cellsOf t∧(fj v).all jk=true:=by
 simp only[vn,Bool.and_eq_true] at h
 exact⟨h.1.1,Nat.eq_of_beq_eq_true h.1.2,h.2⟩
def I3 (P:Program) (n:Nat) (t:TypeId) (b g:Nat) (i:Int) (m c:Nat) (v:TV) (s:TS) (K:TS→aW):aW:=match xb v with
 | false=> .no
 | true=>rF s b g fun e xs fB h=>yk s e.kT ((gJ true e (tf e xs i)).take c++qs v++(gJ true e (tf e xs i)).drop (c+(qs v).length)) fun Dd _=>
  let y:=e.mk Dd
  let s':=s.gQ b s.bu (.blk g e (xs.set i.toNat y) fB (by rw[List.length_set];exact h))
  .eq fB m (.eq (vn P t v.bE) true (.eq (Nat.ble (c+(fj v.bE).length) e.l_) true (.eq (fp (cd true e (tf e xs i)) c (fj v.bE)) (cd true e y) (.eq s'.cs s.cs (.p (i.toNat<m) (K s'))))))
def B8 (P:Program) (t:TypeId):Option (List AV×Nat):=match jv P t with
 | some e=>(match ns P e with
  | some z=>(match Nat.beq z.length (P.cellsOf e)&&z.all jk with
   | true=>some (z.map mR,P.bytesOf e)
   | false=>none)
  | none=>none)
 | none=>none
theorem Oy {P:Program} {t:TypeId} {S5:List AV} {B:Nat} (h:B8 P t=some (S5,B)): ∃e z,jv P t=some e∧ns P e=some z∧z.length=P.cellsOf e∧z.all jk=true∧S5=z.map mR∧B=P.bytesOf e:=by
 unfold B8 at h
 split at h
 ·rename_i e he
  split at h
  ·rename_i z aP
   split at h
   ·rename_i hc
    simp only[Bool.and_eq_true] at hc
    cases h
    exact⟨e,z,he,aP,Nat.eq_of_beq_eq_true hc.1,hc.2,rfl,rfl⟩
   ·cases h
  ·cases h
 ·cases h
def qv (P:Program) (t:TypeId):Nat:=match jv P t with
 | some e=>P.bytesOf e
 | none=>0
def Wg (e:bJ) (c:List TV):e.T:=match e.isS with
 | true=>e.mk (oS e.kT c)
 | false=>EF e (c.getD 0 .u)
def GV (P:Program) (n:Nat) (t:TypeId) (e:bJ) (l c:TV) (s:TS) (K:TV→TS→aW):aW:=match l with
 | .i _ l=>(match c with
  | .i _ c=>
   let ba:=Wg e (match jv P t with
    | some nW=>Ag P nW
    | none=>[])
   let xs:=List.replicate l.toNat ba
   let s':=s.gQ s.bu (s.bu+1) (.blk 0 e xs xs.length rfl)
   .eq (B8 P t) (some (cd true e ba,qv P t)) (.eq l c (.eq s'.cs s.cs (.eq (iu s) true (.p (0≤l∧(qv P t:Int)*l≤140737488355328∧l≤4611686018427387904) (K (.ref s.bu 0 xs.length false) s')))))
  | _=> .no)
 | _=> .no
def At (P:Program) (t t2:TypeId) (x:AV):Option (Nat×Nat):=match jv P t with
 | some e=>(match ns P e with
  | some z=>(match Nat.beq z.length (P.cellsOf e)&&Nat.blt 0 z.length&&tS P e t2 x with
   | true=>some (z.length,P.bytesOf e)
   | false=>none)
  | none=>none)
 | none=>none
theorem JQ {P:Program} {t t2:TypeId} {x:AV} {m B:Nat} (h:At P t t2 x=some (m,B)): ∃e z,jv P t=some e∧ns P e=some z∧(z.length=P.cellsOf e∧0<z.length∧tS P e t2 x=true)∧m=z.length∧B=P.bytesOf e:=by
 unfold At at h
 split at h
 ·rename_i e he
  split at h
  ·rename_i z aP
   split at h
   ·rename_i hc
    simp only[Bool.and_eq_true] at hc
    cases h
    exact⟨e,z,he,aP,⟨Nat.eq_of_beq_eq_true hc.1.1,by rw[←Nat.blt_eq];exact hc.1.2,hc.2⟩,rfl,rfl⟩
   ·cases h
  ·cases h
 ·cases h
def bJ.flat:bJ→Bool
 | .int | .u64 | .u8 | .bool | .str | .bj | .fT | .gM | .fault=>true
 | _=>false
theorem Vw {e:bJ} (h:e.flat=true) (x:e.T):cd false e x=cd true e x:=by cases e<;>first | rfl | cases h
theorem abJ (e:bJ) (x:e.T):(cd false e x).map pa=cd true e x:=by
 rw[←qw,←qw]
 have key: ∀(es:List bJ) (y:c8 es),(l1 false es y).map pa=l1 true es y:=by
  intro es
  induction es with
  | nil=>intro y;rfl
  | cons e r bQ=>
   intro y
   show pa (oR false e y.1)::(l1 false r y.2).map pa=_
   rw[bQ,l1]
   congr 1
   cases e<;>rfl
 exact key _ _
theorem PL {e:bJ} {fr:Bool} (h:(fr || e.flat)=true) (xs:List e.T):lJ fr (xs.map (cd false e))=xs.map (cd true e):=by
 cases fr with
 | true=>
  show(xs.map (cd false e)).map (fun row=>row.map pa)=_
  rw[List.map_map]
  exact List.map_congr_left fun x _=>abJ e x
 | false=>exact List.map_congr_left fun x _=>Vw h x
def Ds (P:Program) (n:Nat) (t t2:TypeId) (v x:TV) (s:TS) (K:TV→TS→aW):aW:=match x with
 | .l e ys jO fr=>(match(fr || e.flat)&&e.o5 with
  | false=> .no
  | true=>(match v with
   | .nil full _=>(match full with
    | true=>
     let s':=s.gQ s.bu (s.bu+1) (.blk 0 e ys ys.length rfl)
     .eq (At P t t2 (TV.l e ys jO fr).bE) (some (e.l_,qv P t)) (.eq s'.cs s.cs (.eq (iu s) true (.p (ys.length*qv P t≤140737488355328∧ys.length≤4611686018427387904) (K (.ref s.bu 0 ys.length false) s'))))
    | false=> .no)
   | .ref b g m _=>rF s b g fun dS xs fB h=>if he:e=dS then
     let iC:=xs++lY he ys
     let s':=s.gQ b s.bu (.blk (g+1) dS iC iC.length rfl)
     .eq fB m (.eq (At P t t2 (TV.l e ys jO fr).bE) (some (e.l_,qv P t)) (.eq s'.cs s.cs (.p ((xs.length+ys.length)*qv P t≤140737488355328∧xs.length+ys.length≤4611686018427387904) (K (.ref b (g+1) iC.length false) s'))))
    else .no
   | _=> .no))
 | _=> .no
section
variable {P:Program} (cf:hj P) (s:TS)
def yy (o:Oper) (v:TV) (l:List (Nat×TV)) (vs:List (Nat×Nat)) (K:TV→TS→aW):aW:=match pu l with
 | true=> .eq (fun H Q=>kn P [] o (fun x=>(cP cf.n s x).bE) s.cs H Q) (fun H Q=>Q v.bE (s.add l vs s.bu).cs H) (K v (s.add l vs s.bu))
 | false=> .no
end
section
variable {P:Program} {cf:hj P} {s:TS} {R:Exit→TS→Prop}
variable {K:TV→TS→aW} {Kp:AV→List (Nat×List AV)→List Blk→Prop}
theorem Ch {b:Bool} {x:Prop} (h:b=true) (k:x):e8 b x:=by subst h;exact k
end
section
variable {P:Program} {cf:hj P} {s:TS} {R:Exit→TS→Prop}
variable {K:TV→TS→aW} {Kp:AV→List (Nat×List AV)→List Blk→Prop}
theorem TY {t:TypeId} {m:Nat} {parts:List (Nat×AV)} {L:List (Nat×List AV)} {H:List Blk} {d:Option Nat} (h:vU P t m parts fun r=>Kp r L H):tX P (ud [] d) (ve []) t m parts L H Kp:=by
 obtain⟨e,he,h⟩:=fC h
 obtain⟨z,aP,h⟩:=fC h
 refine et he (et aP ?_)
 split at h
 ·rename_i hc
  rw[if_pos hc]
  obtain⟨cells,hf,h⟩:=fC h
  refine et hf ?_
  split at h
  ·rename_i hb
   have:ud [] d=false:=by cases d<;>rfl
   rw[this]
   show if cells.all jM=true then _ else _
   rw[if_pos hb];exact h
  ·exact h.elim
 ·exact h.elim
end
section
variable {P:Program} {cf:hj P} {s:TS} {R:Exit→TS→Prop}
variable {K:TV→TS→aW} {Kp:AV→List (Nat×List AV)→List Blk→Prop}
theorem PJ {o:Oper} {bR:Operand→AV} {L:List (Nat×List AV)} {H:List Blk} (h:j6 P o bR L H fun r=>Kp r L H) (hc: ∀c,o.op≠ .call c) (hb: ∀t m ps,o.op≠ .buildSlice t m ps):kn P [] o bR L H Kp:=by
 have h':=A2 h
 obtain⟨dst,op,ty,pos,after,guard⟩:=o
 cases op<;>first | exact h' | exact h'.elim | exact absurd rfl (hc _) | exact absurd rfl (hb _ _ _)
end
section
variable {P:Program} {cf:hj P} {s:TS} {R:Exit→TS→Prop}
variable {K:TV→TS→aW} {Kp:AV→List (Nat×List AV)→List Blk→Prop}
theorem HB {o:Oper} {c:Call} {bR:Operand→AV} {L:List (Nat×List AV)} {H:List Blk} (aC:o.op= .call c) (h:j6 P o bR L H fun r=>Kp r L H):kn P [] o bR L H Kp:=by
 have h':=A2 h
 obtain⟨dst,op,ty,pos,after,guard⟩:=o
 cases aC
 obtain⟨callee,args,argTypes⟩:=c
 cases callee with
 | builtin b=>
  cases b with
  | len=>exact h'
  | _=>exact h'.elim
 | value f=>
  have h':lX (bR f) fun g caps=>oP P g (args.toList.map bR++caps) L H fun r=>Kp r L H:=h'
  show lX (bR f) fun g caps=>lv P g (args.toList.map bR++caps) L H Kp
  cases hf:bR f with
  | fn g caps=>rw[hf] at h';exact .inl h'
  | _=>rw[hf] at h';exact h'.elim
 | _=>exact h'.elim
end
section
variable {P:Program} {cf:hj P} {s:TS} {R:Exit→TS→Prop}
variable {K:TV→TS→aW} {Kp:AV→List (Nat×List AV)→List Blk→Prop}
theorem abG {o:Oper} {t:TypeId} {m:Nat} {ps:Array (Nat×Operand)} {bR:Operand→AV} {L:List (Nat×List AV)} {H:List Blk} (aC:o.op= .buildSlice t m ps) (h:j6 P o bR L H fun r=>Kp r L H):kn P [] o bR L H Kp:=by
 have h':=A2 h
 obtain⟨dst,op,ty,pos,after,guard⟩:=o
 cases aC
 obtain⟨h1,h2⟩:=pY (show e8 (ps.toList.all fun p=>e7 (bR p.2)) (vU P t m (ps.toList.map fun p=>(p.1,bR p.2)) fun r=>Kp r L H) from h')
 show e8 (ps.toList.all fun p=>e7 (bR p.2)) (tX P (ud [] dst) (ve []) t m (ps.toList.map fun p=>(p.1,bR p.2)) L H Kp)
 rw[h1];exact TY h2
end
section
variable [Z:FZ] {P:Program} {cf:hj P} {s:TS} {R:Exit→TS→Prop}
def vL (cf:hj P) (s:TS) (R:Exit→TS→Prop) (K:TV→TS→aW) (Kp:oF Prop):Prop:=
 ∀v s' (Z':FZ),(K v s').den R→ @Fits Z' s'→s'.tT cf.n=s.tT cf.n→Kp v.bE s'.cs (@TS.aJ Z' cf.n s').H
variable {K:TV→TS→aW} {Kp:AV→List (Nat×List AV)→List Blk→Prop}
theorem ae1 (aG:cf.n≤1000000) {t:TypeId} {b g m c:Nat} {i:Int} {v:TV} {K:TS→aW} {Kp:List (Nat×List AV)→List Blk→Prop} (aP:Fits s) (hK: ∀s' (Z':FZ),(K s').den R→ @Fits Z' s'→s'.tT cf.n=s.tT cf.n→Kp s'.cs (@TS.aJ Z' cf.n s').H) (h:(I3 P cf.n t b g i m c v s K).den R):
  e8 (e7 v.bE) (mh P t (.ptr b g i.toNat c) v.bE (s.aJ cf.n).L (s.aJ cf.n).H Kp):=by
 unfold I3 at h
 split at h
 ·exact h.elim
 ·rename_i hv
  obtain⟨e,xs,fB,hm,h,hb,aS⟩:=vQ (n:=cf.n) h
  obtain⟨Dd,o,h,_⟩:=AK aP (n:=cf.n) h
  obtain⟨h1,h2,aO,bd,ch,cD,h⟩:=h
  refine Ch (Cf hv) ?_
  have bf:i.toNat<xs.length:=by omega
  have hs:=CW h2
  unfold mh
  rw[if_pos hs]
  refine et aS ⟨rfl,et (GY bf true) ⟨?_,?_⟩⟩
  ·rw[rJ];exact Nat.le_of_ble_eq_true aO
  ·have:=hK _ Z h (qo aP) (qn aG)
   rw[tU hb,ch] at this
   rw[bd]
   have br: ∀y:e.T,(xs.map (cd true e)).set i.toNat (cd true e y)=(xs.set i.toNat y).map (cd true e):=fun y=>by rw[List.map_set]
   rw[br];exact this
theorem aaK (aG:cf.n≤1000000) (aP:Fits s) {t:TypeId} {e:bJ} {l c:TV} (hK:vL cf s R K Kp) (h:(GV P cf.n t e l c s K).den R):w4 P t l.bE c.bE (s.aJ cf.n).L (s.aJ cf.n).H Kp:=by
 unfold GV at h
 split at h
 ·split at h
  ·obtain⟨h1,h2,aO,cZ,bd,h⟩:=h
   rename_i B7 l8 l oQ ZW c
   subst h2
   obtain⟨nW,z,q1,q2,q3,q4,cR,c6⟩:=Oy h1
   refine et q1 (et q2 ?_)
   rw[if_pos ⟨q3,q4⟩]
   refine⟨bd.1,Int.le_refl _,by rw[←c6];exact bd.2.1,bd.2.2,?_⟩
   have:=hK _ _ Z h (qo aP) (qn aG)
   rw[AD cZ,aO] at this
   rw[CY cZ,←cR]
   have aP:z.length=e.l_:=by
    have:=congrArg List.length cR
    rw[List.length_map,rJ] at this;exact this.symm
   rw[aP]
   have aL: ∀ba:e.T,(List.replicate l.toNat ba).length=l.toNat:=fun ba=>List.length_replicate
   show Kp (.ref s.bu 0 0 l.toNat false) _ ((s.aJ cf.n).H++[⟨0,e.l_,List.replicate l.toNat (cd true e _)⟩])
   rw[←List.map_replicate]
   have this:Kp (.ref s.bu 0 0 (List.replicate l.toNat _).length false) (s.aJ cf.n).L ((s.aJ cf.n).H++[⟨0,e.l_,(List.replicate l.toNat _).map (cd true e)⟩]):=this
   rw[aL] at this
   exact this
  ·exact h.elim
 ·exact h.elim
theorem TD (aG:cf.n≤1000000) (aP:Fits s) {t t2:TypeId} {v x:TV} (hK:vL cf s R K Kp) (h:(Ds P cf.n t t2 v x s K).den R):e7 v.bE=true∧e7 x.bE=true∧tR P t t2 v.bE x.bE (s.aJ cf.n).L (s.aJ cf.n).H Kp:=by
 unfold Ds at h
 split at h
 ·rename_i e ys jO fr
  split at h
  ·exact h.elim
  ·rename_i hc
   simp only[Bool.and_eq_true] at hc
   have e1: ∀(iC:List e.T) (k:Nat),e.l_=k→q_ k (iC.map (cd true e)):=fun iC k hk row aK=>by
    obtain⟨y,_,rfl⟩:=List.mem_map.1 aK
    refine⟨by rw[rJ,hk],fun a a3=>List.all_eq_true.1 (U6 (fr:=true) hc.2 y) a a3⟩
   have eg: ∀{nW},jv P t=some nW→qv P t=P.bytesOf nW:=fun h=>by unfold qv;rw[h]
   split at h
   ·split at h
    ·rename_i full af2
     obtain⟨h1,h2,cZ,aO,h⟩:=h
     obtain⟨nW,z,q1,q2,q3,q4,cR⟩:=JQ h1
     refine⟨rfl,rfl,et q1 (et q2 ?_)⟩
     rw[if_pos q3]
     show _∧_
     have hx:lJ fr (List.map (cd false e) ys)=ys.map (cd true e):=PL hc.1 ys
     rw[hx]
     refine⟨e1 ys _ q4,rfl,(fun row h=>by cases h),?_,?_,(fun h=>absurd rfl h),?_⟩
     ·rw[List.length_map,←eg q1];simpa using aO.1
     ·rw[List.length_map];simpa using aO.2
     ·have:=hK _ _ Z h (qo aP) (qn aG)
      rw[AD cZ,h2] at this
      rw[CY cZ,←q4,List.length_map]
      simp only[List.length_nil,Nat.zero_add,List.nil_append]
      exact this
    ·exact h.elim
   ·rename_i b g m eJ
    obtain⟨dS,xs,fB,hm,h,hb,aS⟩:=vQ (n:=cf.n) h
    split at h
    ·rename_i he
     subst he
     obtain⟨h1,h2,aO,bd,ue⟩:=h
     subst h1
     obtain⟨nW,z,q1,q2,q3,q4,cR⟩:=JQ h2
     refine⟨rfl,rfl,et q1 (et q2 ?_)⟩
     rw[if_pos q3]
     show _∧_
     have hx:lJ fr (List.map (cd false e) ys)=ys.map (cd true e):=PL hc.1 ys
     rw[hx]
     refine⟨e1 ys _ q4,rfl,et aS ⟨rfl,q4,by rw[List.length_map];exact hm,?_,?_,?_⟩⟩
     ·rw[List.length_map,←hm,←eg q1];exact bd.1
     ·rw[List.length_map,←hm];exact bd.2
     ·have:=hK _ _ Z ue (qo aP) (qn aG)
      rw[tU hb,aO] at this
      rw[←q4,List.length_map,←hm,←List.map_append,←List.length_append]
      exact this
    ·exact h.elim
   ·exact h.elim
 ·exact h.elim
theorem EL (aG:cf.n≤1000000) (aP:Fits s) {o:Oper} {v:TV} {l:List (Nat×TV)} {vs:List (Nat×Nat)} (hK:vL cf s R K Kp) (h:(yy cf s o v l vs K).den R):kn P [] o (cr (s.aJ cf.n).T) (s.aJ cf.n).L (s.aJ cf.n).H Kp:=by
 unfold yy at h
 split at h
 ·rename_i hb
  obtain⟨e,h⟩:=h
  rw[lb,show(fun x=>(cP cf.n s x).bE)=(fun x=>(cP cf.n s x).bE) from rfl]
  have e:=congrFun (congrFun e (s.aJ cf.n).H) Kp
  have e:kn P [] o (fun x=>(cP cf.n s x).bE) (s.aJ cf.n).L (s.aJ cf.n).H Kp=_:=e
  rw[e]
  have:=hK _ _ Z h (x_ hb aP) (x9 aG hb)
  rw[x8 hb] at this;exact this
 ·exact h.elim
end
def Gt:TV→Bool
 | .kG _ _ _=>true
 | _=>false
theorem TT {Z Z':FZ} {v:TV} (h:Gt v=false): @TV.en Z' v= @TV.en Z v:=by cases v<;>first | rfl | cases h
def zr (s:TS) (b:Nat):Nat→Bool
 | 0=>true
 | k+1=>(Nat.beq k b || !Gt (s.get (bD k)))&&zr s b k
theorem OS {s:TS} {b:Nat}: ∀{n:Nat},zr s b n=true→ ∀k,k<n→k≠b→Gt (s.get (bD k))=false
 | 0,_,k,h,_=>by omega
 | n+1,h,k,hk,cl=>by
  simp only[zr,Bool.and_eq_true,Bool.or_eq_true,Bool.not_eq_true'] at h
  rcases Nat.lt_or_ge k n with q | q
  ·exact OS h.2 k q cl
  ·have:k=n:=by omega
   subst this
   rcases h.1 with e | e
   ·exact absurd (Nat.eq_of_beq_eq_true e) cl
   ·exact e
theorem afr {Z Z':FZ} {n:Nat} {s s':TS} {b g m:Nat} {ids:List Nat} {V JF:List ad} {Yf:List Nat} {bT ON:Nat} {hv:V.length=bT} {kx:JF.length=ON} (hb:b<s.bu) (wI:s'.bu=s.bu) (he: ∀k,k≠b→s'.get (bD k)=s.get (bD k)) (hg:s'.get (bD b)= .kG g m ids) (hw:zr s b s.bu=true)
  (h1:s.get dK= .g3 V Yf bT hv) (h2:s'.get dK= .g3 JF ids ON kx):(@TS.aJ Z' n s').H=(@TS.gw Z s).set b ⟨g,5,a1 m Z'.ws ids⟩++List.map bo Z'.bs:=by
 rw[rK h2]
 congr 1
 apply List.ext_getElem?
 intro i
 rw[@p8 Z' s' i,List.getElem?_set,@p8 Z s i,@nq Z s,wI]
 by_cases hi:b=i
 ·subst hi;rw[if_pos hb,if_pos rfl,if_pos hb,hg];rfl
 ·rw[if_neg hi,he i (fun e=>hi e.symm)]
  by_cases h:i<s.bu
  ·rw[if_pos h,if_pos h,TT (Z:=Z) (OS hw i h (fun e=>hi e.symm))]
  ·rw[if_neg h,if_neg h]
theorem z1 {n:Nat} {s:TS} {l:List (Nat×TV)} (aG:n≤1000000) (h: ∀p∈l,1000000≤p.1):(s.add l s.vs s.bu).tT n=s.tT n:=by
 show(List.range n).map _=(List.range n).map _
 refine List.map_congr_left fun t bq=> ?_
 have bq:t<n:=List.mem_range.1 bq
 rw[TS.iY,ta fun v hv=>by have:=h _ hv;simp only at this;omega]
def HS (c:Nat) (v:TV) (h:ad) (K:ad→aW):aW:=match v with
 | .i k x=>if k= .i64 then(match c with
  | 0=>K {h with aq:=x}
  | 1=>K {h with af:=x}
  | 4=>K {h with au:=x}
  | _=> .no) else .no
 | .b x=>(match c with
  | 3=>K {h with ar:=x.den}
  | _=> .no)
 | _=> .no
theorem Qb {c:Nat} {v:TV} {w:ad} {b:List Bool} {K:ad→aW} {R:Exit→TS→Prop} (h:(HS c v {w with ac:=b} K).den R):
  ∃x:ad,x.ac=w.ac∧(K {x with ac:=b}).den R∧(∀m id,fp (kp m w id) c (fj v.bE)=kp m x id)∧c+(fj v.bE).length≤5:=by
 unfold HS at h
 split at h
 ·rename_i k x
  split at h
  ·rename_i hk
   subst hk
   split at h
   ·exact⟨{w with aq:=x},rfl,h,fun m id=>rfl,(show(0+1:Nat)≤5 by decide)⟩
   ·exact⟨{w with af:=x},rfl,h,fun m id=>rfl,(show(1+1:Nat)≤5 by decide)⟩
   ·exact⟨{w with au:=x},rfl,h,fun m id=>rfl,(show(4+1:Nat)≤5 by decide)⟩
   ·exact h.elim
  ·exact h.elim
 ·rename_i x
  split at h
  ·exact⟨{w with ar:=x.den},rfl,h,fun m id=>rfl,(show(3+1:Nat)≤5 by decide)⟩
  ·exact h.elim
 ·exact h.elim
theorem gA.Z8 {ws:List ad} {ids:List Nat} {bs:List (List Bool)} (G:gA ws ids bs) {i id:Nat} {x:ad} (hi:i<ws.length) (h1:id<bs.length) (h2:bs.getD id []=x.ac) (aO: ∀j:Nat,ids[j]?≠some id):
  gA (ws.set i x) (ids.set i id) bs∧view (ws.set i x) (ids.set i id) bs=(view ws ids bs).set i x:=by
 have aL:=G.ok.len
 refine⟨⟨⟨by rw[List.length_set,List.length_set];exact aL,fun j k hk=> ?_,fun j k h a3 hk=> ?_⟩,fun a b k a3 hb=> ?_,G.len⟩,?_⟩
 ·rw[List.getElem?_set] at hk
  split at hk
  ·split at hk
   ·cases hk;exact h1
   ·cases hk
  ·exact G.ok.lt j k hk
 ·rw[List.getElem?_set] at a3 hk
  split at a3
  ·rename_i e;subst e
   rw[if_pos rfl,if_pos (by omega)] at hk
   cases a3;cases hk;rw[h2]
  ·rename_i e
   rw[if_neg e] at hk
   exact G.ok.ac j k h a3 hk
 ·rw[List.getElem?_set] at a3 hb
  split at a3
  ·split at a3
   ·cases a3
    split at hb
    ·rename_i br _ e2;omega
    ·exact absurd hb (aO b)
   ·cases a3
  ·split at hb
   ·split at hb
    ·cases hb;exact absurd a3 (aO a)
    ·cases hb
   ·exact G.kV a b k a3 hb
 ·apply List.ext_getElem?
  intro j
  unfold view
  rw[List.getElem?_zipWith,List.getElem?_set,List.getElem?_set,List.getElem?_set,List.getElem?_zipWith,List.length_zipWith]
  by_cases e:i=j
  ·subst e
   rw[if_pos rfl,if_pos rfl,if_pos rfl,if_pos hi,if_pos (by omega),if_pos (by omega)]
   show some ({x with ac:=bs.getD id []}:ad)=some x
   rw[h2]
  ·rw[if_neg e,if_neg e,if_neg e]
theorem gA.snoc {ws:List ad} {ids:List Nat} {bs:List (List Bool)} (G:gA ws ids bs) {xs:List Bool} (hx:xs.length≤1048576):gA ws ids (bs++[xs])∧view ws ids (bs++[xs])=view ws ids bs:=by
 have hg: ∀id,id<bs.length→(bs++[xs]).getD id []=bs.getD id []:=fun id h=>by
  rw[List.getD_eq_getElem?_getD,List.getD_eq_getElem?_getD,List.getElem?_append_left h]
 refine⟨⟨⟨G.ok.len,fun i id h=>by have:=G.ok.lt i id h;rw[List.length_append];omega,fun i id h h1 h2=>by rw[hg id (G.ok.lt i id h2)];exact G.ok.ac i id h h1 h2⟩,G.kV,fun b hb=> ?_⟩,?_⟩
 ·rcases List.mem_append.1 hb with hb | hb
  ·exact G.len b hb
  ·rw[List.mem_singleton.1 hb];exact hx
 ·apply List.ext_getElem?
  intro j
  unfold view
  rw[List.getElem?_zipWith,List.getElem?_zipWith]
  cases h1:ws[j]? with
  | none=>rfl
  | some w=>
   cases h2:ids[j]? with
   | none=>rfl
   | some id=>simp only[hg id (G.ok.lt j id h2)]
def I8 (P:Program) (t:TypeId) (b g:Nat) (i:Int) (c:Nat) (v:TV) (s:TS) (dJ hP:Nat) (ids:List Nat) (K:TS→aW):aW:=match s.get dK with
 | .g3 V di bT hv=> .eq dJ g (.eq di ids (.eq (Nat.blt b s.bu&&zr s b s.bu&&vn P t v.bE) true (match v with
  | .agg l=>(match l with
   | [.i da aJ,.i ir go,.zp id m k,.b hB,.i pU pe]=>(match s.get gh with
    | .new gC xs=>
     let s':=s.add [(dK,.g3 (V.set i.toNat (ad.mk aJ go xs hB.den pe)) (ids.set i.toNat id) bT ((List.length_set ..).trans hv)),(bD b,.kG g hP (ids.set i.toNat id)),(gh,.u)] s.vs s.bu
     .eq c 0 (.eq (da,ir,pU) (IntKind.i64,IntKind.i64,IntKind.i64) (.eq gC id (.eq m hP (.eq k xs.length (.eq s'.cs s.cs (.p (i.toNat<V.length) (K s')))))))
    | _=> .no)
   | _=> .no)
  | v=>HS c v (nth V i) fun y=>
   let s':=s.add [(dK,.g3 (V.set i.toNat y) ids bT ((List.length_set ..).trans hv))] s.vs s.bu
   .eq s'.cs s.cs (.p (i.toNat<V.length) (K s')))))
 | _=> .no
section
variable [Z:FZ] {P:Program} {cf:hj P} {s:TS} {R:Exit→TS→Prop}
theorem afb (aG:cf.n≤1000000) {t:TypeId} {b g c dJ hP:Nat} {ids:List Nat} {i:Int} {v:TV} {K:TS→aW} {Kp:List (Nat×List AV)→List Blk→Prop} (aP:Fits s) (hg:s.get (bD b)= .kG dJ hP ids)
  (hK: ∀s' (Z':FZ),(K s').den R→ @Fits Z' s'→s'.tT cf.n=s.tT cf.n→Kp s'.cs (@TS.aJ Z' cf.n s').H) (h:(I8 P t b g i c v s dJ hP ids K).den R):
  mh P t (.ptr b g i.toNat c) v.bE (s.aJ cf.n).L (s.aJ cf.n).H Kp:=by
 unfold I8 at h
 split at h
 ·rename_i V di bT kP hk
  obtain⟨h1,h2,aO,h⟩:=h
  subst h1;subst h2
  simp only[Bool.and_eq_true] at aO
  obtain⟨⟨hb,hw⟩,bk⟩:=aO
  have hb:b<s.bu:=by rw[←Nat.blt_eq];exact hb
  obtain⟨G,e,kM⟩:=aP V di _ _ hk
  have hs:=CW bk
  have pN:=jo G.ok
  rw[e] at pN
  have aS:(s.aJ cf.n).H[b]?=some ⟨dJ,5,a1 hP Z.ws di⟩:=by rw[rk hb,hg];rfl
  have WQ:(s.aJ cf.n).H=s.gw++List.map bo Z.bs:=rK hk
  unfold mh
  rw[if_pos hs]
  have fin: ∀{s':TS} {ws2:List ad} {ids2:List Nat} {V2:List ad} {n2:Nat} {hv2:V2.length=n2} {cells row':List AV},i.toNat<V.length→c+cells.length≤5→fp (kp hP (nth Z.ws i) (nth di i)) c cells=row'→(a1 hP Z.ws di).set i.toNat row'=a1 hP ws2 ids2→s'.bu=s.bu→(∀k,k≠b→s'.get (bD k)=s.get (bD k))→s'.get (bD b)= .kG dJ hP ids2→s'.get dK= .g3 V2 ids2 n2 hv2→
    s'.cs=s.cs→(K s').den R→ @Fits ⟨ws2,Z.bs⟩ s'→s'.tT cf.n=s.tT cf.n→(c5 (s.aJ cf.n).H[b]? fun blk=>blk.bF=dJ∧c5 blk.rows[i.toNat]? fun row=>c+cells.length≤row.length∧Kp (s.aJ cf.n).L ((s.aJ cf.n).H.set b {blk with rows:=blk.rows.set i.toNat (fp row c cells)})):=by
   intro s' ws2 ids2 V2 n2 hv2 cells row' hi hc wO k9 wI m8 ou Xn b1 WS hf cu
   refine et aS ⟨rfl,et (dO G.ok.len (by omega)) ⟨hc,?_⟩⟩
   have:=hK s' ⟨ws2,Z.bs⟩ WS hf cu
   rw[b1,afr (Z:=Z) (Z':=⟨ws2,Z.bs⟩) hb wI m8 ou hw hk Xn] at this
   rw[WQ,List.set_append_left _ _ (by rw[nq];exact hb),wO]
   show Kp s.cs (s.gw.set b ⟨dJ,5,(a1 hP Z.ws di).set i.toNat row'⟩++_)
   rw[k9];exact this
  split at h
  ·split at h
   ·rename_i da aJ ir go id m k hB pU pe
    split at h
    ·rename_i gC xs wJ
     obtain⟨h1,h2,bd,ch,cD,gp,oh,h⟩:=h
     subst h1;subst bd;subst ch;subst cD
     cases h2
     obtain⟨l9,n2,o3⟩:=kM _ _ wJ
     obtain⟨n4,dS⟩:=G.Z8 (i:=i.toNat) (id:=gC) (x:=ad.mk aJ go xs hB.den pe) (by omega) l9 n2 o3
     refine fin (s':=s.add [(dK,.g3 (V.set i.toNat (ad.mk aJ go xs hB.den pe)) (di.set i.toNat gC) bT ((List.length_set ..).trans kP)),(bD b,.kG dJ m (di.set i.toNat gC)),(gh,.u)] s.vs s.bu) (ws2:=Z.ws.set i.toNat (ad.mk aJ go xs hB.den pe)) (V2:=V.set i.toNat (ad.mk aJ go xs hB.den pe)) (n2:=bT) (hv2:=(List.length_set ..).trans kP) (ids2:=di.set i.toNat gC) (row':=kp m (ad.mk aJ go xs hB.den pe) gC) oh (Nat.le_refl 5) ?_ (wv G.ok.len) rfl (fun k hk=> ?_) ?_ ?_ gp h ?_ (z1 aG ?_)
     ·rfl
     ·rw[TS.iY,gL,if_neg (by unfold dK bD;omega),gL,if_neg (by unfold bD;omega),gL,if_neg (by unfold gh bD;omega)];rfl
     ·rw[TS.iY,gL,if_neg (by unfold dK bD;omega),gL,if_pos rfl]
     ·rw[TS.iY,gL,if_pos rfl]
     ·intro V3 BU o3 BE aO
      rw[TS.iY,gL,if_pos rfl] at aO
      cases aO
      refine⟨n4,by rw[←e];exact dS,fun id xs hx=> ?_⟩
      rw[TS.iY,gL,if_neg (by unfold dK gh;omega),gL,if_neg (by unfold bD gh;omega),gL,if_pos rfl] at hx
      cases hx
     ·intro p aI
      simp only[List.mem_cons,List.not_mem_nil,or_false] at aI
      rcases aI with rfl | rfl | rfl
      ·exact Nat.le_refl _
      ·show 1000000≤bD b;unfold bD;omega
      ·show 1000000≤gh;unfold gh;omega
    ·exact h.elim
   ·exact h.elim
  ·have agb:i.toNat<V.length∨ ¬i.toNat<V.length:=by omega
   by_cases hi:i.toNat<V.length
   ·have hv:=Da G.ok (i:=i) (by rw[e];exact hi)
    rw[e] at hv
    rw[hv] at h
    obtain⟨x,aH,h,bz,ee⟩:=Qb h
    obtain⟨gp,oh,h⟩:=h
    have F:=(G.oO (j:=i) (by omega)).re x (by rw[aH];have:=(G.oO (j:=i) (by omega)).qm;exact this)
    have j8:(nth (view Z.ws di Z.bs) i).ac=Z.bs.getD (nth di i) []:=by rw[e,hv]
    rw[j8,e] at F
    refine fin (s':=s.add [(dK,.g3 (V.set i.toNat {x with ac:=Z.bs.getD (nth di i) []}) di bT ((List.length_set ..).trans kP))] s.vs s.bu) (ws2:=Z.ws.set i.toNat x) (ids2:=di) (V2:=V.set i.toNat {x with ac:=Z.bs.getD (nth di i) []}) (n2:=bT) (hv2:=(List.length_set ..).trans kP) oh ee (bz hP (nth di i)) (kq G.ok.len (by omega)) rfl (fun k hk=> ?_) ?_ ?_ gp h ?_ (z1 aG ?_)
    ·rw[TS.iY,gL,if_neg (by unfold dK bD;omega)];rfl
    ·rw[TS.iY,gL,if_neg (by unfold dK bD;omega)];exact hg
    ·rw[TS.iY,gL,if_pos rfl]
    ·intro V3 BU o3 BE aO
     rw[TS.iY,gL,if_pos rfl] at aO
     cases aO
     refine⟨F.G,F.gZ,fun id xs hx=> ?_⟩
     rw[TS.iY,gL,if_neg (by unfold dK gh;omega)] at hx
     exact kM id xs hx
    ·intro p aI
     rw[List.mem_singleton.1 aI];exact Nat.le_refl _
   ·obtain⟨x,aH,h,_⟩:=Qb (w:=nth V i) (b:=(nth V i).ac) h
    exact absurd h.2.1 hi
 ·exact h.elim
def z3 (P:Program) (t:TypeId) (w:Int) (ids:List Nat) (m:Nat) (j:Int) (v:TV) (s:TS) (K:TS→aW):aW:=match s.get dK with
 | .g3 V di bT hv=> .eq di ids (.eq m s.bu (.eq (vn P t v.bE) true (match v with
  | .b x=>
   let s':=s.add [(dK,.g3 (V.set w.toNat {nth V w with ac:=(nth V w).ac.set j.toNat x.den}) ids bT ((List.length_set ..).trans hv))] s.vs s.bu
   .eq s'.cs s.cs (.p (w.toNat<V.length∧j.toNat<(nth V w).ac.length) (K s'))
  | _=> .no)))
 | _=> .no
theorem ae8 (aG:cf.n≤1000000) {t:TypeId} {m:Nat} {ids:List Nat} {w j:Int} {v:TV} {K:TS→aW} {Kp:List (Nat×List AV)→List Blk→Prop} (aP:Fits s)
  (hK: ∀s' (Z':FZ),(K s').den R→ @Fits Z' s'→s'.tT cf.n=s.tT cf.n→Kp s'.cs (@TS.aJ Z' cf.n s').H) (h:(z3 P t w ids m j v s K).den R):
  mh P t (.ptr (nth ids w+m) 0 j.toNat 0) v.bE (s.aJ cf.n).L (s.aJ cf.n).H Kp:=by
 unfold z3 at h
 split at h
 ·rename_i V di bT kP hk
  obtain⟨h1,h2,aO,h⟩:=h
  subst h1;subst h2
  have hs:=CW aO
  unfold mh
  rw[if_pos hs]
  split at h
  ·rename_i x
   obtain⟨bd,ch,h⟩:=h
   obtain⟨G,e,kM⟩:=aP V di _ _ hk
   have pN:=jo G.ok
   rw[e] at pN
   have hv:=Da G.ok (i:=w) (by rw[e];exact ch.1)
   rw[e] at hv
   have dy:=G.oO (j:=w) (by omega)
   have F:=dy.HR ((nth V w).ac.set j.toNat x.den) (by rw[List.length_set,e])
   rw[e] at F
   have gS:=G.ok.lt w.toNat _ (gV (xs:=di) (i:=w) (by have:=G.ok.len;omega))
   refine et (Eu aP hk ch.1) ⟨rfl,et (yh ch.2) ⟨Nat.le_refl 1,?_⟩⟩
   have cu:=z1 (n:=cf.n) (s:=s) (l:=[(dK,TV.g3 (V.set w.toNat {nth V w with ac:=(nth V w).ac.set j.toNat x.den}) di bT ((List.length_set ..).trans kP))]) aG (fun p aI=>by rw[List.mem_singleton.1 aI];exact Nat.le_refl _)
   have m7: @Fits ⟨Z.ws,Z.bs.set (nth di w) ((nth V w).ac.set j.toNat x.den)⟩ (s.add [(dK,TV.g3 (V.set w.toNat {nth V w with ac:=(nth V w).ac.set j.toNat x.den}) di bT ((List.length_set ..).trans kP))] s.vs s.bu):=by
    intro V3 BU o3 BE aO
    rw[TS.iY,gL,if_pos rfl] at aO
    cases aO
    refine⟨F.G,F.gZ,fun id xs hx=> ?_⟩
    rw[TS.iY,gL,if_neg (by unfold dK gh;omega)] at hx
    obtain⟨l9,n2,o3⟩:=kM id xs hx
    refine⟨by show id<(Z.bs.set (nth di w) ((nth V w).ac.set j.toNat x.den)).length;rw[List.length_set];exact l9,?_,o3⟩
    show(Z.bs.set (nth di w) ((nth V w).ac.set j.toNat x.den)).getD id []=xs
    have cl:nth di w≠id:=fun q=>o3 w.toNat (by rw[gV (xs:=di) (i:=w) (by have:=G.ok.len;omega),q])
    rw[List.getD_eq_getElem?_getD,List.getElem?_set,if_neg cl,←List.getD_eq_getElem?_getD];exact n2
   have:=hK _ ⟨Z.ws,Z.bs.set (nth di w) ((nth V w).ac.set j.toNat x.den)⟩ h m7 cu
   rw[bd] at this
   have Bj:(s.aJ cf.n).H=s.gw++List.map bo Z.bs:=rK hk
   have m4: ∀Z':FZ,Z'.ws=Z.ws→ @TS.gw Z' (s.add [(dK,TV.g3 (V.set w.toNat {nth V w with ac:=(nth V w).ac.set j.toNat x.den}) di bT ((List.length_set ..).trans kP))] s.vs s.bu)= @TS.gw Z s:=fun Z' hw=>by
    show(List.range s.bu).map _=(List.range s.bu).map _
    refine List.map_congr_left fun b _=> ?_
    rw[TS.iY,gL,if_neg (by unfold dK bD;omega)]
    show @TV.en Z' (s.get (bD b))= @TV.en Z (s.get (bD b))
    cases s.get (bD b)<;>first | rfl | (simp only[TV.en,hw])
   have EO:= @rK ⟨Z.ws,Z.bs.set (nth di w) ((nth V w).ac.set j.toNat x.den)⟩ cf.n (s.add [(dK,TV.g3 (V.set w.toNat {nth V w with ac:=(nth V w).ac.set j.toNat x.den}) di bT ((List.length_set ..).trans kP))] s.vs s.bu) (V.set w.toNat {nth V w with ac:=(nth V w).ac.set j.toNat x.den}) di bT ((List.length_set ..).trans kP) (by rw[TS.iY,gL,if_pos rfl])
   rw[EO,m4 ⟨Z.ws,Z.bs.set (nth di w) ((nth V w).ac.set j.toNat x.den)⟩ rfl] at this
   rw[Bj,List.set_append_right _ _ (by rw[nq];omega),nq,Nat.add_sub_cancel]
   have im:({bo (nth V w).ac with rows:=(bo (nth V w).ac).rows.set j.toNat (fp (aY (nth (nth V w).ac j)) 0 (fj (TV.b x).bE))}:Blk)=bo ((nth V w).ac.set j.toNat x.den):=by
    show(⟨0,1,(List.map aY (nth V w).ac).set j.toNat (aY x.den)⟩:Blk)=⟨0,1,_⟩
    rw[DA]
   show Kp s.cs (s.gw++(List.map bo Z.bs).set (nth di w) {bo (nth V w).ac with rows:=(bo (nth V w).ac).rows.set j.toNat (fp (aY (nth (nth V w).ac j)) 0 (fj (TV.b x).bE))})
   rw[im,Ev]
   exact this
  ·exact h.elim
 ·exact h.elim
def GU (P:Program) (t:TypeId) (l c:TV) (s:TS) (K:TV→TS→aW):aW:=match l with
 | .i _ l=>(match c with
  | .i _ c=>(match s.get dK with
   | .g3 V ids _ _=> .all Nat fun id=>
    let s':=s.add [(gh,.new id (List.replicate l.toNat false))] s.vs s.bu
    .eq (B8 P t) (some ([AV.bool false],qv P t)) (.eq l c (.eq s'.cs s.cs (.p (0≤l∧(qv P t:Int)*l≤140737488355328∧l≤1048576) (K (.zp id s.bu (List.replicate l.toNat false).length) s'))))
   | _=> .no)
  | _=> .no)
 | _=> .no
theorem aaI (aG:cf.n≤1000000) (aP:Fits s) {t:TypeId} {l c:TV} {K:TV→TS→aW} {Kp:AV→List (Nat×List AV)→List Blk→Prop} (hK:vL cf s R K Kp) (h:(GU P t l c s K).den R):w4 P t l.bE c.bE (s.aJ cf.n).L (s.aJ cf.n).H Kp:=by
 unfold GU at h
 split at h
 ·split at h
  ·split at h
   ·rename_i B7 l8 l oQ ZW c agB V ids bT kP hk
    obtain⟨h1,h2,aO,bd,b0⟩:=h Z.bs.length
    subst h2
    obtain⟨nW,z,q1,q2,q3,q4,cR,c6⟩:=Oy h1
    refine et q1 (et q2 ?_)
    rw[if_pos ⟨q3,q4⟩]
    refine⟨bd.1,Int.le_refl _,by rw[←c6];exact bd.2.1,by have:=bd.2.2;omega,?_⟩
    obtain⟨G,e,kM⟩:=aP V ids _ _ hk
    have qL:(List.replicate l.toNat false).length≤1048576:=by rw[List.length_replicate];have:=bd.2.2;omega
    obtain⟨n4,dS⟩:=G.snoc qL
    have cu:=z1 (n:=cf.n) (s:=s) (l:=[(gh,TV.new Z.bs.length (List.replicate l.toNat false))]) aG (fun p aI=>by rw[List.mem_singleton.1 aI];show 1000000≤gh;unfold gh;omega)
    have L0:(s.add [(gh,TV.new Z.bs.length (List.replicate l.toNat false))] s.vs s.bu).get dK= .g3 V ids bT kP:=by rw[TS.iY,gL,if_neg (by unfold dK gh;omega)];exact hk
    have m7: @Fits ⟨Z.ws,Z.bs++[List.replicate l.toNat false]⟩ (s.add [(gh,TV.new Z.bs.length (List.replicate l.toNat false))] s.vs s.bu):=by
     intro V3 BU o3 BE aO
     rw[L0] at aO
     cases aO
     refine⟨n4,dS.trans e,fun id xs hx=> ?_⟩
     rw[TS.iY,gL,if_pos rfl] at hx
     cases hx
     refine⟨by show Z.bs.length<(Z.bs++[List.replicate l.toNat false]).length;rw[List.length_append];simp,by show(Z.bs++[List.replicate l.toNat false]).getD Z.bs.length []=_;rw[List.getD_eq_getElem?_getD,List.getElem?_append_right (Nat.le_refl _)];simp,fun j aN=> ?_⟩
     have:=G.ok.lt j _ aN;omega
    have:=hK _ _ ⟨Z.ws,Z.bs++[List.replicate l.toNat false]⟩ b0 m7 cu
    rw[aO] at this
    have Bj:(s.aJ cf.n).H=s.gw++List.map bo Z.bs:=rK hk
    have EO:= @rK ⟨Z.ws,Z.bs++[List.replicate l.toNat false]⟩ cf.n _ V ids bT kP L0
    have m4: @TS.gw ⟨Z.ws,Z.bs++[List.replicate l.toNat false]⟩ (s.add [(gh,TV.new Z.bs.length (List.replicate l.toNat false))] s.vs s.bu)= @TS.gw Z s:=by
     show(List.range s.bu).map _=(List.range s.bu).map _
     refine List.map_congr_left fun b _=> ?_
     rw[TS.iY,gL,if_neg (by unfold gh bD;omega)]
     show @TV.en _ (s.get (bD b))= @TV.en Z (s.get (bD b))
     cases s.get (bD b)<;>rfl
    rw[EO,m4] at this
    have hlen:(s.aJ cf.n).H.length=Z.bs.length+s.bu:=by rw[Bj,List.length_append,nq,List.length_map];omega
    have uF:z.length=1:=by have:=congrArg List.length cR;simpa using this.symm
    rw[hlen,uF,←cR,Bj]
    show Kp (.ref (Z.bs.length+s.bu) 0 0 l.toNat false) s.cs (s.gw++List.map bo Z.bs++[⟨0,1,List.replicate l.toNat [AV.bool false]⟩])
    rw[show List.replicate l.toNat [AV.bool false]=List.map aY (List.replicate l.toNat false) by rw[List.map_replicate];rfl,List.append_assoc,rL]
    have UY:(List.replicate l.toNat false).length=l.toNat:=List.length_replicate
    rw[UY] at this
    exact this
   ·exact h.elim
  ·exact h.elim
 ·exact h.elim
def SD (P:Program) (t:TypeId) (b g:Nat) (i:Int) (c:Nat) (v:TV) (s:TS) (dJ:Nat) (a_:List TV) (K:TS→aW):aW:=
 let dF:=a_.take c++qs v++a_.drop (c+(qs v).length)
 let s':=s.gQ b s.bu (.eN g dF)
 .eq dJ g (.eq i 0 (.eq (Nat.blt b s.bu&&xb v&&vn P t v.bE&&Nat.ble (c+(fj v.bE).length) a_.length) true (.eq (fp (cS a_) c (fj v.bE)) (cS dF) (.eq dF.length a_.length (.eq s'.cs s.cs (K s'))))))
theorem afa (aG:cf.n≤1000000) {t:TypeId} {b g c dJ:Nat} {a_:List TV} {i:Int} {v:TV} {K:TS→aW} {Kp:List (Nat×List AV)→List Blk→Prop} (aP:Fits s) (hg:s.get (bD b)= .eN dJ a_)
  (hK: ∀s' (Z':FZ),(K s').den R→ @Fits Z' s'→s'.tT cf.n=s.tT cf.n→Kp s'.cs (@TS.aJ Z' cf.n s').H) (h:(SD P t b g i c v s dJ a_ K).den R):
  mh P t (.ptr b g i.toNat c) v.bE (s.aJ cf.n).L (s.aJ cf.n).H Kp:=by
 obtain⟨h1,h2,aO,bd,ch,cD,h⟩:=h
 subst h1;subst h2
 simp only[Bool.and_eq_true] at aO
 obtain⟨⟨⟨hb,_⟩,bk⟩,hle⟩:=aO
 have hb:b<s.bu:=by rw[←Nat.blt_eq];exact hb
 have hs:=CW bk
 unfold mh
 rw[if_pos hs]
 refine et (by rw[rk hb,hg]) ⟨rfl,et (a:=cS a_) rfl ⟨by rw[n7,List.length_map];exact Nat.le_of_ble_eq_true hle,?_⟩⟩
 have:=hK _ Z h (qo aP) (qn aG)
 rw[tU hb,cD] at this
 show Kp s.cs ((s.aJ cf.n).H.set b ⟨dJ,a_.length,[fp (cS a_) c (fj v.bE)]⟩)
 rw[bd,←ch]
 exact this
end
inductive n5 where
 | v (e:bJ)
 | fr
 | w
def n5.es:List n5→List bJ
 | []=>[]
 | .v e::r=>e::n5.es r
 | .fr::r=>n5.es r
 | .w::r=> .int::n5.es r
def yp (hg:Nat):(l:List n5)→c8 (n5.es l)→List AV
 | [],_=>[]
 | .v e::r,x=>oc e x.1::yp hg r x.2
 | .fr::r,x=> .ptr 0 hg 0 0::yp hg r x
 | .w::r,x=> .ptr 3 0 (show Int from x.1).toNat 0::yp hg r x.2
def CL (F:Frame):List TV:=[.b (.v F.ok),.ref 1 0 F.aw.length false,.ref 2 0 F.ap.length false,.ref 3 0 F.O.length false]
def EB [Z:FZ] (hg:Nat) (ids:List Nat) (F:Frame):List Blk:=
 [⟨hg,4,[cS (CL F)]⟩,⟨0,1,F.aw.map (cd true .bool)⟩,⟨0,2,F.ap.map (cd true .gM)⟩,⟨0,5,a1 4 Z.ws ids⟩]++Z.bs.map bo
def Dl [Z:FZ] (ids:List Nat) (F:Frame):Prop:=gA Z.ws ids Z.bs∧view Z.ws ids Z.bs=F.O
def Tp (P:Program) (f:FuncId) (hg:Nat) (args:List AV) (F:Frame) (JA:Frame) (v:AV):Prop:=
 ∀(Z:FZ) (ids:List Nat),@Dl Z ids F→dH P f args (@EB Z hg ids F) fun r H'=>r=v∧ ∃(Z':FZ) (di:List Nat),@Dl Z' di JA∧H'= @EB Z' hg di JA
def w3 (hg:Nat) (ids:List Nat) (F:Frame):List (Nat×TV):=
 [(bD 0,.eN hg (CL F)),(bD 1,.blk 0 .bool F.aw F.aw.length rfl),(bD 2,.blk 0 .gM F.ap F.ap.length rfl),(bD 3,.kG 0 4 ids),(dK,.g3 F.O ids F.O.length rfl)]
def EA (s:TS) (K:Nat→Frame→List Nat→aW):aW:=match s.get (bD 0) with
 | .eN g a_=>(match a_ with
  | [.b k,.ref jr aR l9 f1,.ref dl a2 n2 f2,.ref qi bS o3 f3]=>(match s.get (bD 1) with
   | .blk h1 br o aV _=>if q1:br=bJ.bool then(match s.get (bD 2) with
    | .blk h2 e2 q bt _=>if q2:e2=bJ.gM then(match s.get (bD 3) with
     | .kG aO hP ids=>(match s.get dK with
      | .g3 V di bT _=> .eq s.bu 4 (.eq (jr,aR,l9,f1) (1,0,aV,false) (.eq (dl,a2,n2,f2) (2,0,bt,false) (.eq (qi,bS,o3,f3) (3,0,bT,false) (.eq (h1,h2,aO,hP) (0,0,0,4)
       (.eq di ids (K g ⟨k.den,lY q1 o,lY q2 q,V⟩ ids))))))
      | _=> .no)
     | _=> .no) else .no
    | _=> .no) else .no
   | _=> .no)
  | _=> .no)
 | _=> .no
theorem V_ [Z:FZ] {n:Nat} {s:TS} {K:Nat→Frame→List Nat→aW} {R:Exit→TS→Prop} (aP:Fits s) (h:(EA s K).den R): ∃g F ids,(K g F ids).den R∧Dl ids F∧(s.aJ n).H=EB g ids F∧s.bu=4∧s.get dK= .g3 F.O ids F.O.length rfl:=by
 unfold EA at h
 split at h
 ·rename_i g a_ pK
  split at h
  ·split at h
   ·rename_i h1 br o aV Xt l4
    split at h
    ·rename_i q1
     subst q1
     split at h
     ·rename_i h2 e2 q bt qH yP
      split at h
      ·rename_i q2
       subst q2
       split at h
       ·rename_i aO hP ids Xi
        split at h
        ·rename_i V di bT kP hk
         obtain⟨a4,da,ir,pU,ZU,Gy,h⟩:=h
         cases da;cases ir;cases pU;cases ZU;subst Gy;subst Xt;subst qH;subst kP
         obtain⟨G,e,_⟩:=aP V di _ _ hk
         refine⟨_,_,_,h,⟨G,e⟩,?_,a4,hk⟩
         rw[rK hk]
         have i_:s.gw=[(s.get (bD 0)).en,(s.get (bD 1)).en,(s.get (bD 2)).en,(s.get (bD 3)).en]:=by unfold TS.gw;rw[a4];rfl
         rw[i_,pK,l4,yP,Xi];rfl
        ·exact h.elim
       ·exact h.elim
      ·exact h.elim
     ·exact h.elim
    ·exact h.elim
   ·exact h.elim
  ·exact h.elim
 ·exact h.elim
structure sy (P:Program) where
 f:FuncId
 jz:List n5
 rs:List bJ
 pre:c8 (n5.es jz)→Frame→Prop
 fn:c8 (n5.es jz)→Frame→Frame
 aF:c8 (n5.es jz)→Frame→c8 rs
 ok: ∀hg x F,pre x F→Tp P f hg (yp hg jz x) F (fn x F) (k5 rs (aF x F))
def lV:(l:List n5)→List TV→c8 (n5.es l)
 | [],_=>()
 | .v e::r,v::vs=>(Wf e v,lV r vs)
 | .fr::r,_::vs=>lV r vs
 | .w::r,v::vs=>((match v with
  | .ptr _ _ i _ _=>i
  | _=>(0:Int)),lV r vs)
 | .v e::r,[]=>(e.uK.default,lV r [])
 | .fr::r,[]=>lV r []
 | .w::r,[]=>((0:Int),lV r [])
def Bd {P:Program}:List (sy P)→FuncId→(sy P→aW)→aW→aW
 | [],_,_,t=>t
 | c::r,f,K,t=>match Nat.beq c.f f with
  | true=>K c
  | false=>Bd r f K t
def DJ {P:Program} (c:sy P) (args:List TV) (s:TS) (K:TV→TS→aW):aW:=EA s fun g F ids=>
 .eq (cS args) (yp g c.jz (lV c.jz args)) (.eq ((cS args).all e7&&(cS args).all kc) true (.p (c.pre (lV c.jz args) F) (.all (List Nat) fun di=>
  let s':=s.add ((gh,.u)::w3 g di (c.fn (lV c.jz args) F)) s.vs s.bu
  .eq s'.cs s.cs (.eq (w9 (k5 c.rs (c.aF (lV c.jz args) F))) true (K (CJ c.rs (c.aF (lV c.jz args) F)) s')))))
theorem aaC (hg:Nat) (ids:List Nat) (F:Frame) (s:TS):let s':=s.add ((gh,.u)::w3 hg ids F) s.vs s.bu
  s'.get (bD 0)= .eN hg (CL F)∧s'.get (bD 1)= .blk 0 .bool F.aw F.aw.length rfl∧s'.get (bD 2)= .blk 0 .gM F.ap F.ap.length rfl∧s'.get (bD 3)= .kG 0 4 ids∧s'.get dK= .g3 F.O ids F.O.length rfl∧s'.get gh= .u:=by
 intro s'
 have aT:gh≠bD 0∧gh≠bD 1∧gh≠bD 2∧gh≠bD 3∧gh≠dK:=by unfold gh bD dK;omega
 have e: ∀k,s'.get k=fY ((gh,.u)::w3 hg ids F) k (s.get k):=fun k=>TS.iY ..
 refine⟨?_,?_,?_,?_,?_,?_⟩<;>rw[e]<;>rfl
theorem Uq [Z:FZ] {P:Program} {n:Nat} (aG:n≤1000000) {c:sy P} {args:List TV} {s:TS} {K:TV→TS→aW} {R:Exit→TS→Prop} {Kp:AV→List (Nat×List AV)→List Blk→Prop} (aP:Fits s)
  (hK: ∀v s' (Z':FZ),(K v s').den R→ @Fits Z' s'→s'.tT n=s.tT n→Kp v.bE s'.cs (@TS.aJ Z' n s').H) (h:(DJ c args s K).den R):lv P c.f (cS args) (s.aJ n).L (s.aJ n).H Kp:=by
 unfold DJ at h
 obtain⟨g,F,ids,b0,h1,h2,aO,_⟩:=V_ (n:=n) aP h
 obtain⟨da,ir,pU,hk⟩:=b0
 simp only[Bool.and_eq_true] at ir
 refine .inr (.inr (.inl ⟨ir.1,ir.2,?_⟩))
 rw[h2,da]
 refine(c.ok g _ F pU Z ids h1).mono fun r H' ak=> ?_
 obtain⟨rfl,Z',di,q1,rfl⟩:=ak
 obtain⟨Gy,ZV,hk⟩:=hk di
 refine⟨ZV,?_⟩
 obtain⟨aB,aV,bt,bV,cy,jf⟩:=aaC g di (c.fn (lV c.jz args) F) s
 have m7: @Fits Z' (s.add ((gh,.u)::w3 g di (c.fn (lV c.jz args) F)) s.vs s.bu):=by
  intro V3 BU o3 BE aO
  rw[cy] at aO
  cases aO
  refine⟨q1.1,q1.2,fun id xs hx=> ?_⟩
  rw[jf] at hx;cases hx
 have:=hK _ _ Z' hk m7 (z1 aG fun p aI=>by
  simp only[w3,List.mem_cons,List.not_mem_nil,or_false] at aI
  rcases aI with rfl | rfl | rfl | rfl | rfl | rfl
  ·show 1000000≤gh;unfold gh;omega
  ·show 1000000≤bD 0;unfold bD;omega
  ·show 1000000≤bD 1;unfold bD;omega
  ·show 1000000≤bD 2;unfold bD;omega
  ·show 1000000≤bD 3;unfold bD;omega
  ·exact Nat.le_refl _)
 rw[Gy,HE,@rK Z' n _ _ _ _ _ cy] at this
 have i_: @TS.gw Z' (s.add ((gh,.u)::w3 g di (c.fn (lV c.jz args) F)) s.vs s.bu)=[@TV.en Z' (.eN g (CL (c.fn (lV c.jz args) F))),@TV.en Z' (.blk 0 .bool (c.fn (lV c.jz args) F).aw _ rfl),@TV.en Z' (.blk 0 .gM (c.fn (lV c.jz args) F).ap _ rfl),@TV.en Z' (.kG 0 4 di)]:=by
  rw[←aB,←aV,←bt,←bV]
  show(List.range s.bu).map _=_
  rw[aO];rfl
 rw[i_] at this
 exact this
inductive fS where
 | v (e:bJ)
 | p
def fS.es:List fS→List bJ
 | []=>[]
 | .v e::r=>e::fS.es r
 | .p::r=>fS.es r
def j5 (g:Nat):(l:List fS)→c8 (fS.es l)→List AV
 | [],_=>[]
 | .v e::r,x=>oc e x.1::j5 g r x.2
 | .p::r,x=> .ptr 0 g 0 0::j5 g r x
structure ls (P:Program) where
 f:FuncId
 ce:bJ
 jz:List fS
 rs:List bJ
 pre:c8 (fS.es jz)→ce.T→Prop
 fn:c8 (fS.es jz)→ce.T→ce.T
 aF:c8 (fS.es jz)→ce.T→c8 rs
 ok: ∀g x c,pre x c→iW P f g (j5 g jz x) (cd false ce c) (cd false ce (fn x c)) (k5 rs (aF x c))
def Pl:List fS→List TV→TV
 | .p::_,v::_=>v
 | .v _::r,_::vs=>Pl r vs
 | _,_=> .u
def EU:List fS→Bool
 | []=>false
 | .p::_=>true
 | .v _::r=>EU r
def HL:TS:=⟨[],[],[],0⟩
def AL (p:AV):(l:List fS)→List TV→(c8 (fS.es l)→List Prop→aW)→aW
 | [],[],K=>K () []
 | .v e::r,v::vs,K=>conv HL e v fun x o=>AL p r vs fun y lF=>K (x,y) (o++lF)
 | .p::r,v::vs,K=> .eq v.bE p (AL p r vs K)
 | _,_,_=> .no
def aaU (e:bJ):Bool:=e.o5
def DQ {P:Program} (c:ls P) (args:List TV) (p:AV) (cells:List TV) (K:TV→c.ce.T→aW):aW:=
 .eq (cS cells) (cd false c.ce (c.ce.mk (oS c.ce.kT cells))) (.eq (EU c.jz&&aaU c.ce&&(cS args).all e7) true (AL p c.jz args fun x o=>
  Cl (o++[c.pre x (c.ce.mk (oS c.ce.kT cells))]) (K (CJ c.rs (c.aF x (c.ce.mk (oS c.ce.kT cells)))) (c.fn x (c.ce.mk (oS c.ce.kT cells))))))
def DR {P:Program} (c:ls P) (args:List TV) (s:TS) (K:TV→TS→aW):aW:=match Pl c.jz args with
 | .ptr b g _ _ _=>(match s.get (bD b) with
  | .eN dJ cells=>(match Nat.blt b s.bu with
   | true=> .eq dJ g (DQ c args (.ptr b g 0 0) cells fun v y=>
     let s':=s.gQ b s.bu (.eN g (gJ false c.ce y))
     .eq s'.cs s.cs (K v s'))
   | false=> .no)
  | _=> .no)
 | .lp v _=>(match kU s.vs v with
  | some m=>DQ c args (.fH v 0) (hU s v 0 m) fun w y=>
    let s':=s.add (tY v 0 (gJ false c.ce y)) s.vs s.bu
    .eq s'.cs (lk s.cs v (cd false c.ce y)) (.eq (pu (tY v 0 (gJ false c.ce y))) true (K w s'))
  | none=> .no)
 | _=> .no
def Be {P:Program}:List (ls P)→FuncId→(ls P→aW)→aW→aW
 | [],_,_,t=>t
 | c::r,f,K,t=>match Nat.beq c.f f with
  | true=>K c
  | false=>Be r f K t
theorem K3 {P:Program} {f:FuncId} {K:ls P→aW} {t:aW} {R:Exit→TS→Prop}: ∀{p9:List (ls P)},(Be p9 f K t).den R→(∃m,m.f=f∧(K m).den R)∨t.den R
 | [],h=> .inr h
 | c::r,h=>by
  unfold Be at h
  split at h
  ·rename_i hf;exact .inl ⟨c,Nat.eq_of_beq_eq_true hf,h⟩
  ·exact K3 h
theorem AX {e:bJ} (h:e.o5=true) (x:e.T):(cd false e x).all uL=true∧(cd false e x).all jM=true:=by cases e<;>first | exact⟨rfl,rfl⟩ | cases h
theorem DP {p:AV} {g:Nat} {R:Exit→TS→Prop}: ∀{l:List fS} {vs:List TV} {K:c8 (fS.es l)→List Prop→aW},(AL p l vs K).den R→ ∃x o,(K x o).den R∧((∀φ∈o,φ)→aD (tJ p (.ptr 0 g 0 0)) (cS vs) (j5 g l x))∧(EU l=true→p∈cS vs)
 | [],[],K,h=>⟨(),[],h,fun _=>aD.nil,fun h=>by cases h⟩
 | .v e::r,v::vs,K,h=>by
  letI Z:FZ:=⟨[],[]⟩
  obtain⟨x,o,h,da⟩:=DO (n:=0) (Fits.none (s:=HL) rfl) (show(conv HL e v _).den R from h)
  obtain⟨y,lF,h,ir,pU⟩:=DP (l:=r) h
  exact⟨(x,y),o++lF,h,fun aC=>aD.cons (.inr (da fun φ fc=>aC φ (List.mem_append_left _ fc))) (ir fun φ fc=>aC φ (List.mem_append_right _ fc)),fun aI=>List.mem_cons_of_mem _ (pU aI)⟩
 | .p::r,v::vs,K,h=>by
  obtain⟨e,h⟩:=h
  obtain⟨y,lF,h,ir,pU⟩:=DP (l:=r) h
  exact⟨y,lF,h,fun aC=>aD.cons (.inl ⟨e,rfl⟩) (ir aC),fun _=>by rw[cS,e];exact List.mem_cons_self ..⟩
 | [],_::_,K,h=>h.elim
 | .v _::_,[],K,h=>h.elim
 | .p::_,[],K,h=>h.elim
theorem Ko {P:Program} {c:ls P} {args:List TV} {p:AV} {cells:List TV} {K:TV→c.ce.T→aW} {R:Exit→TS→Prop} (g:Nat) (h:(DQ c args p cells K).den R):
  ∃ew x y t,(K t y).den R∧(cS args).all e7=true∧cS cells=cd false c.ce x∧c.ce.o5=true∧p∈cS args∧aD (tJ p (.ptr 0 g 0 0)) (cS args) ew∧iW P c.f g ew (cd false c.ce x) (cd false c.ce y) t.bE:=by
 obtain⟨h1,h2,h⟩:=h
 simp only[Bool.and_eq_true] at h2
 obtain⟨x,o,h,ir,pU⟩:=DP (g:=g) h
 obtain⟨aC,h⟩:=OU h
 refine⟨_,_,_,_,h,h2.2,h1,h2.1.2,pU h2.1.1,ir fun φ fc=>aC φ (List.mem_append_left _ fc),?_⟩
 rw[HE]
 exact c.ok g x _ (aC _ (List.mem_append_right _ (List.mem_singleton.2 rfl)))
theorem CE {c:List TV} {e:bJ} {x:e.T} (h:cS c=cd false e x):c.length=(cd false e x).length:=by rw[←h,n7,List.length_map]
theorem Uw [Z:FZ] {P:Program} {n:Nat} (aG:n≤1000000) {c:ls P} {args:List TV} {s:TS} {K:TV→TS→aW} {R:Exit→TS→Prop} {Kp:AV→List (Nat×List AV)→List Blk→Prop} (aP:Fits s)
  (hK: ∀v s' (Z':FZ),(K v s').den R→ @Fits Z' s'→s'.tT n=s.tT n→Kp v.bE s'.cs (@TS.aJ Z' n s').H) (h:(DR c args s K).den R):lv P c.f (cS args) (s.aJ n).L (s.aJ n).H Kp:=by
 unfold DR at h
 split at h
 ·rename_i b g i m col aI
  split at h
  ·rename_i dJ cells hg
   split at h
   ·rename_i hb
    have hb:b<s.bu:=by rw[←Nat.blt_eq];exact hb
    obtain⟨e,h⟩:=h
    subst e
    obtain⟨ew,x,y,t,b0,h1,h2,aO,bd,ch,cD⟩:=Ko dJ h
    obtain⟨b1,b0⟩:=b0
    refine .inr (.inr (.inr ⟨h1,ew,cd false c.ce x,cd false c.ce y,t.bE,(AX aO x).1,(AX aO y).2,.inl ⟨b,dJ,?_,bd,ch,cD,?_⟩⟩))
    ·rw[rk hb,hg]
     show some (Blk.mk dJ cells.length [cS cells])=_
     rw[CE h2,h2]
    ·have:=hK _ _ Z b0 (qo aP) (qn aG)
     rw[b1,tU hb] at this
     have br:TV.en (.eN dJ (gJ false c.ce y))=Blk.mk dJ (cd false c.ce x).length [cd false c.ce y]:=by
      show Blk.mk dJ (gJ false c.ce y).length [cS (gJ false c.ce y)]=_
      rw[CE (vX false c.ce y),vX,rJ,rJ]
     rw[br] at this
     exact this
   ·exact h.elim
  ·exact h.elim
 ·rename_i v col aI
  split at h
  ·rename_i m hm
   obtain⟨ew,x,y,t,b0,h1,h2,aO,bd,ch,cD⟩:=Ko 0 h
   obtain⟨b1,hb,b0⟩:=b0
   refine .inr (.inr (.inr ⟨h1,ew,cd false c.ce x,cd false c.ce y,t.bE,(AX aO x).1,(AX aO y).2,.inr ⟨v,?_,bd,ch,cD,?_⟩⟩))
   ·rw[vo,hm,←h2];rfl
   ·have:=hK _ _ Z b0 (x_ hb aP) (x9 aG hb)
    rw[b1,x8 hb] at this
    exact this
  ·exact h.elim
 ·exact h.elim
structure qd (P:Program) where
 len:List Nat
 pe:List (sy P)
 C7:List (ls P)
def I7 (P:Program) (n:Nat) (t:TypeId) (b g:Nat) (i:Int) (m c:Nat) (v:TV) (s:TS) (w:TV) (K:TS→aW):aW:=match w with
 | .kG dJ hP ids=>(match xb v with
  | true=>I8 P t b g i c v s dJ hP ids K
  | false=> .no)
 | .eN dJ a_=>SD P t b g i c v s dJ a_ K
 | _=>I3 P n t b g i m c v s K
section
variable {P:Program} (cf:hj P) (s:TS)
def Db (ez:qd P) (o:Oper) (K:TV→TS→aW):aW:=match o.op with
 | .store t a v=>(match cP cf.n s a with
  | .lp x c=>pA (cP cf.n s v) fun w=>yy cf s o (.tup []) (tY x c (qs w)) s.vs K
  | .ptr b g i m c=>pA (cP cf.n s v) fun w=>I7 P cf.n t b g i m c w s (s.get (bD b)) fun s'=>K (.tup []) s'
  | .wk w ids m j=>pA (cP cf.n s v) fun x=>z3 P t w ids m j x s fun s'=>K (.tup []) s'
  | _=> .no)
 | .alloc e=>(match o.dst with
  | some d=>yy cf s o (.lp d 0) (tY d 0 (Ag P e)) ((d,(Ag P e).length)::s.vs) K
  | none=> .no)
 | .box _ x=>(match o.dst with
  | some d=>pA (cP cf.n s x) fun w=>yy cf s o (.lp d 0) (tY d 0 (qs w)) ((d,(qs w).length)::s.vs) K
  | none=> .no)
 | .makeSlice t l c=>(match iu s with
  | true=>w2 cf.yn t fun e=>GV P cf.n t e (cP cf.n s l) (cP cf.n s c) s K
  | false=>GU P t (cP cf.n s l) (cP cf.n s c) s K)
 | .buildSlice t m ps=>w2 cf.yn t fun e=>B5 s e (ps.toList.map fun p=>cP cf.n s p.2) fun xs=>rR (fun H Q=>j6 P o (fun x=>(cP cf.n s x).bE) s.cs H Q) (fun v=>K v s) (.v (Ok e xs (ps.toList.map fun p=>cP cf.n s p.2)))
 | .binOp op t x y _=>(match cP cf.n s x with
  | .l e xs _ _=>(match op with
   | .eql=> .eq (qQ y&&(jv P t).isSome) true (.two (.ka (xs≠[]) (K (.b .f) s)) (.ka (xs=[]) (.all Bool fun b=>K (.b (.v b)) s)))
   | _=> .no)
  | _=>sn cf s o fun v=>K v s)
 | .call c=>(match c.callee with
  | .builtin b=>(match b with
   | .len=>(match c.args.toList,c.argTypes.toList with
    | [x],[t]=>(match cP cf.n s x with
     | .l e xs eJ fr=>(match o.dst with
      | some d=>(match ez.len.any (Nat.beq d) with
       | true=>sn cf s o fun v=>K v s
       | false=> .eq (kb P t (TV.l e xs eJ fr).bE) true (.ka (xs.length≤4611686018427387904) (K (.i .i64 xs.length) s)))
      | none=> .no)
     | _=>sn cf s o fun v=>K v s)
    | _,_=> .no)
   | .append=>(match c.args.toList,c.argTypes.toList with
    | [x,y],[t,t2]=>Ds P cf.n t t2 (cP cf.n s x) (cP cf.n s y) s K
    | _,_=> .no)
   | _=> .no)
  | .value f=>(match cP cf.n s f with
   | .fn g caps=>Bd ez.pe g (fun m=>DJ m (c.args.toList.map (cP cf.n s)++caps) s K) (Be ez.C7 g (fun m=>DR m (c.args.toList.map (cP cf.n s)++caps) s K) (sn cf s o fun v=>K v s))
   | _=> .no)
  | _=> .no)
 | _=>sn cf s o fun v=>K v s
end
section
variable {P:Program} {cf:hj P} {s:TS} {R:Exit→TS→Prop}
variable {K:TV→TS→aW} {Kp:AV→List (Nat×List AV)→List Blk→Prop}
theorem ae7 {t:TypeId} {m:Nat} {ids:List Nat} {w j:Int} {v:TV} {K:TS→aW} (h:(z3 P t w ids m j v s K).den R):e7 v.bE=true:=by
 unfold z3 at h
 split at h
 ·obtain⟨_,_,_,h⟩:=h
  split at h
  ·rfl
  ·exact h.elim
 ·exact h.elim
end
section
variable {P:Program} {cf:hj P} {s:TS} {R:Exit→TS→Prop}
variable {K:TV→TS→aW} {Kp:AV→List (Nat×List AV)→List Blk→Prop}
theorem K2 {f:FuncId} {K:sy P→aW} {t:aW}: ∀{p9:List (sy P)},(Bd p9 f K t).den R→(∃m,m.f=f∧(K m).den R)∨t.den R
 | [],h=> .inr h
 | c::r,h=>by
  unfold Bd at h
  split at h
  ·rename_i hf;exact .inl ⟨c,Nat.eq_of_beq_eq_true hf,h⟩
  ·exact K2 h
end
section
variable [Z:FZ] {P:Program} {cf:hj P} {s:TS} {R:Exit→TS→Prop}
variable {K:TV→TS→aW} {Kp:AV→List (Nat×List AV)→List Blk→Prop}
theorem ae_ (aG:cf.n≤1000000) (aP:Fits s) {t:TypeId} {b g m c:Nat} {i:Int} {v:TV} {K:TS→aW} {Kp:List (Nat×List AV)→List Blk→Prop} (hK: ∀s' (Z':FZ),(K s').den R→ @Fits Z' s'→s'.tT cf.n=s.tT cf.n→Kp s'.cs (@TS.aJ Z' cf.n s').H)
  (h:(I7 P cf.n t b g i m c v s (s.get (bD b)) K).den R):e8 (e7 v.bE) (mh P t (.ptr b g i.toNat c) v.bE (s.aJ cf.n).L (s.aJ cf.n).H Kp):=by
 unfold I7 at h
 split at h
 ·rename_i dJ hP ids hg
  split at h
  ·rename_i hv
   exact Ch (Cf hv) (afb aG aP hg hK h)
  ·exact h.elim
 ·rename_i dJ a_ hg
  have aO:(Nat.blt b s.bu&&xb v&&vn P t v.bE&&Nat.ble (c+(fj v.bE).length) a_.length)=true:=h.2.2.1
  simp only[Bool.and_eq_true] at aO
  exact Ch (Cf aO.1.1.2) (afa aG aP hg hK h)
 ·exact ae1 aG aP hK h
theorem S1 (aG:cf.n≤1000000) (aP:Fits s) {ez:qd P} {o:Oper} (hK:vL cf s R K Kp) (h:(Db cf s ez o K).den R):kn P [] o (cr (s.aJ cf.n).T) (s.aJ cf.n).L (s.aJ cf.n).H Kp:=by
 have zH: ∀v,(K v s).den R→Kp v.bE (s.aJ cf.n).L (s.aJ cf.n).H:=fun v hv=>hK v s Z hv aP rfl
 have rd:(sn cf s o fun v=>K v s).den R→j6 P o (cr (s.aJ cf.n).T) (s.aJ cf.n).L (s.aJ cf.n).H fun r=>Kp r (s.aJ cf.n).L (s.aJ cf.n).H:=fun h=>PI aP (Kp:=fun r=>Kp r (s.aJ cf.n).L (s.aJ cf.n).H) zH h
 unfold Db at h
 split at h
 ·rename_i t a v fW
  split at h
  ·rw[qy] at h;exact EL aG aP hK h
  ·rename_i b g i m c a3
   rw[qy] at h
   obtain⟨dst,op,ty,pos,after,guard⟩:=o
   cases fW
   show e8 (e7 (cr (s.aJ cf.n).T v)) (mh P t (cr (s.aJ cf.n).T a) (cr (s.aJ cf.n).T v) _ _ _)
   rw[lb]
   show e8 (e7 (cP cf.n s v).bE) (mh P t (cP cf.n s a).bE (cP cf.n s v).bE _ _ _)
   rw[a3]
   exact ae_ aG aP (fun s' Z' h1 hf h2=>hK (.tup []) s' Z' h1 hf h2) h
  ·rename_i w ids m j a3
   rw[qy] at h
   obtain⟨dst,op,ty,pos,after,guard⟩:=o
   cases fW
   show e8 (e7 (cr (s.aJ cf.n).T v)) (mh P t (cr (s.aJ cf.n).T a) (cr (s.aJ cf.n).T v) _ _ _)
   rw[lb]
   show e8 (e7 (cP cf.n s v).bE) (mh P t (cP cf.n s a).bE (cP cf.n s v).bE _ _ _)
   rw[a3]
   refine Ch ?_ (ae8 aG aP (fun s' Z' h1 hf h2=>hK (.tup []) s' Z' h1 hf h2) h)
   exact ae7 h
  ·exact h.elim
 ·split at h
  ·exact EL aG aP hK h
  ·exact h.elim
 ·split at h
  ·rw[qy] at h;exact EL aG aP hK h
  ·exact h.elim
 ·rename_i t l c fW
  obtain⟨dst,op,ty,pos,after,guard⟩:=o
  cases fW
  show w4 P t (cr (s.aJ cf.n).T l) (cr (s.aJ cf.n).T c) _ _ _
  rw[lb]
  split at h
  ·obtain⟨e,h⟩:=GL h
   exact aaK aG aP hK h
  ·exact aaI aG aP hK h
 ·rename_i t m ps fW
  obtain⟨e,h⟩:=GL h
  obtain⟨xs,h⟩:=GK (n:=cf.n) aP h
  refine abG fW ?_
  rw[lb]
  exact sS (F:=fun H Q=>j6 P o _ _ H Q) (s.aJ cf.n).H (Kp:=fun r=>Kp r (s.aJ cf.n).L (s.aJ cf.n).H) zH h
 ·rename_i op t x y ty2 fW
  split at h
  ·rename_i e xs eJ fr hx
   split at h
   ·obtain⟨h1,h2,aO⟩:=h
    obtain⟨dst,op,ty,pos,after,guard⟩:=o
    cases fW
    show sG P .eql t (cr (s.aJ cf.n).T x) _ (qQ y) _
    rw[lb]
    show sG P .eql t (cP cf.n s x).bE _ (qQ y) _
    rw[hx]
    show if qQ y=true∧(jv P t).isSome=true then _ else _
    rw[if_pos (by simpa using h1)]
    refine⟨fun cl=> ?_,fun he b=> ?_⟩
    ·exact zH (.b .f) (h2 fun e=>cl (by rw[e];rfl))
    ·exact zH (.b (.v b)) (aO (by simpa using he) b)
   ·exact h.elim
  ·refine PJ (rd h) (fun c=>by rw[fW];intro e;cases e) (fun t m ps=>by rw[fW];intro e;cases e)
 ·rename_i c fW
  obtain⟨callee,args,argTypes⟩:=c
  split at h
  ·rename_i b hb
   cases hb
   split at h
   ·split at h
    ·rename_i x t h1 h2
     simp only at h1 h2
     split at h
     ·rename_i e xs eJ fr hx
      split at h
      ·split at h
       ·exact HB fW (rd h)
       ·obtain⟨br,h⟩:=h
        obtain⟨dst,op,ty,pos,after,guard⟩:=o
        cases fW
        show(match args.toList,argTypes.toList with
         | [x],[t]=>e8 (kb P t (cr (s.aJ cf.n).T x)) (r_ (cr (s.aJ cf.n).T x) fun r=>Kp r _ _)
         | _,_=>False)
        simp only[h1,h2]
        rw[lb]
        show e8 (kb P t (cP cf.n s x).bE) (r_ (cP cf.n s x).bE _)
        rw[hx,br]
        show(List.map _ _).length≤_→Kp (.int .i64 ((List.map _ _).length:Nat)) _ _
        rw[List.length_map]
        exact fun aL=>zH _ (h aL)
      ·exact h.elim
     ·exact HB fW (rd h)
    ·exact h.elim
   ·split at h
    ·rename_i x y t t2 h1 h2
     simp only at h1 h2
     obtain⟨dst,op,ty,pos,after,guard⟩:=o
     cases fW
     show(match args.toList,argTypes.toList with
      | [s',x],[t,t2]=>e7 (cr (s.aJ cf.n).T s')=true∧e7 (cr (s.aJ cf.n).T x)=true∧tR P t t2 (cr (s.aJ cf.n).T s') (cr (s.aJ cf.n).T x) _ _ _
      | _,_=>False)
     simp only[h1,h2]
     rw[lb]
     exact TD aG aP hK h
    ·exact h.elim
   ·exact h.elim
  ·rename_i f hf
   cases hf
   split at h
   ·rename_i g caps hc
    rcases K2 h with⟨m,e,hm⟩ | hm
    ·subst e
     obtain⟨dst,op,ty,pos,after,guard⟩:=o
     cases fW
     show lX (cr (s.aJ cf.n).T f) fun g caps=>lv P g (args.toList.map (cr (s.aJ cf.n).T)++caps) _ _ Kp
     rw[lb]
     show lX (cP cf.n s f).bE fun g caps=>lv P g (args.toList.map (fun x=>(cP cf.n s x).bE)++caps) _ _ Kp
     rw[hc]
     have:=Uq (n:=cf.n) aG aP (fun v s' Z' h1 h2 aO=>hK v s' Z' h1 h2 aO) hm
     rw[n7,List.map_append,List.map_map] at this
     show lv P m.f (_++cS caps) _ _ Kp
     rw[n7];exact this
    ·rcases K3 hm with⟨m,e,aI⟩ | hm
     ·subst e
      obtain⟨dst,op,ty,pos,after,guard⟩:=o
      cases fW
      show lX (cr (s.aJ cf.n).T f) fun g caps=>lv P g (args.toList.map (cr (s.aJ cf.n).T)++caps) _ _ Kp
      rw[lb]
      show lX (cP cf.n s f).bE fun g caps=>lv P g (args.toList.map (fun x=>(cP cf.n s x).bE)++caps) _ _ Kp
      rw[hc]
      have:=Uw (n:=cf.n) (Kp:=Kp) aG aP (fun v s' Z' h1 h2 aO=>hK v s' Z' h1 h2 aO) aI
      rw[n7,List.map_append,List.map_map] at this
      show lv P m.f (_++cS caps) _ _ Kp
      rw[n7];exact this
     ·exact HB fW (rd hm)
   ·exact h.elim
  ·exact h.elim
 ·rename_i h1 h2 aO bd ch cD gp
  exact PJ (rd h) (fun c=>gp c) (fun t m ps=>ch t m ps)
end
def uQ (b:Bool):TV:= .b (match b with
 | true=> .t
 | false=> .f)
theorem Ol (b:Bool):(uQ b).bE= .bool b:=by cases b<;>rfl
def CU (x:eB) (s:TS) (K:Bool→TS→aW):aW:=match x with
 | .t=>K true s
 | .f=>K false s
 | x=> .je x s (K true ⟨[],s.T++s.B,s.vs,s.bu⟩) (K false ⟨[],s.T++s.B,s.vs,s.bu⟩)
def C6 (d:Nat) (v:TV):TV:=match v with
 | .b x=>(match x with
  | .v p=> .b (.at d p)
  | x=> .b x)
 | v=>v
theorem aff (d:Nat) (v:TV):(C6 d v).bE=v.bE:=by
 unfold C6
 split
 ·split<;>rfl
 ·rfl
def kA (n:Nat) (s:TS) (d:Option Nat) (v:TV):TS:=match d with
 | none=>s
 | some d=>match Nat.blt d n with
  | true=>s.put d (C6 d v)
  | false=>s
theorem aeZ [FZ] {n:Nat} {s s':TS} (hv:s'.vs=s.vs) (hb:s'.bu=s.bu) (h: ∀k,s'.get k=s.get k):s'.aJ n=s.aJ n:=by
 have hc: ∀v c m,hU s' v c m=hU s v c m:=by
  intro v c m
  induction m generalizing c with
  | zero=>rfl
  | succ m bQ=>rw[hU,hU,h _,bQ]
 have aS:=I2 (n:=n) hb (fun b=>h _) (h dK)
 have cu:s'.tT n=s.tT n:=by unfold TS.tT;simp only[h]
 have b1:s'.cs=s.cs:=by unfold TS.cs;simp only[hv,hc]
 show(⟨s'.tT n,s'.cs,(s'.aJ n).H⟩:St)=_
 rw[cu,b1,aS];rfl
theorem Ss (s:TS) (k:Nat):TS.get ⟨[],s.T++s.B,s.vs,s.bu⟩ k=s.get k:=by unfold TS.get;simp only;rw[sc];rfl
theorem aeW [FZ] {n:Nat} (s:TS):TS.aJ n ⟨[],s.T++s.B,s.vs,s.bu⟩=s.aJ n:=aeZ rfl rfl (Ss s)
theorem I1 [FZ] {n:Nat} {x:eB} {s:TS} {K:Bool→TS→aW} {R:Exit→TS→Prop} (h:(CU x s K).den R): ∃s',s'.aJ n=s.aJ n∧(∀k,s'.get k=s.get k)∧(K x.den s').den R:=by
 have key:(aW.je x s (K true ⟨[],s.T++s.B,s.vs,s.bu⟩) (K false ⟨[],s.T++s.B,s.vs,s.bu⟩)).den R→ ∃s',s'.aJ n=s.aJ n∧(∀k,s'.get k=s.get k)∧(K x.den s').den R:=fun h=>by
  refine⟨_,aeW s,Ss s,?_⟩
  ·cases hx:x.den with
   | true=>exact h.1 hx
   | false=>exact h.2 hx
 cases x with
 | t=>exact⟨s,rfl,fun _=>rfl,h⟩
 | f=>exact⟨s,rfl,fun _=>rfl,h⟩
 | _=>exact key h
theorem Cw {s:TS} {d k:Nat} {v:TV} (h:d<1000000) (hk:1000000≤k):(s.put d v).get k=s.get k:=by rw[TS.EI,if_neg (by omega)]
theorem Hk [FZ] {s:TS} {d:Nat} {v:TV} (h:d<1000000) (f:Fits s):Fits (s.put d v):=f.congr fun k h1 _=>Cw h h1
theorem Po {s:TS} {d:Nat} {v:TV} (h:d<1000000):(s.put d v).cs=s.cs:=by
 have hc: ∀e_ c m,hU (s.put d v) e_ c m=hU s e_ c m:=by
  intro e_ c m
  induction m generalizing c with
  | zero=>rfl
  | succ m bQ=>rw[hU,hU,Cw h (by unfold eL;omega),bQ]
 show s.vs.map _=s.vs.map _
 simp only[hc]
theorem Pn [FZ] {n:Nat} {s:TS} {d:Nat} {v:TV} (h:d<1000000):((s.put d v).aJ n).H=(s.aJ n).H:=I2 rfl (fun b=>Cw h (by unfold bD;omega)) (Cw h (by unfold dK;omega))
theorem zA [FZ] {n:Nat} (aG:n≤1000000) (s:TS) (d:Option Nat) (v:TV):(kA n s d v).aJ n=⟨putA (s.aJ n).T d v.bE,(s.aJ n).L,(s.aJ n).H⟩:=by
 cases d with
 | none=>rfl
 | some d=>
  unfold kA
  simp only
  split
  ·rename_i bh
   have bh:d<n:=by rw[←Nat.blt_eq];exact bh
   rw[←aff d v]
   generalize C6 d v=v
   have cu:(s.put d v).tT n=(s.tT n).set d v.bE:=by
    apply List.ext_getElem?
    intro t
    show((List.range n).map fun t=>((s.put d v).get t).bE)[t]?=(((List.range n).map fun t=>(s.get t).bE).set d v.bE)[t]?
    rw[List.getElem?_set]
    simp only[List.getElem?_map,List.length_map,List.length_range]
    rcases Nat.lt_or_ge t n with h | h
    ·rw[List.getElem?_range h]
     simp only[Option.map_some]
     rw[TS.EI]
     by_cases e:d=t
     ·simp[e,h]
     ·simp[e]
    ·rw[List.getElem?_eq_none (l:=List.range n) (by simpa using h)]
     by_cases e:d=t
     ·omega
     ·simp[e]
   have b1:=Po (s:=s) (v:=v) (show d<1000000 by omega)
   have aS:=Pn (n:=n) (s:=s) (v:=v) (show d<1000000 by omega)
   show(⟨(s.put d v).tT n,(s.put d v).cs,((s.put d v).aJ n).H⟩:St)=_
   rw[cu,b1,aS];rfl
  ·rename_i bh
   have bh: ¬d<n:=fun h=>by rw[←Nat.blt_eq] at h;rw[h] at bh;cases bh
   show s.aJ n=⟨(s.aJ n).T.set d v.bE,_,_⟩
   rw[List.set_eq_of_length_le]
   show((List.range n).map _).length≤d
   simp;omega
theorem zz [FZ] {n:Nat} (aG:n≤1000000) {s:TS} {d:Option Nat} {v:TV} (f:Fits s):Fits (kA n s d v):=by
 unfold kA
 split
 ·exact f
 ·split
  ·rename_i bh
   exact Hk (by rw[Nat.blt_eq] at bh;omega) f
  ·exact f
theorem Pr [FZ] {n:Nat} {s:TS} {t:Nat} {v:TV} (bq:t<1000000) (h:(s.get t).bE=v.bE):(s.put t v).aJ n=s.aJ n:=by
 have cu:(s.put t v).tT n=s.tT n:=by
  unfold TS.tT
  refine List.map_congr_left fun k _=> ?_
  rw[TS.EI];split
  ·rename_i e;subst e;exact h.symm
  ·rfl
 have b1:=Po (s:=s) (v:=v) bq
 have aS:=Pn (n:=n) (s:=s) (v:=v) bq
 show(⟨(s.put t v).tT n,(s.put t v).cs,((s.put t v).aJ n).H⟩:St)=_
 rw[cu,b1,aS];rfl
section
variable {P:Program} (cf:hj P)
def Cq (c x y:Operand) (s:TS) (K:TV→TS→aW):aW:=match cP cf.n s c with
 | .b z=>CU z s fun b s=>
  let s:=match c with
   | .tmp t=>s.put t (uQ b)
   | _=>s
  pA (cP cf.n s (bif b then x else y)) fun v=>K v s
 | _=> .no
def Bg (ops:Array Oper) (o:Oper) (s:TS) (run skip:TS→aW):aW:=match o.guard with
 | none=>run s
 | some g=>match(ops[g.1]?).bind (·.dst) with
  | none=> .no
  | some t=>match cP cf.n s (.tmp t) with
   | .b z=>CU z s fun b s=>bif b==g.2 then run (s.put t (uQ b)) else skip (s.put t (uQ b))
   | .tup c=>match c with
    | []=>skip s
    | _=> .no
   | _=> .no
def stepT (ez:qd P) (o:Oper) (s:TS) (K:TV→TS→aW):aW:=match o.op with
 | .pick c x y=>Cq cf c x y s K
 | _=>Db cf s ez o K
def CK (ez:qd P) (ops:Array Oper):List Oper→TS→(TS→aW)→aW
 | [],s,K=>K s
 | o::r,s,K=>Bg cf ops o s (fun s=>stepT cf ez o s fun v s=>CK ez ops r (kA cf.n s o.dst v) K) (fun s=>CK ez ops r (kA cf.n s o.dst (.tup [])) K)
def Ez (ops:Array Oper) (s:TS):List Nat→aW→aW
 | [],k=>k
 | i::r,k=> .eq ((opI ops i).guard.isNone&&(opI ops i).dst.isSome) true (.eq (fun(Z:FZ) H Q=>lx P (opI ops i) (fun x=>(cP cf.n s x).bE) s.cs (@TS.gw Z s++H) Q) (fun _ _ Q=>Q (match(opI ops i).dst with
  | some d=>(cP cf.n s (.tmp d)).bE
  | none=> .undef)) (Ez ops s r k))
def ts (ez:qd P) (ops:Array Oper):List Item→TS→(TS→aW)→aW
 | [],s,K=>K s
 | x::r,s,K=>Bg cf ops (opI ops x.i) s
   (fun s=>match x.q with
    | true=>(match pS (opI ops x.i) with
     | true=>(match(opI ops x.i).dst with
      | some d=> .eq (fun H Q=>lx P (opI ops x.i) (fun x=>(cP cf.n s x).bE) s.cs H Q) (fun _ Q=>Q (.fH d 0)) (ts ez ops r (kA cf.n s (opI ops x.i).dst (.lp d 0)) K)
      | none=> .no)
     | false=>(match(opI ops x.i).op with
      | .pick c a b=>Cq cf c a b s fun v s=>ts ez ops r (kA cf.n s (opI ops x.i).dst v) K
      | _=>sn cf s (opI ops x.i) fun v=>ts ez ops r (kA cf.n s (opI ops x.i).dst v) K))
    | false=>(match(opI ops x.i).op with
     | .pick _ _ _=> .no
     | _=>Db cf s ez (opI ops x.i) fun v s=>Ez cf ops s x.jO (ts ez ops r (kA cf.n s (opI ops x.i).dst v) K)))
   (fun s=>ts ez ops r (kA cf.n s (opI ops x.i).dst (.tup [])) K)
def Ah (P:Program) (ops:Array Oper):List Item→List (Nat×List TV)
 | []=>[]
 | x::r=>match x.q with
  | true=>(match(opI ops x.i).op with
   | .alloc e=>(match(opI ops x.i).dst with
    | some d=>(d,Ag P e)::Ah P ops r
    | none=>Ah P ops r)
   | _=>Ah P ops r)
  | false=>Ah P ops r
def Jy:List (Nat×List TV)→List (Nat×TV)
 | []=>[]
 | (d,c)::r=>tY d 0 c++Jy r
def D3 (ez:qd P) (ops:Array Oper) (ord:List Item) (kk:List (List Nat)) (s:TS) (K:TS→aW):aW:=
 let iC:=Ah P ops ord
 let s':=s.add (Jy iC) (iC.map (fun p=>(p.1,p.2.length))++s.vs) s.bu
 match pu (Jy iC) with
 | false=> .no
 | true=> .eq (P.follows .mixedOrders) true (.eq kk.length ops.size (.eq (vZ ops ord (ya kk)) true (.eq (ord.all (·.lit)) true (.eq s'.cs (iC.map (fun p=>(p.1,cS p.2))++s.cs)
  (.eq (ub (iC.map fun p=>(p.1,cS p.2)) s.cs) true (.eq (tQ ops s.cs ord) true (ts cf ez ops ord s' K)))))))
end
section
variable {P:Program} {cf:hj P} {R:Exit→TS→Prop}
theorem GP {n t:Nat} {s:TS} {v:TV} (h:cP n s (.tmp t)=v) (hv:v≠ .u):t<n∧s.get t=v:=by
 have h:(match Nat.blt t n with
  | true=>s.get t
  | false=>TV.u)=v:=h
 split at h
 ·rename_i hb;exact⟨by rw[←Nat.blt_eq];exact hb,h⟩
 ·exact absurd h.symm hv
end
section
variable {P:Program} {cf:hj P} {R:Exit→TS→Prop}
theorem acb {T:List AV} {t:Nat} {a:AV} (h:T.getD t .undef=a):T.set t a=T∨a= .undef:=by
 by_cases aL:t<T.length
 ·left
  rw[List.getD_eq_getElem?_getD,List.getElem?_eq_getElem aL] at h
  have h:T[t]=a:=h
  rw[←h];exact List.set_getElem_self ..
 ·right;rw[←h,List.getD_eq_getElem?_getD,List.getElem?_eq_none (by omega)];rfl
end
section
variable {P:Program} {cf:hj P} {R:Exit→TS→Prop}
theorem aba {o:Oper} {T:List AV} {K:AV→Prop} {AU:Prop} (h: ∀c x y,o.op≠ .pick c x y):u4 true o T K AU=AU:=by
 unfold u4
 split
 ·rename_i c x y e;exact absurd e (h c x y)
 ·rfl
end
section
variable [Z:FZ] {P:Program} {cf:hj P} {R:Exit→TS→Prop}
theorem Ll (aG:cf.n≤1000000) {ops:Array Oper} {o:Oper} {s:TS} {run skip:TS→aW} {x y:List AV→Prop} (aP:Fits s) (hx: ∀s',Fits s'→s'.aJ cf.n=s.aJ cf.n→(run s').den R→x (s.aJ cf.n).T) (bm: ∀s',Fits s'→s'.aJ cf.n=s.aJ cf.n→(skip s').den R→y (s.aJ cf.n).T)
  (h:(Bg cf ops o s run skip).den R):og ops true o (s.aJ cf.n).T x y:=by
 unfold Bg at h
 unfold og
 split at h
 ·rename_i hg;rw[hg];exact hx s aP rfl h
 ·rename_i g hg
  obtain⟨j,b5⟩:=g
  rw[hg]
  simp only at h ⊢
  split at h
  ·exact h.elim
  ·rename_i t bq
   rw[bq]
   simp only
   have cu:(s.aJ cf.n).T.getD t .undef=(cP cf.n s (.tmp t)).bE:=by
    have:=congrFun (lb cf.n s) (.tmp t);exact this
   split at h
   ·rename_i z qM
    rw[qM] at cu
    rw[cu]
    show pv true z.den _ _
    obtain⟨aL,ho⟩:=GP qM (fun e=>by cases e)
    obtain⟨s',br,e2,h⟩:=I1 (n:=cf.n) h
    have oq:Fits (s'.put t (uQ z.den)):=Hk (by omega) (aP.congr fun k _ _=>e2 k)
    have r2:(s'.put t (uQ z.den)).aJ cf.n=s.aJ cf.n:=by
     rw[Pr (by omega) (by rw[e2,ho,Ol];rfl),br]
    have k9: ∀b,z.den=b→(s.aJ cf.n).T.set t (.bool b)=(s.aJ cf.n).T:=fun b hb=>by
     rcases acb (show(s.aJ cf.n).T.getD t .undef= .bool b by rw[cu,←hb];rfl) with q | q
     ·exact q
     ·cases q
    cases pP:z.den with
    | true=>
     rw[pP] at h r2 oq
     show if b5=true then _ else _
     rw[k9 true pP]
     cases b5 with
     | true=>rw[if_pos rfl];exact hx _ oq r2 h
     | false=>rw[if_neg (by simp)];exact bm _ oq r2 h
    | false=>
     rw[pP] at h r2 oq
     show if b5=true then _ else _
     rw[k9 false pP]
     cases b5 with
     | true=>rw[if_pos rfl];exact bm _ oq r2 h
     | false=>rw[if_neg (by simp)];exact hx _ oq r2 h
   ·rename_i c qM
    rw[qM] at cu
    split at h
    ·rw[cu];exact bm s aP rfl h
    ·exact h.elim
   ·exact h.elim
theorem O7 (aG:cf.n≤1000000) {c x y:Operand} {s:TS} {K:TV→TS→aW} {Kp:AV→Prop} (aP:Fits s) (hK: ∀v s',Fits s'→s'.aJ cf.n=s.aJ cf.n→(K v s').den R→Kp v.bE) (h:(Cq cf c x y s K).den R):
  oN (cr (s.aJ cf.n).T c) fun z=>pv true z (Kp (cr (s.aJ cf.n).T x)) (Kp (cr (s.aJ cf.n).T y)):=by
 unfold Cq at h
 split at h
 ·rename_i z qM
  obtain⟨s',br,e2,h⟩:=I1 (n:=cf.n) h
  simp only at h
  rw[qy] at h
  generalize BI:(match c with
   | .tmp t=>s'.put t (uQ z.den)
   | _=>s')=s2 at h
  have dW:s2.aJ cf.n=s.aJ cf.n:=by
   rw[←BI,←br]
   split
   ·rename_i t
    obtain⟨aL,ho⟩:=GP qM (fun e=>by cases e)
    exact Pr (by omega) (by rw[e2,ho,Ol];rfl)
   ·rfl
  have hf2:Fits s2:=by
   rw[←BI]
   split
   ·rename_i t
    obtain⟨aL,ho⟩:=GP qM (fun e=>by cases e)
    exact Hk (by omega) (aP.congr fun k _ _=>e2 k)
   ·exact aP.congr fun k _ _=>e2 k
  have:=hK _ _ hf2 dW h
  have aC: ∀o,(cP cf.n s2 o).bE=cr (s.aJ cf.n).T o:=fun o=>by rw[←dW,lb]
  rw[aC] at this
  have hc:cr (s.aJ cf.n).T c= .bool z.den:=by
   have:=congrFun (lb cf.n s) c
   rw[this]
   show(cP cf.n s c).bE=_
   rw[qM];rfl
  rw[hc]
  show pv true z.den _ _
  cases pP:z.den with
  | true=>rw[pP] at this;exact this
  | false=>rw[pP] at this;exact this
 ·exact h.elim
theorem ae4 (aG:cf.n≤1000000) {ez:qd P} {o:Oper} {s:TS} {K:TV→TS→aW} {Kp:AV→List (Nat×List AV)→List Blk→Prop} (aP:Fits s) (hK:vL cf s R K Kp) (h:(stepT cf ez o s K).den R):
  u4 true o (s.aJ cf.n).T (fun v=>Kp v (s.aJ cf.n).L (s.aJ cf.n).H) (kn P [] o (cr (s.aJ cf.n).T) (s.aJ cf.n).L (s.aJ cf.n).H Kp):=by
 unfold stepT at h
 split at h
 ·rename_i c x y fW
  unfold u4
  rw[fW]
  exact O7 aG (Kp:=fun v=>Kp v (s.aJ cf.n).L (s.aJ cf.n).H) aP (fun v s' hf e hv=>by
   have eT:s'.tT cf.n=s.tT cf.n:=congrArg St.T e
   have ja:s'.cs=s.cs:=congrArg St.L e
   have:=hK v s' Z hv hf eT
   rw[ja,e] at this;exact this) h
 ·rename_i cl
  rw[aba fun c x y=>cl c x y]
  exact S1 aG aP hK h
end
section
variable {P:Program} {cf:hj P} {R:Exit→TS→Prop}
theorem HG (aG:cf.n≤1000000) {ez:qd P} {ops:Array Oper} {K:TS→aW} {Kp:List AV→List (Nat×List AV)→List Blk→Prop} (hK: ∀s (Z:FZ),(K s).den R→ @Fits Z s→Kp (s.tT cf.n) s.cs (@TS.aJ Z cf.n s).H): ∀(l:List Oper) (Z:FZ) (s:TS),@Fits Z s→(CK cf ez ops l s K).den R→
  evOps P [] ops (l.map fun o=>(o,true)) (s.tT cf.n) s.cs (@TS.aJ Z cf.n s).H Kp
 | [],Z,s,aP,h=>hK s Z h aP
 | o::r,Z,s,aP,h=>by
  refine Ll (Z:=Z) aG aP (fun s' hf e h=> ?_) (fun s' hf e h=> ?_) h
  ·have ja:s'.cs=s.cs:=congrArg St.L e
   rw[←e,←ja]
   exact ae4 (Z:=Z) aG (Kp:=fun v L' H'=>evOps P [] ops (r.map fun o=>(o,true)) (putA (s'.tT cf.n) o.dst v) L' H' Kp) hf (fun v s2 Z2 hv hf2 e2=>by
    have:=HG aG hK r Z2 _ (@zz Z2 _ aG _ _ _ hf2) hv
    have dW:= @zA Z2 cf.n aG s2 o.dst v
    have eT:(kA cf.n s2 o.dst v).tT cf.n=putA (s2.tT cf.n) o.dst v.bE:=congrArg St.T dW
    have D_:(kA cf.n s2 o.dst v).cs=s2.cs:=congrArg St.L dW
    rw[eT,D_,dW] at this
    rw[←e2];exact this) h
  ·have:=HG aG hK r Z _ (zz aG hf) h
   have dW:= @zA Z cf.n aG s' o.dst (.tup [])
   have eT:(kA cf.n s' o.dst (.tup [])).tT cf.n=putA (s'.tT cf.n) o.dst (.tup []):=congrArg St.T dW
   have D_:(kA cf.n s' o.dst (.tup [])).cs=s'.cs:=congrArg St.L dW
   rw[eT,D_,dW] at this
   have i_:s'.tT cf.n=s.tT cf.n:=congrArg St.T e
   have im:s'.cs=s.cs:=congrArg St.L e
   rw[i_,im,e] at this
   exact this
end
section
variable [Z:FZ] {P:Program} {cf:hj P} {R:Exit→TS→Prop}
theorem K9 {ops:Array Oper} {s:TS} {k:aW}: ∀{jO:List Nat},(Ez cf ops s jO k).den R→rO P ops jO (s.aJ cf.n).T (s.aJ cf.n).L (s.aJ cf.n).H∧k.den R
 | [],h=>⟨trivial,h⟩
 | i::r,h=>by
  obtain⟨h1,h2,aO⟩:=h
  simp only[Bool.and_eq_true] at h1
  obtain⟨q1,q2⟩:=K9 aO
  refine⟨⟨⟨h1.1,h1.2,?_⟩,q1⟩,q2⟩
  rw[lb]
  have:=congrFun (congrFun (congrFun h2 Z) (g4 s)) (fun v=>v=sK (opI ops i) (s.aJ cf.n).T)
  have this:lx P (opI ops i) (fun x=>(cP cf.n s x).bE) (s.aJ cf.n).L (s.aJ cf.n).H (fun v=>v=sK (opI ops i) (s.aJ cf.n).T)=_:=this
  rw[this]
  unfold sK
  cases(opI ops i).dst with
  | none=>rfl
  | some d=>
   have:=congrFun (lb cf.n s) (.tmp d)
   exact this.symm
end
section
variable {P:Program} {cf:hj P} {R:Exit→TS→Prop}
theorem abn (Z:FZ) (aG:cf.n≤1000000) (s:TS) (d:Option Nat) (v:TV):(kA cf.n s d v).tT cf.n=putA (s.tT cf.n) d v.bE∧(kA cf.n s d v).cs=s.cs∧(@TS.aJ Z cf.n (kA cf.n s d v)).H=(@TS.aJ Z cf.n s).H:=by
 have dW:= @zA Z cf.n aG s d v
 exact⟨congrArg St.T dW,congrArg St.L dW,by rw[dW]⟩
theorem PS (aG:cf.n≤1000000) {ez:qd P} {ops:Array Oper} {K:TS→aW} {Kp:List AV→List (Nat×List AV)→List Blk→Prop} (hK: ∀s (Z:FZ),(K s).den R→ @Fits Z s→Kp (s.tT cf.n) s.cs (@TS.aJ Z cf.n s).H): ∀(l:List Item) (Z:FZ) (s:TS),@Fits Z s→l.all (·.lit)=true→(ts cf ez ops l s K).den R→
  ko P [] ops l (s.tT cf.n) s.cs (@TS.aJ Z cf.n s).H Kp
 | [],Z,s,aP,_,h=>hK s Z h aP
 | x::r,Z,s,aP,aL,h=>by
  simp only[List.all_cons,Bool.and_eq_true] at aL
  show og ops x.lit (opI ops x.i) _ _ _
  rw[aL.1]
  have next: ∀(s' s2:TS) (Z2:FZ) (v:TV),@Fits Z2 s2→s2.tT cf.n=s'.tT cf.n→(ts cf ez ops r (kA cf.n s2 (opI ops x.i).dst v) K).den R→ko P [] ops r (putA (s'.tT cf.n) (opI ops x.i).dst v.bE) s2.cs (@TS.aJ Z2 cf.n s2).H Kp:=fun s' s2 Z2 v hf e hv=>by
   have:=PS aG hK r Z2 _ (@zz Z2 _ aG _ _ _ hf) aL.2 hv
   obtain⟨q1,q2,q3⟩:=abn (cf:=cf) Z2 aG s2 (opI ops x.i).dst v
   rw[q1,q2,q3] at this
   rw[←e];exact this
  refine Ll (Z:=Z) aG aP (fun s' hf e h=> ?_) (fun s' hf e h=> ?_) h
  ·have ja:s'.cs=s.cs:=congrArg St.L e
   rw[←e,←ja]
   cases ak:x.q with
   | true=>
    rw[ak] at h
    show lx P (opI ops x.i) (cr (s'.aJ cf.n).T) (s'.aJ cf.n).L (s'.aJ cf.n).H _
    cases a3:pS (opI ops x.i) with
    | true=>
     rw[a3] at h
     simp only at h
     split at h
     ·rename_i d bh
      obtain⟨h1,h2⟩:=h
      rw[lb]
      have:=congrFun (congrFun h1 (s'.aJ cf.n).H) (fun v=>ko P [] ops r (putA (s'.aJ cf.n).T (opI ops x.i).dst v) (s'.aJ cf.n).L (s'.aJ cf.n).H Kp)
      have this:lx P (opI ops x.i) (fun x=>(cP cf.n s' x).bE) (s'.aJ cf.n).L (s'.aJ cf.n).H (fun v=>ko P [] ops r (putA (s'.aJ cf.n).T (opI ops x.i).dst v) (s'.aJ cf.n).L (s'.aJ cf.n).H Kp)=_:=this
      refine Eq.mpr this ?_
      exact next s' s' Z (.lp d 0) hf rfl h2
     ·exact h.elim
    | false=>
     rw[a3] at h
     rw[wa a3]
     simp only at h
     split at h
     ·rename_i c a b fW
      have:=O7 (Z:=Z) aG (Kp:=fun v=>ko P [] ops r (putA (s'.aJ cf.n).T (opI ops x.i).dst v) (s'.aJ cf.n).L (s'.aJ cf.n).H Kp) hf (fun v s2 hf2 e2 hv=>by
       have:=next s' s2 Z v hf2 (congrArg St.T e2) hv
       have dW:s2.cs=s'.cs:=congrArg St.L e2
       rw[dW,e2] at this;exact this) h
      unfold j6
      rw[fW];exact this
     ·exact PI hf (Kp:=fun v=>ko P [] ops r (putA (s'.aJ cf.n).T (opI ops x.i).dst v) (s'.aJ cf.n).L (s'.aJ cf.n).H Kp) (fun v hv=>next s' s' Z v hf rfl hv) h
   | false=>
    rw[ak] at h
    simp only at h
    split at h
    ·exact h.elim
    ·exact S1 (Z:=Z) aG hf (Kp:=fun v L' H'=>rO P ops x.jO (s'.tT cf.n) L' H'∧ko P [] ops r (putA (s'.tT cf.n) (opI ops x.i).dst v) L' H' Kp) (fun v s2 Z2 hv hf2 e2=>by
      obtain⟨q1,q2⟩:=K9 (Z:=Z2) hv
      have q1:rO P ops x.jO (s2.tT cf.n) s2.cs (@TS.aJ Z2 cf.n s2).H:=q1
      rw[e2] at q1
      exact⟨q1,next s' s2 Z2 v hf2 e2 q2⟩) h
  ·have:=next s' s' Z (.tup []) hf rfl h
   have i_:s'.tT cf.n=s.tT cf.n:=congrArg St.T e
   have im:s'.cs=s.cs:=congrArg St.L e
   rw[i_,im,e] at this
   exact this
end
end Go.Proofs.Ytglpfccgmfhkdaa.Fw
