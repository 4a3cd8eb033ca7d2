/- The machine, part A: kinds of values, values told by their kinds, trees of conditions. -/
import Derived.Test.YtglpfccgmfhkdaaM2
set_option linter.unusedVariables false
namespace Go.Proofs.Ytglpfccgmfhkdaa.Fw
open Go
inductive bI where
 | int | u64 | u8 | bool | str | bn | j4 | df | fI | g3 | held | frame | done | fault | stays | c4 | unit | nat
 | l (e:bI)
 | ptr (e:bI)
 | ib (f:Nat) (e:bI)
 deriving DecidableEq,Inhabited
@[reducible] def bI.T:bI→Type
 | .int=>Int
 | .u64=>Int
 | .u8=>UInt8
 | .bool=>Bool
 | .str=>ByteArray
 | .bn=>ct
 | .j4=>Way
 | .df=>aA
 | .fI=>Event
 | .g3=>bc
 | .held=>ae
 | .frame=>Frame
 | .done=>fA
 | .fault=>ja
 | .stays=>nb
 | .c4=>a_
 | .unit=>Unit
 | .nat=>Nat
 | .l e=>List e.T
 | .ptr e=>e.T
 | .ib _ e=>e.T
@[reducible] def bI.um:(e:bI)→Inhabited e.T
 | .int=>inferInstanceAs (Inhabited Int)
 | .u64=>inferInstanceAs (Inhabited Int)
 | .u8=>inferInstanceAs (Inhabited UInt8)
 | .bool=>inferInstanceAs (Inhabited Bool)
 | .str=>inferInstanceAs (Inhabited ByteArray)
 | .bn=>inferInstanceAs (Inhabited ct)
 | .j4=>inferInstanceAs (Inhabited Way)
 | .df=>inferInstanceAs (Inhabited aA)
 | .fI=>inferInstanceAs (Inhabited Event)
 | .g3=>inferInstanceAs (Inhabited bc)
 | .held=>inferInstanceAs (Inhabited ae)
 | .frame=>inferInstanceAs (Inhabited Frame)
 | .done=>inferInstanceAs (Inhabited fA)
 | .fault=>inferInstanceAs (Inhabited ja)
 | .stays=>inferInstanceAs (Inhabited nb)
 | .c4=>inferInstanceAs (Inhabited a_)
 | .unit=>inferInstanceAs (Inhabited Unit)
 | .nat=>inferInstanceAs (Inhabited Nat)
 | .l e=>inferInstanceAs (Inhabited (List e.T))
 | .ptr e=>e.um
 | .ib _ e=>e.um
def sP (e:bI) (xs:List e.T) (i:Int):e.T:= @nth e.T e.um xs i
def cX:List bI→Type
 | []=>Unit
 | e::r=>e.T×cX r
def bI.kF:bI→List bI
 | .bn=>[.int,.int]
 | .j4=>[.l .int,.l .bn,.l .bn,.l .int,.l .int]
 | .df=>[.int,.l .int,.l .j4,.l (.l .bool),.int]
 | .fI=>[.int,.int,.int]
 | .g3=>[.int,.int]
 | .held=>[.int,.int,.l .bool,.bool,.int]
 | .frame=>[.bool,.l .bool,.l .g3,.l .held]
 | .done=>[.int,.bool,.l .bool,.l .g3,.l .held]
 | .fault=>[.int,.int]
 | .stays=>[.l .int,.l .int,.l .int]
 | .c4=>[.l .u8,.int,.u64]
 | e=>[e]
def bI.isS:bI→Bool
 | .bn | .j4 | .df | .fI | .g3 | .held | .frame | .done | .fault | .stays | .c4=>true
 | _=>false
def bI.mk:(e:bI)→cX e.kF→e.T
 | .bn,(a,b,_)=>⟨a,b⟩
 | .j4,(a,b,c,d,e,_)=>⟨a,b,c,d,e⟩
 | .df,(a,b,c,d,e,_)=>⟨a,b,c,d,e⟩
 | .fI,(a,b,c,_)=>⟨a,b,c⟩
 | .g3,(a,b,_)=>⟨a,b⟩
 | .held,(a,b,c,d,e,_)=>⟨a,b,c,d,e⟩
 | .frame,(a,b,c,d,_)=>⟨a,b,c,d⟩
 | .done,(a,b,c,d,e,_)=>⟨a,⟨b,c,d,e⟩⟩
 | .fault,(a,b,_)=>⟨a,b⟩
 | .stays,(a,b,c,_)=>⟨a,b,c⟩
 | .c4,(a,b,c,_)=>⟨a,b,c⟩
 | .int,(a,_)=>a
 | .u64,(a,_)=>a
 | .u8,(a,_)=>a
 | .bool,(a,_)=>a
 | .str,(a,_)=>a
 | .unit,(a,_)=>a
 | .nat,(a,_)=>a
 | .l _,(a,_)=>a
 | .ptr _,(a,_)=>a
 | .ib _ _,(a,_)=>a
def bI.un:(e:bI)→e.T→cX e.kF
 | .bn,x=>(x.sw,x.bn,())
 | .j4,x=>(x.ah,x.a2,x.bA,x.cG,x.cD,())
 | .df,x=>(x.ah,x.bd,x.O,x.bU,x.dl,())
 | .fI,x=>(x.op,x.ai,x.bn,())
 | .g3,x=>(x.cy,x.a2,())
 | .held,x=>(x.ar,x.af,x.ac,x.ao,x.ap,())
 | .frame,x=>(x.ok,x.aw,x.au,x.O,())
 | .done,x=>(x.code,x.frame.ok,x.frame.aw,x.frame.au,x.frame.O,())
 | .fault,x=>(x.code,x.pos,())
 | .stays,x=>(x.O,x.ah,x.au,())
 | .c4,x=>(x.code,x.pos,x.tb,())
 | .int,x=>(x,())
 | .u64,x=>(x,())
 | .u8,x=>(x,())
 | .bool,x=>(x,())
 | .str,x=>(x,())
 | .unit,x=>(x,())
 | .nat,x=>(x,())
 | .l _,x=>(x,())
 | .ptr _,x=>(x,())
 | .ib _ _,x=>(x,())
theorem bI.RX (e:bI) (x:cX e.kF):e.un (e.mk x)=x:=by cases e<;>rfl
def b6 (fr:Bool):(e:bI)→e.T→List AV
 | .int,x=>c0 x
 | .u64,x=>[.int .u64 x]
 | .u8,x=>p9 x
 | .bool,x=>aX x
 | .str,x=>DI x
 | .bn,x=>dd x
 | .j4,x=>dk fr x
 | .df,x=>bg fr x
 | .fI,x=>je x
 | .g3,x=>a5 x
 | .held,x=>dD fr x
 | .frame,x=>bW fr x
 | .done,x=>sk fr x
 | .fault,x=>DF x
 | .stays,x=>DH fr x
 | .c4,x=>T7 fr x
 | .l e,x=>[.bC (x.map (b6 false e)) false fr]
 | .unit,_ | .nat,_ | .ptr _,_ | .ib _ _,_=>[.undef]
def oz (fr:Bool):(e:bI)→e.T→AV
 | .int,x=> .int .i64 x
 | .u64,x=> .int .u64 x
 | .u8,x=> .int .u8 x.toNat
 | .bool,x=> .bool x
 | .str,x=> .str x
 | .l e,x=> .bC (x.map (b6 false e)) false fr
 | _,_=> .undef
def lQ (fr:Bool):(es:List bI)→cX es→List AV
 | [],_=>[]
 | e::r,x=>oz fr e x.1::lQ fr r x.2
theorem qa (fr:Bool) (e:bI) (x:e.T):lQ fr e.kF (e.un x)=b6 fr e x:=by
 cases e<;>first | rfl | (simp only[bI.kF,bI.un,lQ,oz,b6];rfl)
def bI.lX:bI→Nat
 | .bn=>2
 | .j4=>5
 | .df=>5
 | .fI=>3
 | .g3=>2
 | .held=>5
 | .frame=>4
 | .done=>5
 | .fault=>2
 | .stays=>3
 | .c4=>3
 | _=>1
theorem rh (fr:Bool) (e:bI) (x:e.T):(b6 fr e x).length=e.lX:=by cases e<;>rfl
def bI.oN:bI→Bool
 | .unit | .nat | .ptr _ | .ib _ _=>false
 | _=>true
theorem Ud {fr:Bool} {e:bI} (h:e.oN=true) (x:e.T):(b6 fr e x).all iX=true:=by cases e<;>first | rfl | cases h
inductive ew where
 | t | f
 | v (b:Bool)
 | at(i:Nat) (b:Bool)
 | n (x:ew)
 | aF (x y:ew)
 | or (x y:ew)
 | ite (c x y:ew)
 deriving Inhabited
def ew.den:ew→Bool
 | .t=>true
 | .f=>false
 | .v b=>b
 | .at _ b=>b
 | .n x=> !x.den
 | .aF x y=>x.den&&y.den
 | .or x y=>x.den || y.den
 | .ite c x y=>bif c.den then x.den else y.den
def ew.not:ew→ew
 | .t=> .f
 | .f=> .t
 | x=> .n x
def ew.uI (b x y:ew):ew:=match x with
 | .t=>(match y with
  | .t=> .t
  | .f=>b
  | y=> .or b y)
 | .f=>(match y with
  | .f=> .f
  | .t=> .n b
  | y=> .aF (.n b) y)
 | x=>(match y with
  | .f=> .aF b x
  | .t=> .or (.n b) x
  | y=> .ite b x y)
theorem ew.y5 (b x y:ew):(ew.uI b x y).den=bif b.den then x.den else y.den:=by
 cases x<;>cases y<;>simp only[ew.uI,ew.den]<;>cases b.den<;>simp
inductive TV where
 | u
 | i (k:IntKind) (n:Int)
 | b (x:ew)
 | s (x:ByteArray)
 | l (e:bI) (xs:List e.T) (full fr:Bool)
 | nil (full fr:Bool)
 | ref (b g n:Nat) (full:Bool)
 | ptr (b g:Nat) (i:Int) (n col:Nat)
 | lp (t col:Nat)
 | dr (e:bI) (x:e.T) (col:Nat)
 | agg (c:List TV)
 | tup (c:List TV)
 | fn (f:FuncId) (c:List TV)
 | o (a:AV)
 | blk (g:Nat) (e:bI) (xs:List e.T) (n:Nat) (h:xs.length=n)
 | et (g:Nat) (c:List TV)
 | kr (g m:Nat) (ids:List Nat)
 | gX (V:List ae) (ids:List Nat) (n:Nat) (h:V.length=n)
 | new (id:Nat) (xs:List Bool)
 | vU (w:Int) (ids:List Nat) (m n:Nat)
 | vT (w:Int) (ids:List Nat) (m:Nat) (j:Int)
 | yZ (id m n:Nat)
 deriving Inhabited
class FZ where
 ws:List ae
 bs:List (List Bool)
mutual
def TV.bE:TV→AV
 | .u=> .undef
 | .i k n=> .int k n
 | .b x=> .bool x.den
 | .s x=> .str x
 | .l e xs full fr=> .bC (xs.map (b6 false e)) full fr
 | .nil full fr=> .bC [] full fr
 | .ref b g n full=> .ref b g 0 n full
 | .ptr b g i _ c=> .ptr b g i.toNat c
 | .lp t c=> .fx t c
 | .dr e x c=> .dr (b6 false e x) c
 | .agg c=> .agg (cJ c)
 | .tup c=> .tup (cJ c)
 | .fn f c=> .fn f (cJ c)
 | .o a=>a
 | .blk _ _ _ _ _=> .undef
 | .et _ _=> .undef
 | .kr _ _ _=> .undef
 | .gX _ _ _ _=> .undef
 | .new _ _=> .undef
 | .vU w ids m k=> .ref (nth ids w+m) 0 0 k false
 | .vT w ids m j=> .ptr (nth ids w+m) 0 j.toNat 0
 | .yZ id m k=> .ref (id+m) 0 0 k false
def cJ:List TV→List AV
 | []=>[]
 | x::r=>x.bE::cJ r
end
theorem nJ (l:List TV):cJ l=l.map TV.bE:=by
 induction l with
 | nil=>rfl
 | cons x r bR=>rw[cJ,bR];rfl
def TV.ea [Z:FZ]:TV→Blk
 | .blk g e xs _ _=>⟨g,e.lX,xs.map (b6 true e)⟩
 | .et g c=>⟨g,c.length,[cJ c]⟩
 | .kr g m ids=>⟨g,5,a0 m Z.ws ids⟩
 | _=>⟨0,0,[]⟩
def zH (fr:Bool):(e:bI)→e.T→TV
 | .int,x=> .i .i64 x
 | .u64,x=> .i .u64 x
 | .u8,x=> .i .u8 x.toNat
 | .bool,x=> .b (.v x)
 | .str,x=> .s x
 | .l e,x=> .l e x false fr
 | _,_=> .u
def CC (fr:Bool):(es:List bI)→cX es→List TV
 | [],_=>[]
 | e::r,x=>zH fr e x.1::CC fr r x.2
theorem IQ (fr:Bool) (e:bI) (x:e.T):(zH fr e x).bE=oz fr e x:=by cases e<;>rfl
theorem RS (fr:Bool): ∀(es:List bI) (x:cX es),cJ (CC fr es x)=lQ fr es x
 | [],_=>rfl
 | e::r,x=>by rw[CC,cJ,lQ,IQ,RS fr r]
def gA (fr:Bool) (e:bI) (x:e.T):List TV:=CC fr e.kF (e.un x)
theorem vB (fr:Bool) (e:bI) (x:e.T):cJ (gA fr e x)=b6 fr e x:=by rw[gA,RS,qa]
structure TS where
 T:List (Nat×TV)
 B:List (Nat×TV)
 vs:List (Nat×Nat)
 bp:Nat
 deriving Inhabited
def fN:List (Nat×TV)→Nat→TV→TV
 | [],_,d=>d
 | (k,v)::r,t,d=>match Nat.beq k t with
  | true=>v
  | false=>fN r t d
def e6 (v c:Nat):Nat:=1000010+(1000*v+c)
def dC:Nat:=1000000
def fV:Nat:=1000001
def bD (b:Nat):Nat:=1000000000000+b
def TS.get (s:TS) (k:Nat):TV:=fN s.T k (fN s.B k .u)
def TS.put (s:TS) (k:Nat) (v:TV):TS:=⟨(k,v)::s.T,s.B,s.vs,s.bp⟩
def hL (s:TS) (v:Nat):Nat→Nat→List TV
 | _,0=>[]
 | c,m+1=>s.get (e6 v c)::hL s v (c+1) m
def TS.tT (n:Nat) (s:TS):List AV:=(List.range n).map fun t=>(s.get t).bE
def TS.cn (s:TS):List (Nat×List AV):=s.vs.map fun p=>(p.1,cJ (hL s p.1 0 p.2))
def ii (s:TS):Bool:=match s.get dC with
 | .gX _ _ _ _=>false
 | _=>true
def gY [Z:FZ] (s:TS):List Blk:=match ii s with
 | true=>[]
 | false=>Z.bs.map bk
def TS.gg [FZ] (s:TS):List Blk:=(List.range s.bp).map fun b=>(s.get (bD b)).ea
def TS.aJ [FZ] (n:Nat) (s:TS):St:=⟨s.tT n,s.cn,s.gg++gY s⟩
def Fits [Z:FZ] (s:TS):Prop:=
 (∀V ids n h,s.get dC= .gX V ids n h→gk Z.ws ids Z.bs∧view Z.ws ids Z.bs=V∧ ∀id xs,s.get fV= .new id xs→id<Z.bs.length∧Z.bs.getD id []=xs∧ ∀j:Nat,ids[j]?≠some id)
theorem Fits.congr [FZ] {s s':TS} (h:Fits s) (e: ∀k,1000000≤k→k<1000010→s'.get k=s.get k):Fits s':=fun V ids n h' mb=>by
 rw[e dC (by unfold dC;omega) (by unfold dC;omega)] at mb
 obtain⟨h1,h2,be⟩:=h V ids n h' mb
 refine⟨h1,h2,fun id xs hi=>be id xs ?_⟩
 rw[←hi,e fV (by unfold fV;omega) (by unfold fV;omega)]
theorem Fits.none [FZ] {s:TS} (h:ii s=true):Fits s:=fun V ids n h' mb=>by
 unfold ii at h;rw[mb] at h;cases h
theorem gD (k:Nat) (v:TV) (r:List (Nat×TV)) (t:Nat) (d:TV):fN ((k,v)::r) t d=if k=t then v else fN r t d:=by
 show(match Nat.beq k t with
  | true=>v
  | false=>fN r t d)=_
 by_cases h:k=t
 ·subst h;rw[Nat.beq_refl,if_pos rfl]
 ·rw[if_neg h]
  cases hb:Nat.beq k t with
  | true=>exact absurd (Nat.eq_of_beq_eq_true hb) h
  | false=>rfl
theorem rR (A B:List (Nat×TV)) (t:Nat) (d:TV):fN (A++B) t d=fN A t (fN B t d):=by
 induction A with
 | nil=>rfl
 | cons p r bR=>obtain⟨k,v⟩:=p;rw[List.cons_append,gD,gD,bR]
theorem sK {A:List (Nat×TV)} {t:Nat} {d:TV} (h: ∀v,(t,v) ∉ A):fN A t d=d:=by
 induction A with
 | nil=>rfl
 | cons p r bR=>
  obtain⟨k,v⟩:=p
  rw[gD,if_neg,bR fun w hw=>h w (List.mem_cons_of_mem _ hw)]
  rintro rfl;exact h v (List.mem_cons_self ..)
theorem TS.Eg (s:TS) (k:Nat) (v:TV) (t:Nat):(s.put k v).get t=if k=t then v else s.get t:=gD ..
inductive aV:Type 1 where
 | kE (ex:Exit) (s:TS)
 | ht
 | no
 | p (φ:Prop) (t:aV)
 | jV (φ:Prop) (t:aV)
 | iP (b:ew) (s:TS) (x y:aV)
 | two (x y:aV)
 | hE (x:aV) (fo:List Prop) (b:ew) (y:aV)
 | all (α:Type) (f:α→aV)
 | eq {α:Type} (a b:α) (t:aV)
def p8:List Prop→Prop
 | []=>True
 | φ::r=>match r with
  | []=>φ
  | r=>φ∧p8 r
theorem JO: ∀{l:List Prop},(∀φ∈l,φ)→p8 l
 | [],_=>trivial
 | [φ],h=>h φ (by simp)
 | φ::ψ::r,h=>⟨h φ (by simp),JO (l:=ψ::r) fun x hx=>h x (List.mem_cons_of_mem _ hx)⟩
def vN (fo:List Prop):ew→List Prop
 | .t=>fo
 | b=>fo++[b.den=true]
def x1 (fo:List Prop) (b:ew):Prop:=p8 (vN fo b)
theorem Uq {fo:List Prop} {b:ew} (h: ∀φ∈fo,φ) (hb:b.den=true):x1 fo b:=by
 unfold x1
 refine JO fun φ eZ=> ?_
 unfold vN at eZ
 split at eZ
 ·exact h φ eZ
 ·rcases List.mem_append.1 eZ with q | q
  ·exact h φ q
  ·rw[List.mem_singleton.1 q];exact hb
def aV.den:aV→(Exit→TS→Prop)→Prop
 | .kE ex s,R=>R ex s
 | .ht,_=>True
 | .no,_=>False
 | .p φ t,R=>φ∧t.den R
 | .jV φ t,R=>φ→t.den R
 | .iP b _ x y,R=>(b.den=true→x.den R)∧(b.den=false→y.den R)
 | .two x y,R=>x.den R∧y.den R
 | .hE x fo b y,R=>x.den R∧(x1 fo b→y.den R)
 | .all _ f,R=> ∀a,(f a).den R
 | .eq a b t,R=>a=b∧t.den R
def aV.bind:aV→(Exit→TS→aV)→aV
 | .kE ex s,K=>K ex s
 | .ht,_=> .ht
 | .no,_=> .no
 | .p φ t,K=> .p φ (t.bind K)
 | .jV φ t,K=> .jV φ (t.bind K)
 | .iP b s x y,K=> .iP b s (x.bind K) (y.bind K)
 | .two x y,K=> .two (x.bind K) (y.bind K)
 | .hE x fo b y,K=> .hE (x.bind K) fo b (y.bind K)
 | .all α f,K=> .all α fun a=>(f a).bind K
 | .eq a b t,K=> .eq a b (t.bind K)
theorem aV.SZ (t:aV) (K:Exit→TS→aV) (R:Exit→TS→Prop):(t.bind K).den R=t.den fun ex s=>(K ex s).den R:=by
 induction t with
 | kE ex s=>rfl
 | ht=>rfl
 | no=>rfl
 | p φ t bR=>simp only[aV.bind,aV.den,bR]
 | jV φ t bR=>simp only[aV.bind,aV.den,bR]
 | iP b s x y hQ hD=>simp only[aV.bind,aV.den,hQ,hD]
 | two x y hQ hD=>simp only[aV.bind,aV.den,hQ,hD]
 | hE x fo b y hQ hD=>simp only[aV.bind,aV.den,hQ,hD]
 | all α f bR=>simp only[aV.bind,aV.den,bR]
 | eq a b t bR=>simp only[aV.bind,aV.den,bR]
theorem aV.rf {t:aV} {R xH:Exit→TS→Prop} (h:t.den R) (k: ∀ex s,R ex s→xH ex s):t.den xH:=by
 induction t with
 | kE ex s=>exact k _ _ h
 | ht=>trivial
 | no=>exact h
 | p φ t bR=>exact⟨h.1,bR h.2⟩
 | jV φ t bR=>exact fun q=>bR (h q)
 | iP b s x y hQ hD=>exact⟨fun q=>hQ (h.1 q),fun q=>hD (h.2 q)⟩
 | two x y hQ hD=>exact⟨hQ h.1,hD h.2⟩
 | hE x fo b y hQ hD=>exact⟨hQ h.1,fun q=>hD (h.2 q)⟩
 | all α f bR=>exact fun a=>bR a (h a)
 | eq a b t bR=>exact⟨h.1,bR h.2⟩
inductive fS:Type 1 where
 | ht
 | p (φ:Prop)
 | and (a b:fS)
 | jV (φ:Prop) (c:fS)
 | all (α:Type) (f:α→fS)
def fS.and' (a b:fS):fS:=match a with
 | .ht=>b
 | a=>match b with
  | .ht=>a
  | b=> .and a b
def fS.wB (φ:Prop) (c:fS):fS:=match c with
 | .ht=> .ht
 | c=> .jV φ c
def fS.den:fS→Prop
 | .ht=>True
 | .p φ=>φ
 | .and a b=>a.den∧b.den
 | .jV φ c=>φ→c.den
 | .all _ f=> ∀a,(f a).den
theorem fS.z1 (a b:fS):(fS.and' a b).den↔a.den∧b.den:=by
 cases a<;>cases b<;>simp[fS.and',fS.den]
theorem fS.Bq (φ:Prop) (c:fS):(fS.wB φ c).den↔(φ→c.den):=by
 cases c<;>simp[fS.wB,fS.den]
def fS.fact (fo:List Prop) (b:ew) (c:fS):fS:=match vN fo b with
 | []=>c
 | φ::r=> .wB (p8 (φ::r)) c
theorem fS.Ur (fo:List Prop) (b:ew) (c:fS):(fS.fact fo b c).den↔(x1 fo b→c.den):=by
 unfold fS.fact x1
 split
 ·rename_i h;rw[h];simp[p8]
 ·rename_i h;rw[h];exact fS.Bq _ _
def aV.nL:aV→fS
 | .kE _ _=> .ht
 | .ht=> .ht
 | .no=> .p False
 | .p φ t=> .and' (.p φ) t.nL
 | .jV φ t=> .wB φ t.nL
 | .iP b _ x y=> .and' (.wB (b.den=true) x.nL) (.wB (b.den=false) y.nL)
 | .two x y=> .and' x.nL y.nL
 | .hE x fo b y=> .and' x.nL (.fact fo b y.nL)
 | .all α f=> .all α fun a=>(f a).nL
 | .eq _ _ t=>t.nL
inductive q9:Type 1 where
 | u
 | v {α:Type} (a:α) (t:q9)
 | n (a b:q9)
 | f {α:Type} (g:α→q9)
def aV.lhs:aV→q9
 | .kE _ _ | .ht | .no=> .u
 | .p _ t | .jV _ t=>t.lhs
 | .iP _ _ x y | .two x y | .hE x _ _ y=> .n x.lhs y.lhs
 | .all _ f=> .f fun a=>(f a).lhs
 | .eq a _ t=> .v a t.lhs
def aV.rhs:aV→q9
 | .kE _ _ | .ht | .no=> .u
 | .p _ t | .jV _ t=>t.rhs
 | .iP _ _ x y | .two x y | .hE x _ _ y=> .n x.rhs y.rhs
 | .all _ f=> .f fun a=>(f a).rhs
 | .eq _ b t=> .v b t.rhs
theorem aV.full {t:aV} (h:t.nL.den) (e:t.lhs=t.rhs):t.den fun _ _=>True:=by
 induction t with
 | kE ex s=>trivial
 | ht=>trivial
 | no=>exact h
 | p φ t bR=>
  have h:=(fS.z1 _ _).1 h
  exact⟨h.1,bR h.2 e⟩
 | jV φ t bR=>exact fun q=>bR ((fS.Bq _ _).1 h q) e
 | iP b s x y hQ hD=>
  have h:=(fS.z1 _ _).1 h
  injection e with bB e2
  exact⟨fun q=>hQ ((fS.Bq _ _).1 h.1 q) bB,fun q=>hD ((fS.Bq _ _).1 h.2 q) e2⟩
 | two x y hQ hD=>
  have h:=(fS.z1 _ _).1 h
  injection e with bB e2
  exact⟨hQ h.1 bB,hD h.2 e2⟩
 | hE x fo b y hQ hD=>
  have h:=(fS.z1 _ _).1 h
  injection e with bB e2
  exact⟨hQ h.1 bB,fun q=>hD ((fS.Ur _ _ _).1 h.2 q) e2⟩
 | all α f bR=>
  injection e with _ e
  exact fun a=>bR a (h a) (congrFun e a)
 | eq a b t bR=>
  injection e with _ bB e2
  exact⟨bB,bR h e2⟩
def uJ (b:ew) (x y:TV):TV:=match x with
 | .i k n=>(match y with
  | .i kC m=>if k=kC then .i k (bif b.den then n else m) else .u
  | _=> .u)
 | .b x=>(match y with
  | .b y=> .b (ew.uI b x y)
  | _=> .u)
 | _=> .u
def ew.rQ:ew→ew→Bool
 | .at i _,.at j _=>Nat.beq i j
 | .t,.t=>true
 | .f,.f=>true
 | .n x,.n y=>x.rQ y
 | .aF x y,.aF z w=>x.rQ z&&y.rQ w
 | .or x y,.or z w=>x.rQ z&&y.rQ w
 | .ite c x y,.ite d z w=>c.rQ d&&x.rQ z&&y.rQ w
 | _,_=>false
def Ge (x y:TV):Bool:=match x with
 | .b x=>(match y with
  | .b y=>x.rQ y
  | _=>false)
 | _=>false
def BE (b:ew) (x y:TV):TV:=match Ge x y with
 | true=>x
 | false=>uJ b x y
def uu (s s':TS):List (Nat×TV)→List (List (Nat×TV)×List (Nat×TV))
 | []=>[]
 | p::r=>match Ge (s.get p.1) (s'.get p.1) with
  | true=>([(p.1,s.get p.1)],[(p.1,s'.get p.1)])::uu s s' r
  | false=>uu s s' r
inductive q_ where
 | bad
 | none
 | some (s:TS) (jF:List (List (Nat×TV)×List (Nat×TV)))
def lN {e dP:bI} (h:dP=e) (xs:List dP.T):List e.T:=h▸xs
def Ed:(e:bI)→TV→e.T
 | .int,.i _ m=>m
 | .u64,.i _ m=>m
 | .bool,.b x=>x.den
 | .str,.s x=>x
 | .l e,.l dP xs _ _=>if h:dP=e then lN h xs else[]
 | e,_=>e.um.default
def oA:(es:List bI)→List TV→cX es
 | [],_=>()
 | e::r,v::vs=>(Ed e v,oA r vs)
 | e::r,[]=>(e.um.default,oA r [])
def qA (c:List TV):a_:=bI.mk .c4 (oA bI.c4.kF c)
def Bt:TV→Bool
 | .et _ _=>true
 | _=>false
def wT (s s':TS):List (Nat×TV)→Bool
 | []=>true
 | (k,_)::r=>match Nat.blt k 1000000 with
  | true=>wT s s' r
  | false=>match Bt (s.get k)&&Bt (s'.get k)&&Nat.ble 1000010 k with
   | true=>wT s s' r
   | false=>false
def ZV (b:ew) (x y:TV):TV:=match x with
 | .et g c=>(match y with
  | .et _ c'=> .et g (gA false .c4 (bif b.den then qA c else qA c'))
  | _=> .u)
 | _=> .u
def rT (b:ew) (k:Nat) (x y:TV):TV:=match Nat.blt k 1000000 with
 | true=>BE b x y
 | false=>ZV b x y
def aaL (x y:TV):List (List (Nat×TV)×List (Nat×TV)):=match x with
 | .et g c=>(match y with
  | .et dB c'=>[([(g,.agg c)],[(dB,.agg (gA false .c4 (qA c)))]),([(0,.agg c')],[(0,.agg (gA false .c4 (qA c')))])]
  | _=>[])
 | _=>[]
def uQ (s s':TS):List (Nat×TV)→List (List (Nat×TV)×List (Nat×TV))
 | []=>[]
 | p::r=>match Nat.blt p.1 1000000 with
  | true=>uQ s s' r
  | false=>aaL (s.get p.1) (s'.get p.1)++uQ s s' r
def Av:List (Nat×Nat)→List (Nat×Nat)→Bool
 | [],[]=>true
 | (a,b)::r,(c,d)::q=>Nat.beq a c&&Nat.beq b d&&Av r q
 | _,_=>false
def q_.iP (b:ew) (e1:TS) (x y:q_):q_:=match x with
 | .bad=> .bad
 | .none=>(match y with
  | .bad=> .bad
  | .none=> .none
  | .some s q=> .some ⟨s.T++e1.T,e1.B,s.vs,s.bp⟩ ((s.B,e1.T++e1.B)::q))
 | .some s q=>(match y with
  | .bad=> .bad
  | .none=> .some ⟨s.T++e1.T,e1.B,s.vs,s.bp⟩ ((s.B,e1.T++e1.B)::q)
  | .some s' sW=>match wT s s' (s.T++s'.T)&&Av s.vs s'.vs&&Nat.beq s.bp s'.bp with
   | true=> .some ⟨(s.T++s'.T).map (fun p=>(p.1,rT b p.1 (s.get p.1) (s'.get p.1)))++e1.T,e1.B,s.vs,s.bp⟩ ((s.B,e1.T++e1.B)::(s'.B,e1.T++e1.B)::(q++(sW++(uu s s' (s.T++s'.T)++uQ s s' (s.T++s'.T)))))
   | false=> .bad)
def aV.mQ:aV→q_
 | .kE ex s=>(match ex with
  | .normal=> .some s []
  | _=> .none)
 | .ht | .no=> .none
 | .p _ t | .jV _ t | .eq _ _ t=>t.mQ
 | .iP b s x y=>q_.iP b s x.mQ y.mQ
 | .two _ _ | .all _ _=> .bad
 | .hE x _ _ y=>(match x.mQ with
  | .none=>y.mQ
  | _=> .bad)
def aV.li:aV→ew
 | .kE ex _=>(match ex with
  | .normal=> .t
  | _=> .f)
 | .ht | .no=> .f
 | .p _ t | .jV _ t | .eq _ _ t=>t.li
 | .iP b _ x y=>ew.uI b x.li y.li
 | .two _ _ | .all _ _=> .t
 | .hE _ _ b y=>(match b with
  | .t=>y.li
  | b=>ew.uI b y.li .f)
def aV.facts:aV→List Prop
 | .kE _ _ | .ht | .no | .two _ _ | .all _ _=>[]
 | .p _ t | .eq _ _ t=>t.facts
 | .jV φ t=>φ::t.facts
 | .iP _ _ x y=>(match x.li with
  | .f=>y.facts
  | _=>match y.li with
   | .f=>x.facts
   | _=>[])
 | .hE _ fo _ y=>fo++y.facts
def I9 (x y:TV):Prop:= ∃g c c',x= .et g c∧y= .et g c'∧cJ c'=cJ c
structure TS.gI (s S:TS):Prop where
 vs:S.vs=s.vs
 bp:S.bp=s.bp
 get: ∀k,S.get k=s.get k∨(k<1000000∧((S.get k).bE=(s.get k).bE∨(S.get k).bE= .undef))∨(1000010≤k∧I9 (s.get k) (S.get k))
theorem TS.gI.refl (s:TS):s.gI s:=⟨rfl,rfl,fun _=> .inl rfl⟩
theorem TS.gI.trans {a b c:TS} (h:a.gI b) (k:b.gI c):a.gI c:=⟨k.vs.trans h.vs,k.bp.trans h.bp,fun t=>by
 rcases k.get t with e | ⟨aL,e⟩ | ⟨aL,e⟩
 ·rw[e];exact h.get t
 ·refine .inr (.inl ⟨aL,?_⟩)
  rcases e with e | e
  ·rcases h.get t with q | ⟨_,q⟩ | ⟨hb,_⟩
   ·rw[e,q];exact .inl rfl
   ·rw[e];exact q
   ·omega
  ·exact .inr e
 ·refine .inr (.inr ⟨aL,?_⟩)
  rcases h.get t with q | ⟨hb,_⟩ | ⟨_,q⟩
  ·rw[←q];exact e
  ·omega
  ·obtain⟨g,x,y,bB,e2,dK⟩:=e
   obtain⟨dB,la,aeN,f1,f2,f3⟩:=q
   rw[bB] at f2
   cases f2
   exact⟨g,la,y,f1,e2,dK.trans f3⟩⟩
theorem Z3 {s s':TS} {l:List (Nat×TV)} (h:wT s s' l=true) {k:Nat} {v:TV} (hm:(k,v)∈l) (hk: ¬k<1000000):1000010≤k∧(∃g c,s.get k= .et g c)∧ ∃g c,s'.get k= .et g c:=by
 induction l with
 | nil=>cases hm
 | cons p r bR=>
  obtain⟨a,w⟩:=p
  unfold wT at h
  split at h
  ·rename_i a3
   rcases List.mem_cons.1 hm with e | hm
   ·cases e;exact absurd (by rw[←Nat.blt_eq];exact a3) hk
   ·exact bR h hm
  ·split at h
   ·rename_i hc
    rcases List.mem_cons.1 hm with e | hm
    ·cases e
     simp only[Bool.and_eq_true] at hc
     have ON: ∀x:TV,Bt x=true→ ∃g c,x= .et g c:=fun x hx=>by
      unfold Bt at hx
      split at hx
      ·exact⟨_,_,rfl⟩
      ·cases hx
     exact⟨Nat.le_of_ble_eq_true hc.2,ON _ hc.1.1,ON _ hc.1.2⟩
    ·exact bR h hm
   ·cases h
theorem OM {s s':TS}: ∀{l:List (Nat×TV)},(∀p∈uQ s s' l,p.1=p.2)→ ∀k v,(k,v)∈l→ ¬k<1000000→ ∀(g:Nat) (c:List TV) (dB:Nat) (c':List TV),s.get k= .et g c→s'.get k= .et dB c'→g=dB∧c=gA false .c4 (qA c)∧c'=gA false .c4 (qA c')
 | [],_,k,v,h,_=>by cases h
 | p::r,ak,k,v,h,hk=>fun g c dB c' bB e2=>by
  unfold uQ at ak
  rcases List.mem_cons.1 h with e | h
  ·cases e
   have hb:Nat.blt k 1000000=false:=by
    cases hb:Nat.blt k 1000000 with
    | true=>rw[Nat.blt_eq] at hb;exact absurd hb hk
    | false=>rfl
   simp only[hb,bB,e2] at ak
   have q1:=ak _ (List.mem_append_left _ (List.mem_cons_self ..))
   have q2:=ak _ (List.mem_append_left _ (List.mem_cons_of_mem _ (List.mem_cons_self ..)))
   injection q1 with M _
   injection q2 with U _
   have jb:=(Prod.mk.inj M)
   have db:=(Prod.mk.inj U)
   exact⟨jb.1,TV.agg.inj jb.2,TV.agg.inj db.2⟩
  ·refine OM (fun q hm=>ak q ?_) k v h hk g c dB c' bB e2
   split
   ·exact hm
   ·exact List.mem_append_right _ hm
theorem J8: ∀{l m:List (Nat×Nat)},Av l m=true→l=m
 | [],[],_=>rfl
 | [],_::_,h=>by cases h
 | _::_,[],h=>by cases h
 | (a,b)::r,(c,d)::q,h=>by
  simp only[Av,Bool.and_eq_true] at h
  rw[Nat.eq_of_beq_eq_true h.1.1,Nat.eq_of_beq_eq_true h.1.2,J8 h.2]
theorem aag {b:ew} {x y:TV} (h:b.den=true):(uJ b x y).bE=x.bE∨(uJ b x y).bE= .undef:=by
 unfold uJ
 split
 ·split
  ·split
   ·left;simp[TV.bE,h]
   ·exact .inr rfl
  ·exact .inr rfl
 ·split
  ·left;simp[TV.bE,ew.y5,h]
  ·exact .inr rfl
 ·exact .inr rfl
theorem aaf {b:ew} {x y:TV} (h:b.den=false):(uJ b x y).bE=y.bE∨(uJ b x y).bE= .undef:=by
 unfold uJ
 split
 ·split
  ·split
   ·rename_i e;left;subst e;simp[TV.bE,h]
   ·exact .inr rfl
  ·exact .inr rfl
 ·split
  ·left;simp[TV.bE,ew.y5,h]
  ·exact .inr rfl
 ·exact .inr rfl
theorem aaP {s e1:TS} (h:s.B=e1.T++e1.B) (vs:List (Nat×Nat)) (bp k:Nat):TS.get ⟨s.T++e1.T,e1.B,vs,bp⟩ k=s.get k:=by
 unfold TS.get
 simp only
 rw[h,rR,rR]
theorem ZD {l:List (Nat×TV)} {f:Nat→TV} {k:Nat} {d:TV}:((∃v,(k,v)∈l)∧fN (l.map fun p=>(p.1,f p.1)) k d=f k)∨((∀v,(k,v) ∉ l)∧fN (l.map fun p=>(p.1,f p.1)) k d=d):=by
 induction l with
 | nil=>exact .inr ⟨(fun v h=>by cases h),rfl⟩
 | cons p r bR=>
  obtain⟨a,w⟩:=p
  rw[List.map_cons,gD]
  by_cases e:a=k
  ·subst e;exact .inl ⟨⟨w,List.mem_cons_self ..⟩,if_pos rfl⟩
  ·rw[if_neg e]
   rcases bR with⟨⟨v,q⟩,h⟩ | ⟨q,h⟩
   ·exact .inl ⟨⟨v,List.mem_cons_of_mem _ q⟩,h⟩
   ·refine .inr ⟨fun v hv=> ?_,h⟩
    rcases List.mem_cons.1 hv with hv | hv
    ·cases hv;exact e rfl
    ·exact q v hv
theorem Nw {s s':TS}: ∀{l:List (Nat×TV)},(∀p∈uu s s' l,p.1=p.2)→ ∀k v,(k,v)∈l→Ge (s.get k) (s'.get k)=true→s.get k=s'.get k
 | [],_,k,v,h,_=>by cases h
 | p::r,ak,k,v,h,aL=>by
  unfold uu at ak
  rcases List.mem_cons.1 h with e | h
  ·cases e
   rw[aL] at ak
   have:=ak _ (List.mem_cons_self ..)
   injection this with bB _
   exact(Prod.mk.inj bB).2
  ·refine Nw (fun q hm=>ak q ?_) k v h aL
   split
   ·exact List.mem_cons_of_mem _ hm
   ·exact hm
theorem ZL {b:ew} {e1 s s':TS} (h1:s.B=e1.T++e1.B) (h2:s'.B=e1.T++e1.B) (ei:wT s s' (s.T++s'.T)=true) (hv:s.vs=s'.vs) (aH:s.bp=s'.bp) (ak: ∀p∈uu s s' (s.T++s'.T)++uQ s s' (s.T++s'.T),p.1=p.2):
  let S:TS:=⟨(s.T++s'.T).map (fun p=>(p.1,rT b p.1 (s.get p.1) (s'.get p.1)))++e1.T,e1.B,s.vs,s.bp⟩
  (b.den=true→s.gI S)∧(b.den=false→s'.gI S):=by
 intro S
 have ES: ∀p∈uu s s' (s.T++s'.T),p.1=p.2:=fun p aI=>ak p (List.mem_append_left _ aI)
 have kh: ∀p∈uQ s s' (s.T++s'.T),p.1=p.2:=fun p aI=>ak p (List.mem_append_right _ aI)
 have g_: ∀k,((∃v,(k,v)∈s.T++s'.T)∧S.get k=rT b k (s.get k) (s'.get k))∨((∀v,(k,v) ∉ s.T++s'.T)∧S.get k=fN e1.T k (fN e1.B k .u)):=fun k=>by
  have e:S.get k=fN (List.map (fun p=>(p.1,(fun k=>rT b k (s.get k) (s'.get k)) p.1)) (s.T++s'.T)) k (fN e1.T k (fN e1.B k .u)):=by
   show fN (_++e1.T) k _=_
   rw[rR]
  rw[e];exact ZD (f:=fun k=>rT b k (s.get k) (s'.get k))
 have base: ∀(x:TS),x.B=e1.T++e1.B→ ∀k,(∀v,(k,v) ∉ x.T)→x.get k=fN e1.T k (fN e1.B k .u):=fun x hx k hk=>by
  unfold TS.get;rw[sK hk,hx,rR]
 have PJ: ∀k,k<1000000→rT b k (s.get k) (s'.get k)=BE b (s.get k) (s'.get k):=fun k hk=>by
  unfold rT;rw[show Nat.blt k 1000000=true by rw[Nat.blt_eq];exact hk]
 have Ju: ∀k v,(k,v)∈s.T++s'.T→ ¬k<1000000→1000010≤k∧ ∃g c c',s.get k= .et g c∧s'.get k= .et g c'∧c=gA false .c4 (qA c)∧c'=gA false .c4 (qA c')∧rT b k (s.get k) (s'.get k)= .et g (gA false .c4 (bif b.den then qA c else qA c')):=fun k v hm hk=>by
  obtain⟨dL,⟨g,c,bB⟩,dB,c',e2⟩:=Z3 ei hm hk
  obtain⟨fj,fO,fu⟩:=OM kh k v hm hk _ _ _ _ bB e2
  subst fj
  refine⟨dL,g,c,c',bB,e2,fO,fu,?_⟩
  unfold rT
  have hb:Nat.blt k 1000000=false:=by
   cases hb:Nat.blt k 1000000 with
   | true=>rw[Nat.blt_eq] at hb;exact absurd hb hk
   | false=>rfl
  rw[hb,bB,e2];rfl
 refine⟨fun hb=>⟨rfl,rfl,fun k=> ?_⟩,fun hb=>⟨hv,aH,fun k=> ?_⟩⟩
 ·rcases g_ k with⟨⟨v,q⟩,h⟩ | ⟨q,h⟩
  ·by_cases hk:k<1000000
   ·rw[h,PJ k hk];refine .inr (.inl ⟨hk,?_⟩)
    unfold BE
    split
    ·exact .inl rfl
    ·exact aag hb
   ·obtain⟨dL,g,c,c',bB,e2,fO,fu,dK⟩:=Ju k v q hk
    refine .inr (.inr ⟨dL,g,c,_,bB,h.trans dK,?_⟩)
    rw[hb];exact congrArg cJ fO.symm
  ·rw[h];exact .inl (base s h1 k fun v hv=>q v (List.mem_append_left _ hv)).symm
 ·rcases g_ k with⟨⟨v,q⟩,h⟩ | ⟨q,h⟩
  ·by_cases hk:k<1000000
   ·rw[h,PJ k hk];refine .inr (.inl ⟨hk,?_⟩)
    unfold BE
    split
    ·rename_i aL;rw[Nw ES k v q aL];exact .inl rfl
    ·exact aaf hb
   ·obtain⟨dL,g,c,c',bB,e2,fO,fu,dK⟩:=Ju k v q hk
    refine .inr (.inr ⟨dL,g,c',_,e2,h.trans dK,?_⟩)
    rw[hb];exact congrArg cJ fu.symm
  ·rw[h];exact .inl (base s' h2 k fun v hv=>q v (List.mem_append_right _ hv)).symm
theorem aV.NH: ∀{t:aV} {R:Exit→TS→Prop},t.mQ= .none→t.den R→t.den fun ex s=>R ex s∧ex≠ .normal:=by
 intro t
 induction t with
 | kE ex s=>
  intro R h d
  refine⟨d,?_⟩
  rintro rfl;cases h
 | ht=>intros;trivial
 | no=>intro R h d;exact d
 | p φ t bR=>intro R h d;exact⟨d.1,bR h d.2⟩
 | jV φ t bR=>intro R h d;exact fun q=>bR h (d q)
 | eq a b t bR=>intro R h d;exact⟨d.1,bR h d.2⟩
 | two x y hQ hD=>intro R h;cases h
 | all α f bR=>intro R h;cases h
 | hE x fo b y hQ hD=>
  intro R h d
  unfold aV.mQ at h
  split at h
  ·rename_i hx;exact⟨hQ hx d.1,fun q=>hD h (d.2 q)⟩
  ·cases h
 | iP b s x y hQ hD=>
  intro R h d
  have h:q_.iP b s x.mQ y.mQ= .none:=h
  unfold q_.iP at h
  split at h
  ·cases h
  ·rename_i hx
   split at h
   ·cases h
   ·rename_i bt;exact⟨fun q=>hQ hx (d.1 q),fun q=>hD bt (d.2 q)⟩
   ·cases h
  ·split at h
   ·cases h
   ·cases h
   ·split at h<;>cases h
theorem aV.ZO: ∀{t:aV} {R:Exit→TS→Prop} {S:TS} {jF:List (List (Nat×TV)×List (Nat×TV))},t.mQ= .some S jF→(∀p∈jF,p.1=p.2)→t.den R→
  t.den fun ex s=>R ex s∧(ex= .normal→s.gI S∧t.li.den=true∧ ∀φ∈t.facts,φ):=by
 intro t
 induction t with
 | kE ex s=>
  intro R S jF h ak d
  refine⟨d,?_⟩
  rintro rfl
  cases h
  exact⟨.refl s,rfl,fun φ h=>by cases h⟩
 | ht=>intros;trivial
 | no=>intro R S jF h ak d;exact d
 | p φ t bR=>intro R S jF h ak d;exact⟨d.1,bR h ak d.2⟩
 | jV φ t bR=>
  intro R S jF h ak d q
  refine aV.rf (bR h ak (d q)) fun ex s hs=>⟨hs.1,fun e=>⟨(hs.2 e).1,(hs.2 e).2.1,fun ψ E6=> ?_⟩⟩
  rcases List.mem_cons.1 E6 with rfl | E6
  ·exact q
  ·exact(hs.2 e).2.2 ψ E6
 | eq a b t bR=>intro R S jF h ak d;exact⟨d.1,bR h ak d.2⟩
 | two x y hQ hD=>intro R S jF h;cases h
 | all α f bR=>intro R S jF h;cases h
 | hE x fo b y hQ hD=>
  intro R S jF h ak d
  unfold aV.mQ at h
  split at h
  ·rename_i hx
   refine⟨aV.rf (aV.NH hx d.1) fun ex s hs=>⟨hs.1,fun e=>absurd e hs.2⟩,fun q=>aV.rf (hD h ak (d.2 q)) fun ex s hs=>⟨hs.1,fun e=> ?_⟩⟩
   obtain⟨h1,h2,aN⟩:=hs.2 e
   have eo: ∀(l:List Prop),p8 l→ ∀φ∈l,φ:=by
    intro l
    induction l with
    | nil=>intro _ φ eZ;cases eZ
    | cons a r bR=>
     intro hc φ eZ
     cases r with
     | nil=>rw[List.mem_singleton.1 eZ];exact hc
     | cons ia B9=>
      have hc:a∧p8 (ia::B9):=hc
      rcases List.mem_cons.1 eZ with rfl | eZ
      ·exact hc.1
      ·exact bR hc.2 φ eZ
   have eo:=eo _ q
   refine⟨h1,?_,fun φ eZ=> ?_⟩
   ·unfold aV.li
    split
    ·exact h2
    ·rename_i ck
     have hb:b.den=true:=eo _ (by
      unfold vN
      split
      ·exact absurd rfl ck
      ·simp)
     rw[ew.y5,hb,h2];rfl
   ·rcases List.mem_append.1 eZ with eZ | eZ
    ·have hm: ∀b:ew,φ∈vN fo b:=fun b=>by
      unfold vN
      split
      ·exact eZ
      ·exact List.mem_append_left _ eZ
     exact eo φ (hm b)
    ·exact aN φ eZ
  ·cases h
 | iP b e1 x y hQ hD=>
  intro R S jF h ak d
  have h:q_.iP b e1 x.mQ y.mQ= .some S jF:=h
  have NU: ∀{z:aV} {R:Exit→TS→Prop},z.mQ= .none→z.den R→z.den fun ex s=>R ex s∧(ex= .normal→False):=fun aP T4=>aV.NH aP T4
  have KJ:b.den=true→x.li.den=true→(ew.uI b x.li y.li).den=true:=fun h1 h2=>by rw[ew.y5,h1,h2];rfl
  have KK:b.den=false→y.li.den=true→(ew.uI b x.li y.li).den=true:=fun h1 h2=>by rw[ew.y5,h1,h2];rfl
  have KU:x.li.den=true→(∀φ∈x.facts,φ)→ ∀φ∈(aV.iP b e1 x y).facts,φ:=fun h1 h2 φ eZ=>by
   unfold aV.facts at eZ
   split at eZ
   ·rename_i e;rw[e] at h1;cases h1
   ·split at eZ
    ·exact h2 φ eZ
    ·cases eZ
  have KV:y.li.den=true→(∀φ∈y.facts,φ)→ ∀φ∈(aV.iP b e1 x y).facts,φ:=fun h1 h2 φ eZ=>by
   unfold aV.facts at eZ
   split at eZ
   ·exact h2 φ eZ
   ·split at eZ
    ·rename_i e;rw[e] at h1;cases h1
    ·cases eZ
  have et: ∀{s:TS},s.B=e1.T++e1.B→s.gI ⟨s.T++e1.T,e1.B,s.vs,s.bp⟩:=fun dV=>⟨rfl,rfl,fun k=> .inl (aaP dV _ _ k)⟩
  unfold q_.iP at h
  split at h
  ·cases h
  ·rename_i hx
   split at h
   ·cases h
   ·cases h
   ·rename_i s q bt
    cases h
    have dV:=ak _ (List.mem_cons_self ..)
    refine⟨fun hb=>aV.rf (NU hx (d.1 hb)) fun ex z aP=>⟨aP.1,fun e=>(aP.2 e).elim⟩,fun hb=>aV.rf (hD bt (fun p aI=>ak p (List.mem_cons_of_mem _ aI)) (d.2 hb)) fun ex z aP=>⟨aP.1,fun e=> ?_⟩⟩
    obtain⟨h1,h2,aN⟩:=aP.2 e
    exact⟨h1.trans (et dV),KK hb h2,KV h2 aN⟩
  ·rename_i s q hx
   split at h
   ·cases h
   ·rename_i bt
    cases h
    have dV:=ak _ (List.mem_cons_self ..)
    refine⟨fun hb=>aV.rf (hQ hx (fun p aI=>ak p (List.mem_cons_of_mem _ aI)) (d.1 hb)) fun ex z aP=>⟨aP.1,fun e=> ?_⟩,fun hb=>aV.rf (NU bt (d.2 hb)) fun ex z aP=>⟨aP.1,fun e=>(aP.2 e).elim⟩⟩
    obtain⟨h1,h2,aN⟩:=aP.2 e
    exact⟨h1.trans (et dV),KJ hb h2,KU h2 aN⟩
   ·rename_i s' sW bt
    split at h
    ·rename_i hc
     cases h
     simp only[Bool.and_eq_true] at hc
     obtain⟨⟨nc,C7⟩,C8⟩:=hc
     have VQ:=ak _ (List.mem_cons_self ..)
     have VR:=ak _ (List.mem_cons_of_mem _ (List.mem_cons_self ..))
     obtain⟨aU,bu⟩:=ZL (b:=b) VQ VR nc (J8 C7) (Nat.eq_of_beq_eq_true C8) (fun p aI=>ak p (List.mem_cons_of_mem _ (List.mem_cons_of_mem _ (List.mem_append_right _ (List.mem_append_right _ aI)))))
     refine⟨fun hb=>aV.rf (hQ hx (fun p aI=>ak p (List.mem_cons_of_mem _ (List.mem_cons_of_mem _ (List.mem_append_left _ aI)))) (d.1 hb)) fun ex z aP=>⟨aP.1,fun e=> ?_⟩,
      fun hb=>aV.rf (hD bt (fun p aI=>ak p (List.mem_cons_of_mem _ (List.mem_cons_of_mem _ (List.mem_append_right _ (List.mem_append_left _ aI))))) (d.2 hb)) fun ex z aP=>⟨aP.1,fun e=> ?_⟩⟩
     ·obtain⟨h1,h2,aN⟩:=aP.2 e
      exact⟨h1.trans (aU hb),KJ hb h2,KU h2 aN⟩
     ·obtain⟨h1,h2,aN⟩:=aP.2 e
      exact⟨h1.trans (bu hb),KK hb h2,KV h2 aN⟩
    ·cases h
def kH:List (Nat×Nat)→Nat→Option Nat
 | [],_=>none
 | (k,m)::r,t=>match Nat.beq k t with
  | true=>some m
  | false=>kH r t
section
variable [FZ] {n:Nat} {s:TS}
theorem zB (t:Nat):(s.aJ n).T.getD t .undef=if t<n then(s.get t).bE else .undef:=by
 show((List.range n).map fun t=>(s.get t).bE).getD t .undef=_
 rw[List.getD_eq_getElem?_getD,List.getElem?_map]
 by_cases h:t<n
 ·rw[List.getElem?_range h,if_pos h];rfl
 ·rw[List.getElem?_eq_none (by simpa using h),if_neg h];rfl
theorem u2 (v:Nat):eK (s.aJ n).L v=(kH s.vs v).map fun m=>cJ (hL s v 0 m):=by
 show eK (s.vs.map fun p=>(p.1,cJ (hL s p.1 0 p.2))) v=_
 induction s.vs with
 | nil=>rfl
 | cons p r bR=>
  obtain⟨k,m⟩:=p
  rw[List.map_cons]
  unfold eK kH
  by_cases h:v=k
  ·subst h;simp
  ·have:Nat.beq k v=false:=by
    cases hb:Nat.beq k v with
    | true=>exact absurd (Nat.eq_of_beq_eq_true hb).symm h
    | false=>rfl
   simp only[h,if_false,this];exact bR
theorem pO (b:Nat):s.gg[b]?=if b<s.bp then some (s.get (bD b)).ea else none:=by
 show((List.range s.bp).map fun b=>(s.get (bD b)).ea)[b]?=_
 rw[List.getElem?_map]
 by_cases h:b<s.bp
 ·rw[List.getElem?_range h,if_pos h];rfl
 ·rw[List.getElem?_eq_none (by simpa using h),if_neg h];rfl
theorem m4:s.gg.length=s.bp:=by show((List.range s.bp).map _).length=_;simp
theorem qV {b:Nat} (h:b<s.bp):(s.aJ n).H[b]?=some (s.get (bD b)).ea:=by
 show(s.gg++gY s)[b]?=_
 rw[List.getElem?_append_left (by rw[m4];exact h),pO,if_pos h]
theorem Cu (h:ii s=true):(s.aJ n).H.length=s.bp:=by
 show(s.gg++gY s).length=_
 unfold gY;rw[h];simp[m4]
end
def Al:Value→TV
 | .int k n=> .i k n
 | .bool b=> .b (match b with
  | true=> .t
  | false=> .f)
 | .string x=> .s x
 | .slice none 0 0=> .nil true true
 | .pointer none=> .o .fW
 | .nilIface=> .o .gp
 | _=> .u
theorem TL (v:Value):(Al v).bE=oy v:=by
 unfold Al oy
 split
 ·rfl
 ·rename_i b;cases b<;>rfl
 ·rfl
 ·rfl
 ·rfl
 ·rfl
 ·rename_i h1 h2 aN be ci cK
  split
  ·exact absurd rfl (h1 _ _)
  ·exact absurd rfl (h2 _)
  ·exact absurd rfl (aN _)
  ·exact absurd rfl be
  ·exact absurd rfl ci
  ·exact absurd rfl cK
  ·rfl
def cF (n:Nat) (s:TS):Operand→TV
 | .tmp t=>(match Nat.blt t n with
  | true=>s.get t
  | false=> .u)
 | .const v=>Al v
 | .func f=> .fn f []
 | .global _=> .u
theorem k0 [FZ] (n:Nat) (s:TS):cm (s.aJ n).T=fun x=>(cF n s x).bE:=by
 funext x
 cases x with
 | tmp t=>
  show(s.aJ n).T.getD t .undef=_
  rw[zB]
  unfold cF
  by_cases h:t<n
  ·have hb:Nat.blt t n=true:=by rw[Nat.blt_eq];exact h
   simp only[if_pos h,hb]
  ·have hb:Nat.blt t n=false:=by
    cases hb:Nat.blt t n with
    | true=>rw[Nat.blt_eq] at hb;exact absurd hb h
    | false=>rfl
   simp only[if_neg h,hb];rfl
 | const v=>exact(TL v).symm
 | func f=>rfl
 | global g=>rfl
def KE (x:ew) (K:ew→aV):aV:=match x with
 | .t=>K .t
 | .f=>K .f
 | .v p=>K (.v p)
 | .at i p=>K (.at i p)
 | .n p=>K (.n p)
 | .aF p q=>K (.aF p q)
 | .or p q=>K (.or p q)
 | .ite p q r=>K (.ite p q r)
theorem Vc (x:ew) (K:ew→aV):KE x K=K x:=by cases x<;>rfl
def pb (v:TV) (K:TV→aV):aV:=match v with
 | .u=>K .u
 | .i k m=>K (.i k m)
 | .b x=>KE x fun x=>K (.b x)
 | .s x=>K (.s x)
 | .l e xs f r=>K (.l e xs f r)
 | .nil f r=>K (.nil f r)
 | .ref p g m f=>K (.ref p g m f)
 | .ptr p g j m c=>K (.ptr p g j m c)
 | .lp t c=>K (.lp t c)
 | .dr e x c=>K (.dr e x c)
 | .agg c=>K (.agg c)
 | .tup c=>K (.tup c)
 | .fn f c=>K (.fn f c)
 | .o a=>K (.o a)
 | .blk g e xs m h=>K (.blk g e xs m h)
 | .et g c=>K (.et g c)
 | .kr g m ids=>K (.kr g m ids)
 | .gX V ids n h=>K (.gX V ids n h)
 | .new id xs=>K (.new id xs)
 | .vU w ids m n=>K (.vU w ids m n)
 | .vT w ids m j=>K (.vT w ids m j)
 | .yZ id m n=>K (.yZ id m n)
theorem qc (v:TV) (K:TV→aV):pb v K=K v:=by
 cases v with
 | b x=>exact Vc x fun x=>K (.b x)
 | _=>rfl
def nP:(e:bI)→e.T→AV
 | .ptr e,x=> .dr (b6 false e x) 0
 | .ib f .unit,_=> .fn f []
 | .ib f e,x=> .fn f [nP e x]
 | e,x=>match e.isS with
  | true=> .agg (b6 false e x)
  | false=>oz false e x
def nQ:(es:List bI)→cX es→List AV
 | [],_=>[]
 | e::r,x=>nP e x.1::nQ r x.2
def vJ (e:bI) (x:e.T):AV:=match e.isS with
 | true=> .agg (b6 true e x)
 | false=>oz true e x
def lR:(es:List bI)→cX es→List AV
 | [],_=>[]
 | e::r,x=>vJ e x.1::lR r x.2
def kS:(es:List bI)→cX es→AV
 | [e],x=>vJ e x.1
 | es,x=> .tup (lR es x)
def Cc (e:bI) (x:e.T):TV:=match e.isS with
 | true=> .agg (gA true e x)
 | false=>zH true e x
def Cd:(es:List bI)→cX es→List TV
 | [],_=>[]
 | e::r,x=>Cc e x.1::Cd r x.2
def Ce:(es:List bI)→cX es→TV
 | [e],x=>Cc e x.1
 | es,x=> .tup (Cd es x)
theorem OV (e:bI) (x:e.T):(Cc e x).bE=vJ e x:=by
 unfold Cc vJ
 cases e.isS with
 | true=>show AV.agg (cJ _)=_;rw[vB]
 | false=>exact IQ true e x
theorem OW: ∀(es:List bI) (x:cX es),cJ (Cd es x)=lR es x
 | [],_=>rfl
 | e::r,x=>by rw[Cd,cJ,lR,OV,OW r]
theorem Hb (es:List bI) (x:cX es):(Ce es x).bE=kS es x:=by
 match es,x with
 | [],x=>rfl
 | [e],x=>exact OV e x.1
 | e::dP::r,x=>show AV.tup (cJ _)=_;rw[OW];rfl
structure eg (P:Program) where
 f:FuncId
 ps:List bI
 rs:List bI
 pre:Option (cX ps→Prop)
 fn:cX ps→cX rs
 ok: ∀x,(match pre with
  | none=>True
  | some p=>p x)→bZ P f (nQ ps x) (kS rs (fn x))
def Tq {e dP:bI} (h:dP=e) (x:dP.T):e.T:=h▸x
def Ak (ba:IntKind) (v:TV) (K:Int→List Prop→aV):aV:=match v with
 | .i k n=>if k=ba then K n [] else .no
 | _=> .no
def Dp (v:TV) (K:Bool→List Prop→aV):aV:=match v with
 | .b x=>K x.den []
 | _=> .no
def Dt (v:TV) (K:ByteArray→List Prop→aV):aV:=match v with
 | .s x=>K x []
 | _=> .no
def Dn (e:bI) (g n:Nat) (v:TV) (K:List e.T→List Prop→aV):aV:=match v with
 | .blk dB dP xs pA _=>if h:dP=e then .eq dB g (.eq pA n (K (lN h xs) [xs.length≤4611686018427387904])) else .no
 | _=> .no
def Du (s:TS) (e:bI) (g n:Nat) (v:TV) (K:List e.T→List Prop→aV):aV:=match v with
 | .kr dB m ids=>(match s.get dC with
  | .gX V c9 bT _=>if h:bI.held=e then .eq c9 ids (.eq dB 0 (.eq g 0 (.eq n bT (.eq m s.bp (K (lN h V) [V.length≤4611686018427387904]))))) else .no
  | _=> .no)
 | v=>Dn e g n v K
def Dr (s:TS) (e:bI) (v:TV) (K:List e.T→List Prop→aV):aV:=match v with
 | .l dP xs _ _=>if h:dP=e then K (lN h xs) [] else .no
 | .nil _ _=>K [] []
 | .ref b g n _=>(match Nat.blt b s.bp with
  | true=>Du s e g n (s.get (bD b)) K
  | false=> .no)
 | _=> .no
def nM (s:TS):(e:bI)→TV→(e.T→List Prop→aV)→aV
 | .int,v,K=>Ak .i64 v K
 | .u64,v,K=>Ak .u64 v K
 | .bool,v,K=>Dp v K
 | .str,v,K=>Dt v K
 | .l e,v,K=>Dr s e v K
 | _,_,_=> .no
def xW (s:TS):(es:List bI)→List TV→(cX es→List Prop→aV)→aV
 | [],[],K=>K () []
 | e::r,v::vs,K=>nM s e v fun x o=>xW s r vs fun y lq=>K (x,y) (o++lq)
 | _,_,_=> .no
def nN (s:TS) (e:bI) (v:TV) (K:e.T→List Prop→aV):aV:=match e.isS with
 | true=>(match v with
  | .agg c=>xW s e.kF c fun x o=>K (e.mk x) o
  | _=> .no)
 | false=>nM s e v K
def Ds (s:TS) (e:bI) (v:TV) (K:e.T→List Prop→aV):aV:=match v with
 | .lp t c=>(match Nat.beq c 0 with
  | true=>(match kH s.vs t with
   | some m=>xW s e.kF (hL s t 0 m) fun x o=>K (e.mk x) o
   | none=> .no)
  | false=> .no)
 | .dr dP x c=>(match Nat.beq c 0 with
  | true=>if h:dP=e then K (Tq h x) [] else .no
  | false=> .no)
 | _=> .no
def Dq (f:Nat) (v:TV) (K:Unit→List Prop→aV):aV:=match v with
 | .fn g c=>(match Nat.beq f g with
  | true=>(match c with
   | []=>K () []
   | _=> .no)
  | false=> .no)
 | _=> .no
def Aj (f:Nat) (v:TV) (K:TV→aV):aV:=match v with
 | .fn g c=>(match Nat.beq f g with
  | true=>(match c with
   | [w]=>K w
   | _=> .no)
  | false=> .no)
 | _=> .no
def conv (s:TS):(e:bI)→TV→(e.T→List Prop→aV)→aV
 | .ptr e,v,K=>Ds s e v K
 | .ib f .unit,v,K=>Dq f v K
 | .ib f e,v,K=>Aj f v fun w=>match e.isS with
  | true=> .no
  | false=>conv s e w K
 | .bn,v,K=>nN s .bn v K
 | .j4,v,K=>nN s .j4 v K
 | .df,v,K=>nN s .df v K
 | .fI,v,K=>nN s .fI v K
 | .g3,v,K=>nN s .g3 v K
 | .held,v,K=>nN s .held v K
 | .frame,v,K=>nN s .frame v K
 | .done,v,K=>nN s .done v K
 | .fault,v,K=>nN s .fault v K
 | .stays,v,K=>nN s .stays v K
 | .c4,v,K=>nN s .c4 v K
 | .int,v,K=>nM s .int v K
 | .u64,v,K=>nM s .u64 v K
 | .u8,v,K=>nM s .u8 v K
 | .bool,v,K=>nM s .bool v K
 | .str,v,K=>nM s .str v K
 | .unit,v,K=>nM s .unit v K
 | .nat,v,K=>nM s .nat v K
 | .l e,v,K=>nM s (.l e) v K
def Dh (s:TS):(es:List bI)→List TV→(cX es→List Prop→aV)→aV
 | [],[],K=>K () []
 | e::r,v::vs,K=>conv s e v fun x o=>Dh s r vs fun y lq=>K (x,y) (o++lq)
 | _,_,_=> .no
section
variable {n:Nat} {s:TS} {R:Exit→TS→Prop}
theorem Ts {L:List (Nat×List AV)} {H:List Blk} (e:bI) (x:e.T):om L H (b6 true e x) (b6 false e x):=by
 rw[←qa,←qa]
 have key: ∀(es:List bI) (y:cX es),om L H (lQ true es y) (lQ false es y):=by
  intro es
  induction es with
  | nil=>intro y;exact .nil
  | cons e r bR=>
   intro y
   refine .cons ?_ (bR y.2)
   cases e<;>first | exact .int _ _ | exact .bool _ | exact .str _ | exact cz | exact .undef _
 exact key _ _
end
section
variable {n:Nat} {s:TS} {R:Exit→TS→Prop}
theorem JW {k:IntKind} {v:TV} {K:Int→List Prop→aV} (h:(Ak k v K).den R): ∃m,v= .i k m∧(K m []).den R:=by
 unfold Ak at h
 split at h
 ·split at h
  ·rename_i e;subst e;exact⟨_,rfl,h⟩
  ·exact h.elim
 ·exact h.elim
end
section
variable {n:Nat} {s:TS} {R:Exit→TS→Prop}
theorem TF {v:TV} {K:Bool→List Prop→aV} (h:(Dp v K).den R): ∃x,v= .b x∧(K x.den []).den R:=by
 unfold Dp at h
 split at h
 ·exact⟨_,rfl,h⟩
 ·exact h.elim
end
section
variable {n:Nat} {s:TS} {R:Exit→TS→Prop}
theorem TK {v:TV} {K:ByteArray→List Prop→aV} (h:(Dt v K).den R): ∃x,v= .s x∧(K x []).den R:=by
 unfold Dt at h
 split at h
 ·exact⟨_,rfl,h⟩
 ·exact h.elim
end
section
variable {n:Nat} {s:TS} {R:Exit→TS→Prop}
theorem TE {e:bI} {g m:Nat} {v:TV} {K:List e.T→List Prop→aV} (h:(Dn e g m v K).den R): ∃xs,∃hx:xs.length=m,v= .blk g e xs m hx∧(K xs [xs.length≤4611686018427387904]).den R:=by
 unfold Dn at h
 split at h
 ·rename_i dB dP xs pA hx
  split at h
  ·rename_i bX
   subst bX
   obtain⟨h1,h2,h⟩:=h
   subst h1;subst h2
   exact⟨xs,hx,rfl,h⟩
  ·exact h.elim
 ·exact h.elim
end
section
variable {n:Nat} {s:TS} {R:Exit→TS→Prop}
theorem ab1 {L:List (Nat×List AV)} {H:List Blk} {a b:AV} (h:c3 L H a b) (hb: ∀l,b≠ .agg l):fT L H a b:=by
 rcases h with⟨l,fh,_,e,_⟩ | h
 ·exact absurd e (hb fh)
 ·exact h
end
section
variable {n:Nat} {s:TS} {R:Exit→TS→Prop}
theorem Ua (fr:Bool) (e:bI) (x:e.T): ∀l,oz fr e x≠ .agg l:=by
 intro l h;cases e<;>cases h
end
section
variable {n:Nat} {s:TS} {R:Exit→TS→Prop}
theorem TG {f:Nat} {v:TV} {K:Unit→List Prop→aV} (h:(Dq f v K).den R):v= .fn f []∧(K () []).den R:=by
 unfold Dq at h
 split at h
 ·split at h
  ·rename_i hf
   obtain rfl:=Nat.eq_of_beq_eq_true hf
   split at h
   ·exact⟨rfl,h⟩
   ·exact h.elim
  ·exact h.elim
 ·exact h.elim
end
section
variable {n:Nat} {s:TS} {R:Exit→TS→Prop}
theorem TH {f:Nat} {v:TV} {K:TV→aV} (h:(Aj f v K).den R): ∃w,v= .fn f [w]∧(K w).den R:=by
 unfold Aj at h
 split at h
 ·split at h
  ·rename_i hf
   obtain rfl:=Nat.eq_of_beq_eq_true hf
   split at h
   ·exact⟨_,rfl,h⟩
   ·exact h.elim
  ·exact h.elim
 ·exact h.elim
end
section
variable {n:Nat} {s:TS} {R:Exit→TS→Prop}
theorem Ue {e:bI} (h:e.isS=false) (x:e.T): ∀l,nP e x≠ .agg l:=by
 intro l
 cases e with
 | ib f e=>cases e<;>(intro h;cases h)
 | ptr e=>intro h;cases h
 | _=>first | (cases h;done) | exact Ua false _ x l
end
section
variable [FZ] {n:Nat} {s:TS} {R:Exit→TS→Prop}
theorem rk {V:List ae} {ids:List Nat} {bT:Nat} {hv:V.length=bT} (hk:s.get dC= .gX V ids bT hv):(s.aJ n).H=s.gg++List.map bk ‹FZ›.bs:=by
 show s.gg++gY s=_
 unfold gY ii
 rw[hk]
theorem Kn {V:List ae} {ids:List Nat} {bT:Nat} {hv:V.length=bT} (hk:s.get dC= .gX V ids bT hv) {id:Nat} {k:Blk} (h:(List.map bk ‹FZ›.bs)[id]?=some k):(s.aJ n).H[id+s.bp]?=some k:=by
 rw[rk hk,List.getElem?_append_right (by rw[m4];omega),m4,Nat.add_sub_cancel];exact h
variable (aP:Fits s)
include aP in
theorem TM {e:bI} {b g m:Nat} {en:Bool} {K:List e.T→List Prop→aV} (hb:b<s.bp) (h:(Du s e g m (s.get (bD b)) K).den R): ∃x o,(K x o).den R∧((∀φ∈o,φ)→fT (s.aJ n).L (s.aJ n).H (.ref b g 0 m en) (.bC (List.map (b6 false e) x) false false)):=by
 unfold Du at h
 split at h
 ·rename_i dB hF ids hg
  split at h
  ·rename_i V c9 bT kA hk
   split at h
   ·rename_i he
    subst he
    obtain⟨h1,h2,aN,be,ci,h⟩:=h
    subst h1;subst h2;subst aN;subst be;subst ci;subst kA
    refine⟨_,_,h,fun aC=> ?_⟩
    have aL:=aC _ (List.mem_singleton.2 rfl)
    obtain⟨q1,q2,q3⟩:=aP V c9 _ _ hk
    have pr:V.length= ‹FZ›.ws.length:=by rw[←q2];exact i_ q1.ok
    have:=ta (L:=(s.aJ n).L) (H:=(s.aJ n).H) (b:=b) (s:=s.bp) (n:=V.length) (full:=en) (ws:= ‹FZ›.ws) (ids:=c9) (bs:= ‹FZ›.bs) pr (by rw[qV hb,hg];rfl) (fun id k jy=>Kn hk jy) q1.ok (by omega) (fun x hx=>by have:=q1.len x hx;omega)
    rw[q2] at this
    exact this
   ·exact h.elim
  ·exact h.elim
 ·obtain⟨xs,hx,hg,h'⟩:=TE h
  subst hx
  refine⟨_,_,h',fun aC=> ?_⟩
  have aL:=aC _ (List.mem_singleton.2 rfl)
  exact Pd (eT:=b6 true e) (by rw[qV hb,hg];rfl) (fun x=>Ts e x) aL
include aP in
theorem TI {e:bI} {v:TV} {K:List e.T→List Prop→aV} (h:(Dr s e v K).den R): ∃x o,(K x o).den R∧((∀φ∈o,φ)→fT (s.aJ n).L (s.aJ n).H v.bE (.bC (List.map (b6 false e) x) false false)):=by
 unfold Dr at h
 split at h
 ·split at h
  ·rename_i bX;subst bX;exact⟨_,_,h,fun _=>cz⟩
  ·exact h.elim
 ·exact⟨_,_,h,fun _=>by rw[List.map_nil];exact cz⟩
 ·rename_i b g oa en
  split at h
  ·rename_i hb
   exact TM aP (by rw[←Nat.blt_eq];exact hb) h
  ·exact h.elim
 ·exact h.elim
include aP in
theorem Dg {e:bI} {v:TV} {K:e.T→List Prop→aV} (h:(nM s e v K).den R): ∃x o,(K x o).den R∧((∀φ∈o,φ)→fT (s.aJ n).L (s.aJ n).H v.bE (oz false e x)):=by
 cases e with
 | int=>obtain⟨m,rfl,h⟩:=JW h;exact⟨m,_,h,fun _=> .int _ _⟩
 | u64=>obtain⟨m,rfl,h⟩:=JW h;exact⟨m,_,h,fun _=> .int _ _⟩
 | bool=>obtain⟨x,rfl,h⟩:=TF h;exact⟨_,_,h,fun _=> .bool _⟩
 | str=>obtain⟨x,rfl,h⟩:=TK h;exact⟨_,_,h,fun _=> .str _⟩
 | l e=>exact TI aP h
 | _=>exact h.elim
include aP in
theorem Ah: ∀{es:List bI} {vs:List TV} {K:cX es→List Prop→aV},(xW s es vs K).den R→ ∃x o,(K x o).den R∧((∀φ∈o,φ)→aD (fT (s.aJ n).L (s.aJ n).H) (cJ vs) (lQ false es x))
 | [],[],K,h=>⟨(),[],h,fun _=>aD.nil⟩
 | e::r,v::vs,K,h=>by
  obtain⟨x,o,h,ei⟩:=Dg aP (n:=n) (show(nM s e v _).den R from h)
  obtain⟨y,lq,h,ih⟩:=Ah h
  exact⟨(x,y),o++lq,h,fun aC=>aD.cons (ei fun φ eZ=>aC φ (List.mem_append_left _ eZ)) (ih fun φ eZ=>aC φ (List.mem_append_right _ eZ))⟩
 | [],_::_,K,h=>h.elim
 | _::_,[],K,h=>h.elim
include aP in
theorem TC {e:bI} {v:TV} {K:e.T→List Prop→aV} (h:(nN s e v K).den R): ∃x o,(K x o).den R∧((∀φ∈o,φ)→c3 (s.aJ n).L (s.aJ n).H v.bE (match e.isS with
  | true=> .agg (b6 false e x)
  | false=>oz false e x)):=by
 unfold nN at h
 cases mJ:e.isS with
 | true=>
  rw[mJ] at h
  simp only at h
  split at h
  ·rename_i c
   obtain⟨x,o,h,k⟩:=Ah aP (n:=n) h
   refine⟨_,o,h,fun aC=> ?_⟩
   show c3 _ _ (.agg (cJ c)) (.agg (b6 false e (e.mk x)))
   rw[←qa,bI.RX]
   exact c3.agg (k aC)
  ·exact h.elim
 | false=>
  rw[mJ] at h
  obtain⟨x,o,h,k⟩:=Dg aP (n:=n) (show(nM s e v K).den R from h)
  exact⟨x,o,h,fun aC=> .inr (k aC)⟩
include aP in
theorem TJ {e:bI} {v:TV} {K:e.T→List Prop→aV} (h:(Ds s e v K).den R): ∃x o,(K x o).den R∧((∀φ∈o,φ)→c3 (s.aJ n).L (s.aJ n).H v.bE (.dr (b6 false e x) 0)):=by
 unfold Ds at h
 split at h
 ·rename_i t c
  split at h
  ·rename_i hc
   obtain rfl:=Nat.eq_of_beq_eq_true hc
   split at h
   ·rename_i m hm
    obtain⟨x,o,h,k⟩:=Ah aP (n:=n) h
    refine⟨_,o,h,fun aC=> .inr ?_⟩
    have k:=k aC
    show fT _ _ (.fx t 0) (.dr (b6 false e (e.mk x)) 0)
    rw[←qa,bI.RX]
    exact .fx (cells:=cJ (hL s t 0 m)) (by rw[u2,hm];rfl) k.1 k.2
   ·exact h.elim
  ·exact h.elim
 ·rename_i dP x c
  split at h
  ·rename_i hc
   obtain rfl:=Nat.eq_of_beq_eq_true hc
   split at h
   ·rename_i bX;subst bX;exact⟨_,_,h,fun _=> .inr (.dr _ _)⟩
   ·exact h.elim
  ·exact h.elim
 ·exact h.elim
include aP in
theorem Di: ∀{e:bI} {v:TV} {K:e.T→List Prop→aV},(conv s e v K).den R→ ∃x o,(K x o).den R∧((∀φ∈o,φ)→c3 (s.aJ n).L (s.aJ n).H v.bE (nP e x)):=by
 intro e
 induction e with
 | ptr e bR=>intro v K h;exact TJ aP h
 | ib f e bR=>
  intro v K h
  have key:(∀x,nP (.ib f e) x= .fn f [nP e x])→(Aj f v fun w=>match e.isS with
   | true=> .no
   | false=>conv s e w K).den R→ ∃x o,(K x o).den R∧((∀φ∈o,φ)→c3 (s.aJ n).L (s.aJ n).H v.bE (nP (.ib f e) x)):=by
   intro he h
   obtain⟨w,rfl,h'⟩:=TH h
   cases mJ:e.isS with
   | true=>rw[mJ] at h';exact h'.elim
   | false=>
    rw[mJ] at h'
    obtain⟨x,o,h2,k⟩:=bR h'
    refine⟨x,o,h2,fun aC=> .inr ?_⟩
    rw[he]
    refine fT.fn (caps:=[w.bE]) rfl fun j a b h1 h2=> ?_
    cases j with
    | zero=>cases h1;cases h2;exact ab1 (k aC) (Ue mJ x)
    | succ j=>cases h1
  cases e with
  | unit=>
   obtain⟨rfl,h'⟩:=TG h
   exact⟨(),[],h',fun _=> .inr (fT.fn (caps:=[]) rfl fun j a b h1 _=>by cases h1)⟩
  | _=>exact key (fun x=>rfl) h
 | _=>
  intro v K h
  first
  | exact TC aP (n:=n) h
  | (obtain⟨x,o,h,k⟩:=Dg aP (n:=n) h;exact⟨x,o,h,fun aC=> .inr (k aC)⟩)
include aP in
theorem JQ: ∀{es:List bI} {vs:List TV} {K:cX es→List Prop→aV},(Dh s es vs K).den R→ ∃x o,(K x o).den R∧((∀φ∈o,φ)→aD (c3 (s.aJ n).L (s.aJ n).H) (cJ vs) (nQ es x))
 | [],[],K,h=>⟨(),[],h,fun _=>aD.nil⟩
 | e::r,v::vs,K,h=>by
  obtain⟨x,o,h,ei⟩:=Di aP (n:=n) (show(conv s e v _).den R from h)
  obtain⟨y,lq,h,ih⟩:=JQ h
  exact⟨(x,y),o++lq,h,fun aC=>aD.cons (ei fun φ eZ=>aC φ (List.mem_append_left _ eZ)) (ih fun φ eZ=>aC φ (List.mem_append_right _ eZ))⟩
 | [],_::_,K,h=>h.elim
 | _::_,[],K,h=>h.elim
end
def BP (l:List Prop) (t:aV):aV:=match l with
 | []=>t
 | l=> .p (p8 l) t
theorem JP: ∀{l:List Prop},p8 l→ ∀φ∈l,φ
 | [],_,φ,h=>by cases h
 | [a],hc,φ,h=>by rw[List.mem_singleton.1 h];exact hc
 | a::b::r,hc,φ,h=>by
  have hc:a∧p8 (b::r):=hc
  rcases List.mem_cons.1 h with rfl | h
  ·exact hc.1
  ·exact JP hc.2 φ h
theorem N1 {l:List Prop} {t:aV} {R:Exit→TS→Prop} (h:(BP l t).den R):(∀φ∈l,φ)∧t.den R:=by
 unfold BP at h
 split at h
 ·exact⟨(fun φ h=>by cases h),h⟩
 ·exact⟨JP h.1,h.2⟩
def AI {P:Program}:List (eg P)→FuncId→(eg P→aV)→aV
 | [],_,_=> .no
 | c::r,f,K=>match Nat.beq c.f f with
  | true=>K c
  | false=>AI r f K
def wP:TV→Bool
 | .tup _=>false
 | .o a=>eQ a
 | _=>true
theorem BK {v:TV} (h:wP v=true):eQ v.bE=true:=by cases v<;>first | rfl | exact h | cases h
def GO {P:Program} (c:eg P) (x:cX c.ps):List Prop:=match c.pre with
 | none=>[]
 | some p=>[p x]
def C9 {P:Program} (pP:List (eg P)) (f:FuncId) (args:List TV) (s:TS) (K:TV→aV):aV:=match args.all wP with
 | false=> .no
 | true=>AI pP f fun c=>Dh s c.ps args fun x o=>BP (o++GO c x) (K (Ce c.rs (c.fn x)))
theorem Kv {P:Program} {f:FuncId} {K:eg P→aV} {R:Exit→TS→Prop}: ∀{pP:List (eg P)},(AI pP f K).den R→ ∃c,c.f=f∧(K c).den R
 | [],h=>h.elim
 | c::r,h=>by
  unfold AI at h
  split at h
  ·rename_i hf;exact⟨c,Nat.eq_of_beq_eq_true hf,h⟩
  ·exact Kv h
theorem To [FZ] {P:Program} {pP:List (eg P)} {f:FuncId} {args:List TV} {s:TS} {K:TV→aV} {R:Exit→TS→Prop} {n:Nat} {Kp:AV→Prop} (aP:Fits s) (hK: ∀v,(K v).den R→Kp v.bE) (h:(C9 pP f args s K).den R):
  ox P f (cJ args) (s.aJ n).L (s.aJ n).H Kp:=by
 unfold C9 at h
 split at h
 ·exact h.elim
 ·rename_i aH
  obtain⟨c,rfl,h1⟩:=Kv h
  obtain⟨x,o,h2,k⟩:=JQ aP (n:=n) h1
  obtain⟨aC,aN⟩:=N1 h2
  refine⟨?_,_,_,k fun φ eZ=>aC φ (List.mem_append_left _ eZ),c.ok x ?_,?_⟩
  ·rw[List.all_eq_true] at aH ⊢
   intro a a3
   rw[nJ] at a3
   obtain⟨v,hv,rfl⟩:=List.mem_map.1 a3
   exact BK (aH v hv)
  ·have aI: ∀φ∈GO c x,φ:=fun φ eZ=>aC φ (List.mem_append_right _ eZ)
   unfold GO at aI
   revert aI
   cases c.pre with
   | none=>intro _;trivial
   | some p=>intro aI;exact aI _ (List.mem_singleton.2 rfl)
  ·rw[←Hb];exact hK _ aN
inductive zU:Type 1 where
 | no
 | v (x:TV)
 | c (φ:Prop) (x:TV)
 | lL (φ ψ:Prop) (x:TV)
def ru (F:List Blk→(AV→Prop)→Prop) (K:TV→aV):zU→aV
 | .no=> .no
 | .v x=> .eq F (fun _ Q=>Q x.bE) (pb x K)
 | .c φ x=> .eq F (fun _ Q=>φ∧Q x.bE) (.p φ (pb x K))
 | .lL φ ψ x=> .eq F (fun _ Q=>φ∧ψ∧Q x.bE) (.p (φ∧ψ) (pb x K))
theorem sq {F:List Blk→(AV→Prop)→Prop} (H:List Blk) {K:TV→aV} {g:zU} {R:Exit→TS→Prop} {Kp:AV→Prop} (hK: ∀v,(K v).den R→Kp v.bE) (h:(ru F K g).den R):F H Kp:=by
 cases g with
 | no=>exact h.elim
 | v x=>obtain⟨e,h⟩:=h;rw[qc] at h;rw[e];exact hK _ h
 | c φ x=>obtain⟨e,h1,h⟩:=h;rw[qc] at h;rw[e];exact⟨h1,hK _ h⟩
 | lL φ ψ x=>obtain⟨e,h1,h⟩:=h;rw[qc] at h;rw[e];exact⟨h1.1,h1.2,hK _ h⟩
def p7:TV→List TV
 | .agg c=>c
 | v=>[v]
def u6 (P:Program) (t:TypeId) (cells:List TV) (c:Nat):TV:=match wD P t with
 | true=> .agg ((cells.drop c).take (P.cellsOf t))
 | false=>cells.getD c .u
def Vs (op:BinOp) (x y:TV):zU:=match x with
 | .i k a=>(match y with
  | .i _ b=>(match op with
   | .add=> .v (.i k (k.wrap (a+b)))
   | .sub=> .v (.i k (k.wrap (a - b)))
   | .mul=> .v (.i k (k.wrap (a*b)))
   | .quo=> .c (b≠0) (.i k (k.wrap (a.tdiv b)))
   | .rem=> .c (b≠0) (.i k (a.tmod b))
   | .and=> .v (.i k (k.wrap (BitVec.ofInt k.bits a&&&BitVec.ofInt k.bits b).toNat))
   | .shl=> .c (0≤b) (.i k (k.wrap (a*2 ^ (min b.toNat k.bits))))
   | .shr=> .c (0≤b) (.i k (a.fdiv (2 ^ (min b.toNat k.bits))))
   | .eql=> .v (.b (.v (a==b)))
   | .neq=> .v (.b (.v (a !=b)))
   | .lss=> .v (.b (.v (decide (a<b))))
   | .leq=> .v (.b (.v (decide (a≤b))))
   | .gtr=> .v (.b (.v (decide (a>b))))
   | .geq=> .v (.b (.v (decide (a ≥ b))))
   | _=> .no)
  | _=> .no)
 | .b p=>(match y with
  | .b q=>(match op with
   | .eql=> .v (.b (.v (p.den==q.den)))
   | .neq=> .v (.b (.v (p.den !=q.den)))
   | _=> .no)
  | _=> .no)
 | .s p=>(match y with
  | .s q=>(match op with
   | .add=> .c (p.size+q.size≤9223372036854775807) (.s (p++q))
   | .eql=> .v (.b (.v (p.toList==q.toList)))
   | .neq=> .v (.b (.v (!(p.toList==q.toList))))
   | _=> .no)
  | _=> .no)
 | .agg l=>(match y with
  | .agg m=>(match l,m with
   | [.i _ a,.i _ b],[.i _ c,.i _ d]=>(match op with
    | .eql=> .v (.b (.v (a==c&&b==d)))
    | .neq=> .v (.b (.v (!(a==c&&b==d))))
    | _=> .no)
   | _,_=> .no)
  | _=> .no)
 | _=> .no
def zQ (P:Program) (t:TypeId):List TV:=match(P.info? t).bind (·.zero) with
 | some z=>z.cells.toList.map Al
 | none=>[]
def Ko (pl:List (Nat×Nat)) (cells:List TV):List (Nat×TV)→List TV
 | []=>cells
 | (i,v)::r=>match pl[i]? with
  | some p=>Ko pl (cells.take p.1++p7 v++cells.drop (p.1+(p7 v).length)) r
  | none=>cells
def Vk (e:bI) (v:TV):e.T:=match e.isS with
 | true=>e.mk (oA e.kF (p7 v))
 | false=>Ed e v
def Ve:TV→Bool
 | .l _ _ _ fr=>fr
 | .nil _ fr=>fr
 | .agg c=>c.all fun v=>match v with
  | .l _ _ _ fr=>fr
  | .nil _ fr=>fr
  | _=>true
 | _=>true
def Ny (e:bI) (xs:List e.T) (l:List TV):TV:=match l with
 | []=> .nil true true
 | l=> .l e xs true (l.all Ve)
def Bz (s:TS) (e:bI):List TV→(List e.T→aV)→aV
 | [],K=>K []
 | v::r,K=>conv s e v fun x _=>Bz s e r fun xs=>K (x::xs)
theorem Gg [FZ] {n:Nat} {s:TS} {e:bI} {R:Exit→TS→Prop} (aP:Fits s): ∀{l:List TV} {K:List e.T→aV},(Bz s e l K).den R→ ∃xs,(K xs).den R
 | [],K,h=>⟨_,h⟩
 | v::r,K,h=>by
  obtain⟨x,o,h,_⟩:=Di aP (n:=n) (show(conv s e v _).den R from h)
  obtain⟨xs,h⟩:=Gg (n:=n) aP h
  exact⟨_,h⟩
def wF:List (Nat×bI)→Nat→(bI→aV)→aV
 | [],_,_=> .no
 | (k,e)::r,t,K=>match Nat.beq k t with
  | true=>K e
  | false=>wF r t K
structure g8 (P:Program) where
 n:Nat
 xZ:List (Nat×bI)
 pP:List (eg P)
section
variable {P:Program} (cf:g8 P) (s:TS)
def gs (P:Program) (n:Nat) (s:TS) (op:Op):zU:=match op with
 | .nilCheck x=> .v (cF n s x)
 | .load t a=>(match cF n s a with
  | .lp v c=>(match kH s.vs v with
   | some m=> .v (u6 P t (hL s v 0 m) c)
   | none=> .no)
  | .dr e x c=> .v (u6 P t (gA false e x) c)
  | _=> .no)
 | .fieldAddr t x f=>(match AD P t f with
  | some fd=>(match cF n s x with
   | .lp v c=> .v (.lp v (c+fd.offset))
   | .dr e x c=> .v (.dr e x (c+fd.offset))
   | .ptr b g i m c=> .v (.ptr b g i m (c+fd.offset))
   | _=> .no)
  | none=> .no)
 | .unOp op _ x=>(match cF n s x with
  | .b z=>(match op with
   | .not=> .v (.b z.not)
   | _=> .no)
  | .i k m=>(match op with
   | .neg=> .v (.i k (k.wrap (0 - m)))
   | _=> .no)
  | _=> .no)
 | .convert _ d x=>(match cF n s x with
  | .i _ m=>(match wC P d with
   | some k=> .v (.i k (k.wrap m))
   | none=> .no)
  | _=> .no)
 | .binOp op _ x y _=>Vs op (cF n s x) (cF n s y)
 | .build t ps=>(match GH P t with
  | some pl=> .v (.agg (Ko pl (zQ P t) (ps.toList.map fun p=>(p.1,cF n s p.2))))
  | none=> .no)
 | .index _ x i=>(match cF n s x with
  | .s z=>(match cF n s i with
   | .i _ m=> .lL (0≤m) (m<z.size) (.i .u8 (z.data.getD m.toNat 0).toNat)
   | _=> .no)
  | _=> .no)
 | .extract x i=>(match cF n s x with
  | .tup l=> .v (l.getD i .u)
  | _=> .no)
 | .makeFunc fn _ caps=>(match fn with
  | .func f=> .v (.fn f (caps.toList.map (cF n s)))
  | _=> .no)
 | _=> .no
def sG (P:Program) (t:TypeId):Option Nat:=match jf P t with
 | some e=>(match(P.info? e).isSome with
  | true=>some (P.cellsOf e)
  | false=>none)
 | none=>none
theorem wz {P:Program} {t:TypeId} {m:Nat} (h:sG P t=some m): ∃e,jf P t=some e∧(P.info? e).isSome=true∧P.cellsOf e=m:=by
 unfold sG at h
 split at h
 ·rename_i e he
  split at h
  ·rename_i hi;exact⟨e,he,hi,Option.some.inj h⟩
  ·cases h
 ·cases h
def rc (s:TS) (b g:Nat) (K:(e:bI)→(xs:List e.T)→(m:Nat)→xs.length=m→aV):aV:=match Nat.blt b s.bp with
 | true=>(match s.get (bD b) with
  | .blk dB e xs m h=> .eq dB g (K e xs m h)
  | _=> .no)
 | false=> .no
theorem vu [FZ] {n:Nat} {s:TS} {b g:Nat} {K:(e:bI)→(xs:List e.T)→(m:Nat)→xs.length=m→aV} {R:Exit→TS→Prop} (h:(rc s b g K).den R):
  ∃e xs m hm,(K e xs m hm).den R∧b<s.bp∧(s.aJ n).H[b]?=some ⟨g,e.lX,xs.map (b6 true e)⟩:=by
 unfold rc at h
 split at h
 ·rename_i hb
  have hb:b<s.bp:=by rw[←Nat.blt_eq];exact hb
  split at h
  ·rename_i dB e xs m hm hg
   obtain⟨h1,h⟩:=h
   subst h1
   exact⟨e,xs,m,hm,h,hb,by rw[qV hb,hg];rfl⟩
  ·exact h.elim
 ·exact h.elim
def Ag (V:List ae) (ids:List Nat) (m:Nat) (i:Int):List TV:=[.i .i64 (nth V i).ar,.i .i64 (nth V i).af,.vU i ids m (nth V i).ac.length,.b (.v (nth V i).ao),.i .i64 (nth V i).ap]
theorem CF {ws:List ae} {ids:List Nat} {bs:List (List Bool)} {i:Int} (ok:j7 ws ids bs) (h:i.toNat<(view ws ids bs).length):nth (view ws ids bs) i={nth ws i with ac:=bs.getD (nth ids i) []}:=by
 have aL:=i_ ok
 have h1:=gO (xs:=ws) (i:=i) (by omega)
 have h2:=gO (xs:=ids) (i:=i) (by have:=ok.len;omega)
 have:=xu (bs:=bs) h1 h2
 rw[gO h] at this
 exact Option.some.inj this
theorem aaY [Z:FZ] {V:List ae} {ids:List Nat} {m:Nat} {i:Int} (G:gk Z.ws ids Z.bs) (e:view Z.ws ids Z.bs=V) (h:i.toNat<V.length):(a0 m Z.ws ids)[i.toNat]?=some (cJ (Ag V ids m i)):=by
 subst e
 have aL:=i_ G.ok
 have Ln:=G.ok.len
 rw[dF Ln (by omega)]
 have hb:=G.ok.ac i.toNat _ _ (gO (xs:=Z.ws) (i:=i) (by omega)) (gO (xs:=ids) (i:=i) (by omega))
 unfold Ag
 rw[CF G.ok h]
 show some (ka m (nth Z.ws i) (nth ids i))=some _
 unfold ka
 rw[hb];rfl
def E9 (P:Program) (t:TypeId) (b g m:Nat) (i:Int) (s:TS) (v:TV) (K:TV→aV):aV:=match v with
 | .kr dB _ _=>(match Nat.blt b s.bp with
  | true=> .eq dB g (.eq (sG P t) (some 5) (.p (0≤i∧i.toNat<m) (K (.ptr b g i m 0))))
  | false=> .no)
 | _=>rc s b g fun e _ _ _=> .eq (sG P t) (some e.lX) (.p (0≤i∧i.toNat<m) (K (.ptr b g i m 0)))
def E_ (P:Program) (t:TypeId) (w:Int) (ids:List Nat) (m k:Nat) (i:Int) (s:TS) (K:TV→aV):aV:=match s.get dC with
 | .gX V c9 _ _=> .eq c9 ids (.eq m s.bp (.eq (sG P t) (some 1) (.p (w.toNat<V.length∧0≤i∧i.toNat<k) (K (.vT w ids m i)))))
 | _=> .no
def Fa (P:Program) (t:TypeId) (x i:TV) (s:TS) (K:TV→aV):aV:=match i with
 | .i _ i=>(match x with
  | .l e xs _ _=> .eq (sG P t) (some e.lX) (.p (0≤i∧i.toNat<xs.length) (K (.dr e (sP e xs i) 0)))
  | .ref b g m _=>E9 P t b g m i s (s.get (bD b)) K
  | .vU w ids m k=>E_ P t w ids m k i s K
  | _=> .no)
 | _=> .no
def Ga (P:Program) (t:TypeId) (w:Int) (ids:List Nat) (m:Nat) (j:Int) (s:TS) (K:TV→aV):aV:=match s.get dC with
 | .gX V c9 _ _=> .eq c9 ids (.eq m s.bp (.p (w.toNat<V.length∧j.toNat<(nth V w).ac.length) (ru (fun _ Q=>js P t [AV.bool (nth (nth V w).ac j)] 0 Q) K (.v (u6 P t [.b (.v (nth (nth V w).ac j))] 0)))))
 | _=> .no
def Gb (P:Program) (t:TypeId) (b g:Nat) (i:Int) (m c:Nat) (s:TS) (K:TV→aV):aV:=match s.get (bD b) with
 | .kr dB hF ids=>(match Nat.blt b s.bp with
  | true=>(match s.get dC with
   | .gX V c9 _ _=> .eq dB g (.eq c9 ids (.p (i.toNat<V.length) (ru (fun _ Q=>js P t (cJ (Ag V ids hF i)) c Q) K (.v (u6 P t (Ag V ids hF i) c)))))
   | _=> .no)
  | false=> .no)
 | .et dB a7=>(match Nat.blt b s.bp with
  | true=> .eq dB g (.eq i 0 (ru (fun _ Q=>js P t (cJ a7) c Q) K (.v (u6 P t a7 c))))
  | false=> .no)
 | _=>rc s b g fun e xs fq _=> .eq fq m (.p (i.toNat<m) (ru (fun _ Q=>js P t (b6 true e (sP e xs i)) c Q) K (.v (u6 P t (gA true e (sP e xs i)) c))))
def Ht (P:Program) (t:TypeId) (x:TV) (lo hi:Option TV) (K:TV→aV):aV:=match x with
 | .l e xs _ fr=>(match lo with
  | none=>(match hi with
   | some (.i _ b)=> .eq (sG P t) (some e.lX) (.p (0≤b∧b≤(xs.length:Int)) (K (.l e (xs.take b.toNat) false fr)))
   | _=> .no)
  | some (.i _ a)=>(match hi with
   | none=> .eq (sG P t) (some e.lX) (.p (0≤a∧a≤(xs.length:Int)) (K (.l e (xs.drop a.toNat) false fr)))
   | _=> .no)
  | _=> .no)
 | _=> .no
def Gc (P:Program) (t:TypeId) (x:TV) (K:TV→aV):aV:=match x with
 | .l _ xs _ _=> .eq (jW P t x.bE) true (K (.i .i64 xs.length))
 | .nil _ _=> .eq (jW P t x.bE) true (K (.i .i64 (0:Nat)))
 | .s z=> .eq (jW P t x.bE) true (K (.i .i64 z.size))
 | .ref _ _ m _=> .eq (jW P t x.bE) true (K (.i .i64 m))
 | .vU _ _ _ k=> .eq (jW P t x.bE) true (K (.i .i64 k))
 | _=> .no
def r0 (o:Oper) (K:TV→aV):aV:=match o.op with
 | .move x=>pb (cF cf.n s x) K
 | .assign x=>pb (cF cf.n s x) K
 | .indexAddr t x i=>Fa P t (cF cf.n s x) (cF cf.n s i) s K
 | .load t a=>(match cF cf.n s a with
  | .ptr b g i m c=>Gb P t b g i m c s K
  | .vT w ids m j=>Ga P t w ids m j s K
  | _=>ru (fun H Q=>jQ P o (fun x=>(cF cf.n s x).bE) s.cn H Q) K (gs P cf.n s o.op))
 | .slice t x lo hi mx=>(match mx with
  | none=>Ht P t (cF cf.n s x) (lo.map (cF cf.n s)) (hi.map (cF cf.n s)) K
  | some _=> .no)
 | .call c=>(match c.callee with
  | .builtin b=>(match b with
   | .len=>(match c.args.toList,c.argTypes.toList with
    | [x],[t]=>Gc P t (cF cf.n s x) K
    | _,_=> .no)
   | _=> .no)
  | .value f=>(match cF cf.n s f with
   | .fn g caps=>C9 cf.pP g (c.args.toList.map (cF cf.n s)++caps) s K
   | _=> .no)
  | _=> .no)
 | .buildSlice t m ps=>wF cf.xZ t fun e=>Bz s e (ps.toList.map fun p=>cF cf.n s p.2) fun xs=>ru (fun H Q=>jQ P o (fun x=>(cF cf.n s x).bE) s.cn H Q) K (.v (Ny e xs (ps.toList.map fun p=>cF cf.n s p.2)))
 | op=>ru (fun H Q=>jQ P o (fun x=>(cF cf.n s x).bE) s.cn H Q) K (gs P cf.n s op)
end
theorem Gu {e:bI} {xs:List e.T} {i:Int} (h:i.toNat<xs.length) (fr:Bool):(xs.map (b6 fr e))[i.toNat]?=some (b6 fr e (sP e xs i)):=by
 rw[List.getElem?_map]
 have:xs[i.toNat]?=some (sP e xs i):=by
  have:= @gO e.T e.um xs i h
  exact this
 rw[this];rfl
section
variable {P:Program} {cf:g8 P} {s:TS} {R:Exit→TS→Prop} {K:TV→aV} {Kp:AV→Prop}
theorem abo {t:TypeId} {x:TV} {lo hi:Option TV} {H:List Blk} (hK: ∀v,(K v).den R→Kp v.bE) (h:(Ht P t x lo hi K).den R):uX P t x.bE (lo.map TV.bE) (hi.map TV.bE) H Kp:=by
 unfold Ht at h
 split at h
 ·rename_i e xs en fr
  have eL: ∀{m:Nat},m=e.lX→ ∀(i:Nat) (row:List AV),(List.map (b6 false e) xs)[i]?=some row→row.length=m:=fun hm i row aK=>by
   rw[List.getElem?_map] at aK
   cases hx:xs[i]? with
   | none=>rw[hx] at aK;cases aK
   | some x=>rw[hx] at aK;cases aK;rw[rh,hm]
  split at h
  ·split at h
   ·rename_i k b
    obtain⟨h1,h2,h⟩:=h
    obtain⟨nA,q1,q2,q3⟩:=wz h1
    refine ed q1 ?_
    rw[if_pos q2]
    refine⟨h2.1,Nat.zero_le _,by rw[List.length_map];omega,eL q3,?_⟩
    rw[List.drop_zero,Nat.sub_zero,←List.map_take];exact hK _ h
   ·exact h.elim
  ·split at h
   ·rename_i k a
    obtain⟨h1,h2,h⟩:=h
    obtain⟨nA,q1,q2,q3⟩:=wz h1
    refine ed q1 ?_
    rw[if_pos q2]
    refine⟨h2.1,by rw[List.length_map];omega,Nat.le_refl _,eL q3,?_⟩
    rw[List.take_of_length_le (by rw[List.length_drop];omega),←List.map_drop];exact hK _ h
   ·exact h.elim
  ·exact h.elim
 ·exact h.elim
end
section
variable {P:Program} {cf:g8 P} {s:TS} {R:Exit→TS→Prop} {K:TV→aV} {Kp:AV→Prop}
theorem Zp {t:TypeId} {x:TV} (hK: ∀v,(K v).den R→Kp v.bE) (h:(Gc P t x K).den R):eR (jW P t x.bE) (rP x.bE Kp):=by
 unfold Gc at h
 split at h
 ·obtain⟨h1,h⟩:=h
  rw[h1]
  show Kp (.int .i64 ((List.map _ _).length:Nat))
  rw[List.length_map];exact hK _ h
 ·obtain⟨h1,h⟩:=h;rw[h1];exact hK _ h
 ·obtain⟨h1,h⟩:=h;rw[h1];exact hK _ h
 ·obtain⟨h1,h⟩:=h;rw[h1];exact hK _ h
 ·obtain⟨h1,h⟩:=h;rw[h1];exact hK _ h
 ·exact h.elim
end
section
variable {P:Program} {cf:g8 P} {s:TS} {R:Exit→TS→Prop} {K:TV→aV} {Kp:AV→Prop}
theorem Gh {l:List (Nat×bI)} {t:Nat} {K:bI→aV} (h:(wF l t K).den R): ∃e,(K e).den R:=by
 induction l with
 | nil=>exact h.elim
 | cons p r bR=>
  obtain⟨k,e⟩:=p
  unfold wF at h
  split at h
  ·exact⟨e,h⟩
  ·exact bR h
end
section
variable [FZ] {P:Program} {cf:g8 P} {s:TS} {R:Exit→TS→Prop} {K:TV→aV} {Kp:AV→Prop}
variable (aP:Fits s)
theorem Xs {t:TypeId} {b g m:Nat} {i:Int} {k:IntKind} {en:Bool} (hK: ∀v,(K v).den R→Kp v.bE) (h:(E9 P t b g m i s (s.get (bD b)) K).den R):wy P t (.ref b g 0 m en) (.int k i) (s.aJ cf.n).H Kp:=by
 unfold E9 at h
 split at h
 ·rename_i dB hF ids hg
  split at h
  ·rename_i hb
   have hb:b<s.bp:=by rw[←Nat.blt_eq];exact hb
   obtain⟨h1,h2,aN,h⟩:=h
   subst h1
   obtain⟨nA,q1,q2,q3⟩:=wz h2
   refine ed q1 ?_
   rw[if_pos q2]
   refine ed (by rw[qV hb,hg]) ⟨rfl,q3.symm,aN.1,by have:=aN.2;omega,?_⟩
   rw[Nat.zero_add];exact hK _ h
  ·exact h.elim
 ·obtain⟨e,xs,fq,hm,h,hb,aR⟩:=vu (n:=cf.n) h
  obtain⟨h1,h2,h⟩:=h
  obtain⟨nA,q1,q2,q3⟩:=wz h1
  refine ed q1 ?_
  rw[if_pos q2]
  refine ed aR ⟨rfl,q3.symm,h2.1,by have:=h2.2;omega,?_⟩
  rw[Nat.zero_add];exact hK _ h
include aP in
theorem D3 {V:List ae} {ids:List Nat} {w:Int} {bT:Nat} {hv:V.length=bT} (hk:s.get dC= .gX V ids bT hv) (hw:w.toNat<V.length):(s.aJ cf.n).H[nth ids w+s.bp]?=some (bk (nth V w).ac):=by
 obtain⟨G,e,_⟩:=aP V ids _ _ hk
 have aL:=i_ G.ok
 rw[e] at aL
 have gL:=G.ok.lt w.toNat _ (gO (xs:=ids) (i:=w) (by have:=G.ok.len;omega))
 refine Kn hk ?_
 rw[sn gL,←e,CF G.ok (by rw[e];exact hw)]
include aP in
theorem Xu {t:TypeId} {w:Int} {ids:List Nat} {m c:Nat} {i:Int} {k:IntKind} (hK: ∀v,(K v).den R→Kp v.bE) (h:(E_ P t w ids m c i s K).den R):wy P t (.ref (nth ids w+m) 0 0 c false) (.int k i) (s.aJ cf.n).H Kp:=by
 unfold E_ at h
 split at h
 ·rename_i V c9 bT kA hk
  obtain⟨h1,h2,aN,be,h⟩:=h
  subst h1;subst h2
  obtain⟨nA,q1,q2,q3⟩:=wz aN
  refine ed q1 ?_
  rw[if_pos q2]
  refine ed (D3 aP hk be.1) ⟨rfl,q3.symm,be.2.1,by have:=be.2.2;omega,?_⟩
  rw[Nat.zero_add];exact hK _ h
 ·exact h.elim
include aP in
theorem Xx {t:TypeId} {x i:TV} (hK: ∀v,(K v).den R→Kp v.bE) (h:(Fa P t x i s K).den R):wy P t x.bE i.bE (s.aJ cf.n).H Kp:=by
 unfold Fa at h
 split at h
 ·split at h
  ·obtain⟨h1,h2,h⟩:=h
   obtain⟨nA,q1,q2,q3⟩:=wz h1
   refine ed q1 ?_
   rw[if_pos q2]
   exact⟨h2.1,ed (Gu h2.2 false) ⟨by rw[rh,q3],hK _ h⟩⟩
  ·exact Xs hK h
  ·exact Xu aP hK h
  ·exact h.elim
 ·exact h.elim
include aP in
theorem Zg {t:TypeId} {w:Int} {ids:List Nat} {m:Nat} {j:Int} (hK: ∀v,(K v).den R→Kp v.bE) (h:(Ga P t w ids m j s K).den R):oI P t (.ptr (nth ids w+m) 0 j.toNat 0) (s.aJ cf.n).L (s.aJ cf.n).H Kp:=by
 unfold Ga at h
 split at h
 ·rename_i V c9 bT kA hk
  obtain⟨h1,h2,aN,h⟩:=h
  subst h1;subst h2
  exact ed (D3 aP hk aN.1) ⟨rfl,ed (xT aN.2) (sq [] hK h)⟩
 ·exact h.elim
include aP in
theorem Zh {t:TypeId} {b g m c:Nat} {i:Int} (hK: ∀v,(K v).den R→Kp v.bE) (h:(Gb P t b g i m c s K).den R):oI P t (.ptr b g i.toNat c) (s.aJ cf.n).L (s.aJ cf.n).H Kp:=by
 unfold Gb at h
 split at h
 ·rename_i dB hF ids hg
  split at h
  ·rename_i hb
   have hb:b<s.bp:=by rw[←Nat.blt_eq];exact hb
   split at h
   ·rename_i V c9 bT kA hk
    obtain⟨h1,h2,aN,h⟩:=h
    subst h1;subst h2
    obtain⟨G,e,_⟩:=aP V c9 _ _ hk
    exact ed (by rw[qV hb,hg]) ⟨rfl,ed (aaY G e aN) (sq [] hK h)⟩
   ·exact h.elim
  ·exact h.elim
 ·rename_i dB a7 hg
  split at h
  ·rename_i hb
   have hb:b<s.bp:=by rw[←Nat.blt_eq];exact hb
   obtain⟨h1,h2,h⟩:=h
   subst h1;subst h2
   exact ed (by rw[qV hb,hg]) ⟨rfl,ed (a:=cJ a7) rfl (sq [] hK h)⟩
  ·exact h.elim
 ·obtain⟨e,xs,fq,hm,h,hb,aR⟩:=vu (n:=cf.n) h
  obtain⟨h1,h2,h⟩:=h
  refine ed aR ⟨rfl,ed (Gu (by omega) true) ?_⟩
  exact sq [] hK h
include aP in
theorem OO {o:Oper} (hK: ∀v,(K v).den R→Kp v.bE) (h:(r0 cf s o K).den R):jQ P o (cm (s.aJ cf.n).T) (s.aJ cf.n).L (s.aJ cf.n).H Kp:=by
 rw[k0]
 obtain⟨dst,op,ty,pos,after,guard⟩:=o
 unfold r0 at h
 split at h
 ·rename_i x fL;cases fL;rw[qc] at h;exact hK _ h
 ·rename_i x fL;cases fL;rw[qc] at h;exact hK _ h
 ·rename_i t x i fL;cases fL;exact Xx aP hK h
 ·rename_i t a fL
  cases fL
  split at h
  ·rename_i b g i m c a3
   show oI P t (cF cf.n s a).bE _ _ Kp
   rw[a3];exact Zh aP hK h
  ·rename_i w ids m j a3
   show oI P t (cF cf.n s a).bE _ _ Kp
   rw[a3];exact Zg aP hK h
  ·exact sq (F:=fun H Q=>jQ P _ _ _ H Q) _ hK h
 ·rename_i t x lo hi mx fL
  cases fL
  split at h
  ·have:=abo (H:=(s.aJ cf.n).H) hK h
   show uX P t _ (lo.map _) (hi.map _) _ Kp
   rw[Option.map_map,Option.map_map] at this
   exact this
  ·exact h.elim
 ·rename_i c fL
  cases fL
  obtain⟨callee,args,argTypes⟩:=c
  split at h
  ·rename_i b hb
   cases hb
   split at h
   ·show(match args.toList,argTypes.toList with
     | [x],[t]=>eR (jW P t ((fun x=>(cF cf.n s x).bE) x)) (rP ((fun x=>(cF cf.n s x).bE) x) Kp)
     | _,_=>False)
    split at h
    ·rename_i x t h1 h2
     simp only at h1 h2
     simp only[h1,h2];exact Zp hK h
    ·exact h.elim
   ·exact h.elim
  ·rename_i f hf
   cases hf
   show lM (cF cf.n s f).bE fun g caps=>ox P g (args.toList.map (fun x=>(cF cf.n s x).bE)++caps) _ _ Kp
   split at h
   ·rename_i g caps hc
    rw[hc]
    have:=To (n:=cf.n) aP hK h
    rw[nJ,List.map_append,List.map_map] at this
    show ox P g (_++cJ caps) _ _ Kp
    rw[nJ];exact this
   ·exact h.elim
  ·exact h.elim
 ·rename_i t m ps fL
  cases fL
  obtain⟨e,h⟩:=Gh h
  obtain⟨xs,h⟩:=Gg (n:=cf.n) aP h
  exact sq (F:=fun H Q=>jQ P _ _ _ H Q) _ hK h
 ·exact sq (F:=fun H Q=>jQ P _ _ _ H Q) _ hK h
end
theorem fw {n:Int} (h1: -9223372036854775808≤n) (h2:n≤9223372036854775807):IntKind.i64.wrap n=n:=by
 rw[IntKind.wrap_i64];omega
def b0 (x a b:Int):Bool:=decide (a≤x)&&decide (x≤b)
theorem iQ {x a b:Int}:b0 x a b=true↔a≤x∧x≤b:=by simp[b0]
theorem gE {α:Type} [Inhabited α] {xs:List α} {i:Int} (h:i.toNat<xs.length):nth xs i=xs[i.toNat]:=by
 have:=gO h
 rw[List.getElem?_eq_getElem h] at this
 exact(Option.some.inj this).symm
theorem du {α:Type} [Inhabited α] {xs:List α} {i:Int} (h:i.toNat<xs.length):nth xs i∈xs:=by rw[gE h];exact List.getElem_mem h
theorem iT {α:Type} [Inhabited α] {xs:List α} {i:Nat} (h:i<xs.length):nth xs (i:Int)=xs[i]:=by rw[gE (by simpa using h)];simp
def first {α:Type} (xs:List α) (p:α→Bool):Option Nat:=xs.findIdx? p
theorem Uy {α:Type} {xs:List α} {p:α→Bool} (h: ∀x∈xs,p x=false):first xs p=none:=by
 unfold first;rw[List.findIdx?_eq_none_iff];exact h
theorem Uz {α:Type} [Inhabited α] {xs:List α} {p:α→Bool} {i:Int} (h: ∀x∈xs.take i.toNat,p x=false) (hi:i.toNat<xs.length) (aI:p (nth xs i)=true):first xs p=some i.toNat:=by
 unfold first
 rw[List.findIdx?_eq_some_iff_getElem]
 refine⟨hi,by rw[←gE hi];exact aI,fun j aM=> ?_⟩
 have:=h xs[j] (by rw[List.mem_take_iff_getElem];exact⟨j,by omega,rfl⟩)
 simp[this]
def BN (o:Option Nat):Int:=match o with
 | some i=>i
 | none=> -1
def nm (xs:List Int) (v:Int):Int:=BN (first xs (fun x=>v==x))
def fJ (xs:List Int) (v:Int):Bool:=xs.contains v
def rK (xs:List Bool) (v:Bool):Int:=BN (first xs (fun x=>v==x))
def jR (xs:List Bool) (v:Bool):Bool:=xs.contains v
def aa {α:Type} (x:α):α:=x
def meets (a b:List Int):Bool:=a.any fun x=>b.contains x
def dup (l:List Int):Bool:= !decide l.Nodup
def bz (w:Way):List ct:=w.a2++w.bA
def hn (l:List Int) (n:Int):Bool:=decide (l.length≤30)&&l.all (fun x=>b0 x 0 (n - 1))&&decide l.Nodup
def lm (p:aA) (l:List ct):Bool:=decide (l.length≤30)&&l.all (fun x=>b0 x.sw 0 (p.bd.length - 1)&&b0 x.bn 1 2)&&decide (l.map (·.sw)).Nodup
def gT (p:aA) (w:Way):Bool:=
 decide (w.ah≠[])&&hn w.ah p.ah&&hn w.cG p.ah&&hn w.cD p.ah&&lm p w.a2&&lm p w.bA&&
 decide ((bz w).map (·.sw)).Nodup&&w.a2.all (fun x=>w.ah.contains (nth p.bd x.sw))&& !meets w.ah w.cG
def rb (p:aA) (i k:Nat):Bool:=nth (nth p.bU i) k
def nK (p:aA) (i k:Nat):Bool:=(rb p i k !=rb p k i) || (decide (i≠k)&& !rb p i k&&meets (nth p.O i).ah (nth p.O k).ah)
def oO (p:aA):ja:=if p.bU.length=p.O.length then
  match first p.bU (fun b=>decide (b.length≠p.O.length)) with
  | some k=>⟨4,k⟩
  | none=>match first (List.range p.O.length) (fun i=>(List.range p.O.length).any fun k=>nK p i k) with
   | some k=>⟨5,k⟩
   | none=>⟨0,0⟩
 else⟨4,0⟩
def w0 (p:aA):ja:=match first p.O (fun w=> !gT p w) with
 | some k=>⟨3,k⟩
 | none=>oO p
def wZ (p:aA):ja:=match first p.bd (fun s=> !b0 s 0 (p.ah - 1)) with
 | some k=>⟨2,k⟩
 | none=>w0 p
def hG (p:aA):ja:=if b0 p.ah 1 60&&b0 p.dl 1 300&&decide (p.bd.length≤40)&&decide (p.O.length≤100) then wZ p else⟨1,0⟩
def dQ (p:aA):Bool:=decide (hG p=⟨0,0⟩)
def eU (p:aA) (e:Event):Bool:=
 if e.op=1∨e.op=2 then b0 e.ai 0 (p.O.length - 1)&&decide (e.bn=0)
 else if e.op=3∨e.op=4 then b0 e.ai 0 (p.ah - 1)&&decide (e.bn=0)
 else if e.op=5 then b0 e.ai 0 (p.bd.length - 1)&&b0 e.bn 0 2
 else if e.op=6 then b0 e.ai 0 (p.bd.length - 1)&&b0 e.bn 1 2
 else if e.op=7 then decide (e.ai=0)&&decide (e.bn=0)
 else false
def small {α:Type} (a:List α):Prop:=a.length≤1048576
def eqv {α:Type} [DecidableEq α] (a b:α):Bool:=decide (a=b)
def q8 {α:Type} (a:α):Bool:=true
def y7 (l:List Int) (n:Int):Prop:= -9223372036854775808<n∧n≤9223372036854775807
def GP (p:aA) (w:Way):Prop:= -9223372036854775808<p.ah∧p.ah≤9223372036854775807
def Om (p:aA) (e:Event):Prop:= -9223372036854775808<p.ah∧p.ah≤9223372036854775807
def w1 (w:Way):Prop:=w.a2.length≤1048576∧w.bA.length≤1048576
def cr (N:Int) (p:Int→Bool) (v:Int):Prop:=0≤v∧v≤N∧ ∀j:Int,0≤j→j<v→p j=false
def cA (N:Int) (v:Int):Nat:=(N - v).toNat
theorem c7 {N:Int} {p:Int→Bool} (h:0≤N):cr N p 0:=⟨Int.le_refl _,h,fun j aT h1=>by omega⟩
theorem jL {N v:Int} (aH:N≤4611686018427387904) (aT:0≤v) (hv:v<N):IntKind.i64.wrap (v+1)=v+1:=fw (by omega) (by omega)
theorem cI {N v:Int} {p:Int→Bool} (aH:N≤4611686018427387904) (h:cr N p v) (hv:decide (v<N)=true) (aI:p v=false):cr N p (IntKind.i64.wrap (v+1))∧cA N (IntKind.i64.wrap (v+1))<cA N v:=by
 obtain⟨aT,h1,h2⟩:=h
 have hv:v<N:=by simpa using hv
 rw[jL aH aT hv]
 refine⟨⟨by omega,by omega,fun j cl e5=> ?_⟩,by unfold cA;omega⟩
 rcases Int.lt_or_eq_of_le (show j≤v by omega) with aL | rfl
 ·exact h2 j cl aL
 ·exact aI
theorem gH {N v:Int} {p:Int→Bool} (h:cr N p v) (hv:decide (v<N)=false): ∀j:Int,0≤j→j<N→p j=false:=by
 obtain⟨aT,h1,h2⟩:=h
 have hv: ¬v<N:=by simpa using hv
 exact fun j cl e5=>h2 j cl (by omega)
theorem ca {α:Type} {xs:List α} {v:Int} {p:Int→Bool} (h:cr xs.length p v) (hv:decide (v<(xs.length:Int))=true):0≤v∧v.toNat<xs.length:=by
 have hv:v<(xs.length:Int):=by simpa using hv
 exact⟨h.1,by have:=h.1;omega⟩
theorem cv {α:Type} {xs:List α} (h:xs.length≤4611686018427387904):(xs.length:Int)≤4611686018427387904:=by omega
theorem dh {α:Type} (xs:List α):0≤(xs.length:Int):=by omega
theorem l6 {α:Type} [Inhabited α] {xs:List α} {q:α→Bool} (h: ∀j:Int,0≤j→j<xs.length→q (nth xs j)=false): ∀x∈xs,q x=false:=fun x hx=>by
 obtain⟨i,hi,rfl⟩:=List.mem_iff_getElem.1 hx
 have:=h i (by omega) (by omega)
 rwa [iT hi] at this
theorem pR {α:Type} [Inhabited α] {xs:List α} {q:α→Bool} {v:Int} (h:cr xs.length (fun j=>q (nth xs j)) v) (hv:decide (v<(xs.length:Int))=true) (aI:q (nth xs v)=true):first xs q=some v.toNat:=by
 have hi:=ca h hv
 refine Uz (fun x hx=> ?_) hi.2 aI
 obtain⟨i,fU,rfl⟩:=List.mem_take_iff_getElem.1 hx
 have:q (nth xs (i:Int))=false:=h.2.2 i (by omega) (by omega)
 rwa [iT (by omega)] at this
theorem pS {α:Type} [Inhabited α] {xs:List α} {q:α→Bool} {v:Int} (h:cr xs.length (fun j=>q (nth xs j)) v) (hv:decide (v<(xs.length:Int))=false):first xs q=none:=
 Uy (l6 (gH h hv))
theorem CE {α:Type} [Inhabited α] {xs:List α} {q:α→Bool} {v:Int} (h:cr xs.length (fun j=>q (nth xs j)) v) (hv:decide (v<(xs.length:Int))=true) (aI:q (nth xs v)=true):xs.any q=true:=by
 rw[List.any_eq_true];exact⟨_,du (ca h hv).2,aI⟩
theorem zJ {α:Type} [Inhabited α] {xs:List α} {q:α→Bool} {v:Int} (h:cr xs.length (fun j=>q (nth xs j)) v) (hv:decide (v<(xs.length:Int))=false):xs.any q=false:=by
 rw[List.any_eq_false]
 intro x hx
 rw[l6 (gH h hv) x hx];simp
theorem not_eq {b:Bool} (h:(!b)=true):b=false:=by simpa using h
theorem Hl {α:Type} [Inhabited α] {a b:List α} (aL:a.length=b.length) (h: ∀j:Int,0≤j→j<a.length→nth a j=nth b j):a=b:=by
 apply List.ext_getElem aL
 intro i h1 h2
 have:=h i (by omega) (by omega)
 rwa [iT h1,iT h2] at this
theorem DP {α:Type} [Inhabited α] [DecidableEq α] {a b:List α} {ne:Int→Bool} (ck: ∀v,ne v=true↔nth a v≠nth b v):
  ((a.length≤4611686018427387904)∧(b.length≤4611686018427387904)→((a.length:Int) !=(b.length:Int))=true→false=eqv a b)∧((a.length≤4611686018427387904)∧(b.length≤4611686018427387904)∧((!((a.length:Int) !=(b.length:Int)))=true)→
   cr a.length ne 0∧ ∀(v:Int),cr a.length ne v→(((decide (v<(a.length:Int)))=false→true=eqv a b)∧((decide (v<(a.length:Int)))=true→(((0≤v∧v.toNat<a.length)∧(0≤v∧v.toNat<b.length))∧((ne v)=true→false=eqv a b))∧
    ((!(ne v))=true→cr a.length ne (IntKind.i64.wrap (v+1))∧cA a.length (IntKind.i64.wrap (v+1))<cA a.length v)))):=by
 refine⟨fun _ h=> ?_,fun⟨h1,h2,aN⟩=> ?_⟩
 ·have:a≠b:=fun e=>by subst e;simp at h
  simp[eqv,this]
 ·have aL:a.length=b.length:=by have:(a.length:Int)=b.length:=by simpa using aN
                                omega
  refine⟨c7 (dh a),fun v aZ=>⟨fun hv=> ?_,fun hv=>⟨⟨⟨ca aZ hv,by rw[←aL];exact ca aZ hv⟩,fun aH=> ?_⟩,fun aH=>cI (cv h1) aZ hv (not_eq aH)⟩⟩⟩
  ·have:a=b:=Hl aL fun j cl e5=>by
    have ak:=gH aZ hv j cl e5
    by_cases he:nth a j=nth b j
    ·exact he
    ·rw[(ck j).2 he] at ak;cases ak
   simp[eqv,this]
  ·have:a≠b:=fun e=>(ck v).1 aH (by rw[e])
   simp[eqv,this]
theorem tN {xs:List Int} {x:Int}:fJ xs x=true↔x∈xs:=by unfold fJ;simp
theorem V5 {xs:List Int} {x k:Int} (hk:k.toNat<xs.length) (h:(x==nth xs k)=true):fJ xs x=true:=by
 rw[tN,show x=nth xs k by simpa using h];exact du hk
theorem V1 {xs:List Int} {x:Int} (h: ∀j:Int,0≤j→j<xs.length→(x==nth xs j)=false):fJ xs x=false:=by
 rw[←Bool.not_eq_true,tN]
 intro hm
 have:=l6 (q:=fun y=>x==y) h x hm
 simp at this
theorem Xv (xs:List Int) (x:Int):(decide (nm xs x ≥ 0))=fJ xs x:=by
 unfold nm
 cases h:first xs (fun y=>x==y) with
 | none=>
  unfold first at h
  rw[List.findIdx?_eq_none_iff] at h
  have:fJ xs x=false:=by
   rw[←Bool.not_eq_true,tN]
   intro hm
   have:=h x hm
   simp at this
  rw[this];rfl
 | some i=>
  unfold first at h
  rw[List.findIdx?_eq_some_iff_getElem] at h
  obtain⟨hi,aI,_⟩:=h
  have:fJ xs x=true:=by rw[tN,show x=xs[i] by simpa using aI];exact List.getElem_mem hi
  rw[this]
  show decide ((i:Int) ≥ 0)=true
  simp
theorem T3 {xs:List Int} {v:Int} (aT:0≤v) (hv:v.toNat<xs.length) (h:fJ (xs.take v.toNat) (nth xs v)=true):dup xs=true:=by
 rw[tN] at h
 unfold dup
 simp only[Bool.not_eq_true',decide_eq_false_iff_not]
 intro aH
 obtain⟨i,hi,he⟩:=List.mem_take_iff_getElem.1 h
 rw[gE hv] at he
 exact(List.pairwise_iff_getElem.1 aH) i v.toNat (by omega) hv (by omega) he
theorem J2 {xs:List Int} (h: ∀j:Int,0≤j→j<xs.length→fJ (xs.take j.toNat) (nth xs j)=false):dup xs=false:=by
 unfold dup
 simp only[Bool.not_eq_false',decide_eq_true_eq]
 unfold List.Nodup
 rw[List.pairwise_iff_getElem]
 intro i j hi aM bf he
 have:=h j (by omega) (by omega)
 rw[←Bool.not_eq_true,tN,iT aM] at this
 exact this (by rw[List.mem_take_iff_getElem];exact⟨i,by omega,he⟩)
theorem He (x n:Int):(decide (x<0) || decide (x ≥ n))= !b0 x 0 (n - 1):=by
 rw[Bool.eq_iff_iff]
 simp[b0]
 omega
theorem NM {α:Type} {l:List α} (k:Nat):decide ((l.length:Int)≤(k:Int))=decide (l.length≤k):=decide_eq_decide.2 (by omega)
theorem ZY {α:Type} [Inhabited α] {β:Type} [DecidableEq β] {l:List α} {f:α→β} (h: ∀i j:Int,0≤i→i<j→j<l.length→f (nth l i)≠f (nth l j)):(l.map f).Nodup:=by
 unfold List.Nodup
 rw[List.pairwise_iff_getElem]
 intro i j hi aM bf
 simp only[List.length_map] at hi aM
 rw[List.getElem_map,List.getElem_map]
 have:=h i j (by omega) (by omega) (by omega)
 rwa [iT hi,iT aM] at this
theorem NS {α:Type} [Inhabited α] {β:Type} [DecidableEq β] {l:List α} {f:α→β} {i j:Int} (aT:0≤i) (h1:i<j) (h2:j<l.length) (he:f (nth l i)=f (nth l j)): ¬(l.map f).Nodup:=by
 intro aH
 have:=(List.pairwise_iff_getElem.1 aH) i.toNat j.toNat (by simp;omega) (by simp;omega) (by omega)
 rw[List.getElem_map,List.getElem_map,←gE (by omega),←gE (by omega)] at this
 exact this he
theorem map_id' {α:Type} (l:List α):l.map (fun x=>x)=l:=by simp
theorem qz {l:List Int} {n:Int}:hn l n=true↔l.length≤30∧(∀x∈l,b0 x 0 (n - 1)=true)∧l.Nodup:=by
 unfold hn;simp[and_assoc]
theorem Zy {l:List Int} {n:Int} (h: ∀j:Int,0≤j→j<l.length→(!b0 (nth l j) 0 (n - 1) || fJ (l.take j.toNat) (nth l j))=false):hn l n=decide (l.length≤30):=by
 have h1: ∀x∈l,b0 x 0 (n - 1)=true:=fun x hx=>by
  have:=l6 (q:=fun x=> !b0 x 0 (n - 1)) (fun j cl e5=>(Bool.or_eq_false_iff.1 (h j cl e5)).1) x hx
  simpa using this
 have h2:dup l=false:=J2 fun j cl e5=>(Bool.or_eq_false_iff.1 (h j cl e5)).2
 have h2:l.Nodup:=by unfold dup at h2;simpa using h2
 rw[Bool.eq_iff_iff,qz]
 simp only[decide_eq_true_eq]
 exact⟨fun h=>h.1,fun h=>⟨h,h1,h2⟩⟩
theorem Nx {l:List Int} {n:Int} {v:Int} (hv:v.toNat<l.length) (h:(!b0 (nth l v) 0 (n - 1))=true):hn l n=false:=by
 rw[←Bool.not_eq_true,qz]
 intro bX
 have:=bX.2.1 _ (du hv)
 simp[this] at h
theorem Zx {l:List Int} {n:Int} {i j:Int} (aT:0≤i) (h1:i<j) (h2:j<l.length) (he:(nth l i==nth l j)=true):hn l n=false:=by
 rw[←Bool.not_eq_true,qz]
 intro bX
 have:=NS (f:=fun x=>x) aT h1 h2 (by simpa using he)
 rw[map_id'] at this
 exact this bX.2.2
theorem V4 {l:List Int} {v:Int} (aT:0≤v) (hv:v<l.length) (h: ∀j:Int,0≤j→j<v→(nth l j==nth l v)=false):fJ (l.take v.toNat) (nth l v)=false:=by
 rw[←Bool.not_eq_true,tN]
 intro hm
 obtain⟨i,hi,he⟩:=List.mem_take_iff_getElem.1 hm
 have:=h i (by omega) (by omega)
 rw[iT (by omega),he] at this
 simp at this
theorem mh {p:aA} {l:List ct}:lm p l=true↔l.length≤30∧(∀x∈l,(b0 x.sw 0 (p.bd.length - 1)&&b0 x.bn 1 2)=true)∧(l.map (·.sw)).Nodup:=by
 unfold lm;simp[and_assoc]
def oJ (p:aA) (x:ct):Bool:=(!b0 x.sw 0 (p.bd.length - 1)) || (!b0 x.bn 1 2)
theorem yO (p:aA) (x:ct):oJ p x= !(b0 x.sw 0 (p.bd.length - 1)&&b0 x.bn 1 2):=by unfold oJ;rw[Bool.not_and]
def yP (l:List ct) (j:Int):Bool:=(l.take j.toNat).any fun y=>y.sw==(nth l j).sw
theorem Zv {p:aA} {l:List ct} (h: ∀j:Int,0≤j→j<l.length→(oJ p (nth l j) || yP l j)=false):lm p l=decide (l.length≤30):=by
 have h1: ∀x∈l,(b0 x.sw 0 (p.bd.length - 1)&&b0 x.bn 1 2)=true:=fun x hx=>by
  have:=l6 (q:=oJ p) (fun j cl e5=>(Bool.or_eq_false_iff.1 (h j cl e5)).1) x hx
  rw[yO] at this
  simpa using this
 have h2:(l.map (·.sw)).Nodup   :=ZY fun i j aT h1 aM=>by
  have:=(Bool.or_eq_false_iff.1 (h j (by omega) aM)).2
  unfold yP at this
  rw[List.any_eq_false] at this
  have:=this (nth l i) (by rw[gE (by omega)];exact List.mem_take_iff_getElem.2 ⟨i.toNat,by omega,rfl⟩)
  simpa using this
 rw[Bool.eq_iff_iff,mh]
 simp only[decide_eq_true_eq]
 exact⟨fun h=>h.1,fun h=>⟨h,h1,h2⟩⟩
theorem Zw {p:aA} {l:List ct} {v:Int} (hv:v.toNat<l.length) (h:oJ p (nth l v)=true):lm p l=false:=by
 rw[←Bool.not_eq_true,mh]
 intro bX
 rw[yO,bX.2.1 _ (du hv)] at h
 cases h
theorem Zu {p:aA} {l:List ct} {i j:Int} (aT:0≤i) (h1:i<j) (h2:j<l.length) (he:((nth l i).sw==(nth l j).sw)=true):lm p l=false:=by
 rw[←Bool.not_eq_true,mh]
 exact fun bX=>NS (f:=fun x:ct=>x.sw) aT h1 h2 (by simpa using he) bX.2.2
theorem Zs {l:List ct} {v:Int} (aT:0≤v) (hv:v<l.length) (h: ∀j:Int,0≤j→j<v→((nth l j).sw==(nth l v).sw)=false):yP l v=false:=by
 unfold yP
 rw[List.any_eq_false]
 intro y bt
 obtain⟨i,hi,rfl⟩:=List.mem_take_iff_getElem.1 bt
 have:=h i (by omega) (by omega)
 rw[iT (by omega)] at this
 rw[this];simp
theorem NG (a b:List Int):meets a b=meets b a:=by
 unfold meets
 rw[Bool.eq_iff_iff]
 simp only[List.any_eq_true,List.contains_iff_mem]
 exact⟨fun⟨x,h1,h2⟩=>⟨x,h2,h1⟩,fun⟨x,h1,h2⟩=>⟨x,h2,h1⟩⟩
theorem ux (x:Int) (b:List Int):meets [x] b=b.contains x:=by unfold meets;simp
theorem oj {p:aA} {w:Way}:gT p w=true↔w.ah≠[]∧hn w.ah p.ah=true∧hn w.cG p.ah=true∧hn w.cD p.ah=true∧lm p w.a2=true∧lm p w.bA=true∧
  ((bz w).map (·.sw)).Nodup∧(∀x∈w.a2,w.ah.contains (nth p.bd x.sw)=true)∧meets w.ah w.cG=false:=by
 unfold gT;simp[and_assoc]
theorem BF {w:Way}:((bz w).map (·.sw)).Nodup↔(w.a2.map (·.sw)).Nodup∧(w.bA.map (·.sw)).Nodup∧ ∀x∈w.a2,∀y∈w.bA,x.sw≠y.sw:=by
 unfold bz
 rw[List.map_append,List.nodup_append]
 simp only[List.mem_map]
 constructor
 ·rintro⟨h1,h2,aN⟩;exact⟨h1,h2,fun x hx y bt=>aN _ ⟨x,hx,rfl⟩ _ ⟨y,bt,rfl⟩⟩
 ·rintro⟨h1,h2,aN⟩
  refine⟨h1,h2,?_⟩
  rintro a ⟨x,hx,rfl⟩ b ⟨y,bt,rfl⟩
  exact aN x hx y bt
def kK (p:aA):Bool:=b0 p.ah 1 60&&b0 p.dl 1 300&&decide (p.bd.length≤40)&&decide (p.O.length≤100)
theorem GJ {p:aA} (h:kK p=false):hG p=⟨1,0⟩:=by
 unfold hG;unfold kK at h;rw[if_neg (by rw[h];simp)]
theorem GL {p:aA} (h:kK p=true):hG p=wZ p:=by
 unfold hG;unfold kK at h;rw[if_pos h]
theorem Oi {p:aA} {k:Nat} (hb:kK p=true) (h:first p.bd (fun s=> !b0 s 0 (p.ah - 1))=some k):hG p=⟨2,k⟩:=by rw[GL hb];unfold wZ;rw[h]
theorem Ok {p:aA} (hb:kK p=true) (h:first p.bd (fun s=> !b0 s 0 (p.ah - 1))=none):hG p=w0 p:=by rw[GL hb];unfold wZ;rw[h]
theorem Oj {p:aA} {k:Nat} (hb:kK p=true) (h:first p.bd (fun s=> !b0 s 0 (p.ah - 1))=none) (hw:first p.O (fun w=> !gT p w)=some k):hG p=⟨3,k⟩:=by rw[Ok hb h];unfold w0;rw[hw]
theorem GK {p:aA} (hb:kK p=true) (h:first p.bd (fun s=> !b0 s 0 (p.ah - 1))=none) (hw:first p.O (fun w=> !gT p w)=none):hG p=oO p:=by rw[Ok hb h];unfold w0;rw[hw]
theorem Oh {p:aA} (h:p.bU.length≠p.O.length):oO p=⟨4,0⟩:=by unfold oO;rw[if_neg h]
theorem Of {p:aA} {k:Nat} (h:p.bU.length=p.O.length) (hb:first p.bU (fun b=>decide (b.length≠p.O.length))=some k):oO p=⟨4,k⟩:=by unfold oO;rw[if_pos h,hb]
theorem Og {p:aA} {k:Nat} (h:p.bU.length=p.O.length) (hb:first p.bU (fun b=>decide (b.length≠p.O.length))=none) (ak:first (List.range p.O.length) (fun i=>(List.range p.O.length).any fun k=>nK p i k)=some k):oO p=⟨5,k⟩:=by
 unfold oO;rw[if_pos h,hb];simp only;rw[ak]
theorem GI {p:aA} (h:p.bU.length=p.O.length) (hb:first p.bU (fun b=>decide (b.length≠p.O.length))=none) (ak:first (List.range p.O.length) (fun i=>(List.range p.O.length).any fun k=>nK p i k)=none):oO p=⟨0,0⟩:=by
 unfold oO;rw[if_pos h,hb];simp only;rw[ak]
theorem rV {p:aA}:kK p=true↔(1≤p.ah∧p.ah≤60)∧(1≤p.dl∧p.dl≤300)∧p.bd.length≤40∧p.O.length≤100:=by
 unfold kK b0;simp[and_assoc]
theorem Kz {n:Nat} {q:Nat→Bool} {v:Int} (aT:0≤v) (hv:v<n) (h: ∀j:Int,0≤j→j<v→q j.toNat=false) (ak:q v.toNat=true):first (List.range n) q=some v.toNat:=by
 unfold first
 rw[List.findIdx?_eq_some_iff_getElem]
 refine⟨by simp;omega,by simpa using ak,fun j aM=> ?_⟩
 have:=h j (by omega) (by omega)
 simpa using this
theorem Ky {n:Nat} {q:Nat→Bool} (h: ∀j:Int,0≤j→j<n→q j.toNat=false):first (List.range n) q=none:=by
 unfold first
 rw[List.findIdx?_eq_none_iff]
 intro x hx
 have:=h x (by omega) (by have:=List.mem_range.1 hx;omega)
 simpa using this
theorem Ji {n:Nat} {q:Nat→Bool} {v:Int} (aT:0≤v) (hv:v<n) (h:q v.toNat=true):(List.range n).any q=true:=by
 rw[List.any_eq_true];exact⟨v.toNat,List.mem_range.2 (by omega),h⟩
theorem NL {n:Nat} {q:Nat→Bool} (h: ∀j:Int,0≤j→j<n→q j.toNat=false):(List.range n).any q=false:=by
 rw[List.any_eq_false]
 intro x hx
 have:=h x (by omega) (by have:=List.mem_range.1 hx;omega)
 simp only[Int.toNat_natCast] at this
 rw[this];simp
theorem jD {α:Type} [Inhabited α] {xs:List α} {i:Int} (h:0≤i):nth xs (i.toNat:Int)=nth xs i:=by rw[Int.toNat_of_nonneg h]
theorem Zr (p:aA) (x:ct):((decide (x.sw<0)) || ((decide (x.sw ≥ (p.bd.length:Int))) || ((x.bn !=1)&&(x.bn !=2))))=oJ p x:=by
 unfold oJ
 rw[←He,Bool.or_assoc]
 congr 2
 rw[Bool.eq_iff_iff]
 simp[b0]
 omega
def pC (p:aA) (w:Way) (j:Int):Bool:=oJ p (nth (bz w) j) || (decide (j<(w.a2.length:Int))&& !(fJ w.ah (nth p.bd (nth (bz w) j).sw)))
theorem NN {w:Way} {j:Int} (aT:0≤j) (h:j<w.a2.length):nth (bz w) j=nth w.a2 j:=by
 rw[gE (xs:=w.a2) (by omega),gE (by unfold bz;rw[List.length_append];omega)]
 unfold bz
 rw[List.getElem_append_left]
theorem Vq {p:aA} {w:Way} (h:gT p w=true): ∀l∈[w.ah,w.cG,w.cD],hn l p.ah=true:=by
 obtain⟨-,h1,h2,aN,-⟩:=oj.1 h
 intro l aL
 simp only[List.mem_cons,List.not_mem_nil,or_false] at aL
 rcases aL with rfl | rfl | rfl
 ·exact h1
 ·exact h2
 ·exact aN
theorem Vr {p:aA} {w:Way} (h:gT p w=true) {j:Int} (aT:0≤j) (aM:j.toNat<(bz w).length):pC p w j=false:=by
 obtain⟨-,-,-,-,be,ci,-,cK,-⟩:=oj.1 h
 have hm:=du aM
 have hb:oJ p (nth (bz w) j)=false:=by
  rw[yO]
  unfold bz at hm ⊢
  rcases List.mem_append.1 hm with hm | hm
  ·rw[(mh.1 be).2.1 _ hm];rfl
  ·rw[(mh.1 ci).2.1 _ hm];rfl
 unfold pC
 rw[hb,Bool.false_or]
 by_cases aL:j<(w.a2.length:Int)
 ·rw[NN aT aL]
  have:fJ w.ah (nth p.bd (nth w.a2 j).sw)=true:=cK _ (du (by omega))
  rw[this];simp
 ·simp[aL]
theorem Vp {p:aA} {w:Way} (h1:w.ah≠[]) (aL: ∀l∈[w.ah,w.cG,w.cD],hn l p.ah=true) (aN:w.a2.length≤30) (be:w.bA.length≤30)
  (aH: ∀j:Int,0≤j→j<(bz w).length→pC p w j=false):((!(dup ((bz w).map (·.sw))))&&(!(meets w.ah w.cG)))=gT p w:=by
 have hb: ∀x∈bz w,(b0 x.sw 0 (p.bd.length - 1)&&b0 x.bn 1 2)=true:=fun x hx=>by
  have:=l6 (q:=oJ p) (fun j cl e5=>by have:=aH j cl e5;unfold pC at this;exact(Bool.or_eq_false_iff.1 this).1) x hx
  rw[yO] at this
  simpa using this
 have hc: ∀x∈w.a2,w.ah.contains (nth p.bd x.sw)=true:=fun x hx=>by
  have:=l6 (q:=fun x=> !(fJ w.ah (nth p.bd x.sw))) (fun j cl e5=>by
   have:=aH j cl (by unfold bz;rw[List.length_append];omega)
   unfold pC at this
   have:=(Bool.or_eq_false_iff.1 this).2
   rw[NN cl e5] at this
   simpa[e5] using this) x hx
  simp only[Bool.not_eq_false'] at this
  exact this
 rw[Bool.eq_iff_iff,oj]
 simp only[Bool.and_eq_true,Bool.not_eq_true',dup,Bool.not_eq_false',decide_eq_true_eq]
 constructor
 ·rintro⟨bi,hm⟩
  have ph:=BF.1 bi
  exact⟨h1,aL _ (by simp),aL _ (by simp),aL _ (by simp),mh.2 ⟨aN,fun x hx=>hb x (by unfold bz;exact List.mem_append_left _ hx),ph.1⟩,mh.2 ⟨be,fun x hx=>hb x (by unfold bz;exact List.mem_append_right _ hx),ph.2.1⟩,bi,hc,hm⟩
 ·rintro⟨-,-,-,-,-,-,bi,-,hm⟩
  exact⟨bi,hm⟩
theorem Jq {p:aA} {i k:Int} (aT:0≤i) (h1:0≤k):(((nth (nth p.bU i) k) !=(nth (nth p.bU k) i)) || ((i !=k)&&((!(nth (nth p.bU i) k))&&(meets (nth p.O i).ah (nth p.O k).ah))))=nK p i.toNat k.toNat:=by
 unfold nK rb
 rw[Int.toNat_of_nonneg aT,Int.toNat_of_nonneg h1]
 have:(i !=k)=decide (i.toNat≠k.toNat):=by
  rw[Bool.eq_iff_iff];simp;omega
 rw[this,Bool.and_assoc]
def qv (n:Int) (e:Event):Bool:=decide (e.ai ≥ 0)&&decide (e.ai<n)
theorem y2 (x a b:Int):(bif (x==a) then(x==a) else(x==b))=decide (x=a∨x=b):=by
 by_cases h:x=a
 ·simp[h]
 ·have h1:(x==a)=false:=by simp[h]
  rw[h1,Bool.eq_iff_iff]
  simp[h]
theorem DS {p:aA} {e:Event} (h:e.op=1∨e.op=2):eU p e=(b0 e.ai 0 (p.O.length - 1)&&decide (e.bn=0)):=by unfold eU;rw[if_pos h]
theorem DT {p:aA} {e:Event} (h1: ¬(e.op=1∨e.op=2)) (h:e.op=3∨e.op=4):eU p e=(b0 e.ai 0 (p.ah - 1)&&decide (e.bn=0)):=by unfold eU;rw[if_neg h1,if_pos h]
theorem Aw {p:aA} {e:Event} (h:e.op=5):eU p e=(b0 e.ai 0 (p.bd.length - 1)&&b0 e.bn 0 2):=by unfold eU;simp[h]
theorem Ax {p:aA} {e:Event} (h:e.op=6):eU p e=(b0 e.ai 0 (p.bd.length - 1)&&b0 e.bn 1 2):=by unfold eU;simp[h]
theorem Kb {p:aA} {e:Event} (h:e.op=7):eU p e=(decide (e.ai=0)&&decide (e.bn=0)):=by unfold eU;simp[h]
theorem Kd {p:aA} {e:Event} (h1: ¬(e.op=1∨e.op=2)) (aN: ¬(e.op=3∨e.op=4)) (ci:e.op≠5) (cK:e.op≠6) (gC:e.op≠7):eU p e=false:=by unfold eU;rw[if_neg h1,if_neg aN,if_neg ci,if_neg cK,if_neg gC]
theorem p2 (x y:Int):(x==y)=decide (x=y):=by rw[Bool.eq_iff_iff];simp
theorem IK (n:Int) (e:Event):qv n e=b0 e.ai 0 (n - 1):=by
 unfold qv b0
 rw[Bool.eq_iff_iff];simp;omega
theorem aan (p:aA):((hG p).code==0)=dQ p:=by
 have key:(hG p).code=0→(hG p).pos=0:=by
  unfold hG wZ w0 oO
  split
  ·split
   ·intro h;cases h
   ·split
    ·intro h;cases h
    ·split
     ·split
      ·intro h;cases h
      ·split
       ·intro h;cases h
       ·intro _;rfl
     ·intro h;cases h
  ·intro h;cases h
 unfold dQ
 rw[Bool.eq_iff_iff]
 simp only[beq_iff_eq,decide_eq_true_eq]
 constructor
 ·intro h
  have:=key h
  cases ak:hG p with
  | mk c q=>rw[ak] at h this;simp at h this;rw[h,this]
 ·intro h;rw[h]
theorem aam (p:aA):((hG p).code==0&&(hG p).pos==0)=dQ p:=by
 unfold dQ
 rw[Bool.eq_iff_iff]
 simp only[Bool.and_eq_true,beq_iff_eq,decide_eq_true_eq]
 constructor
 ·rintro⟨h1,h2⟩
  cases ak:hG p with
  | mk c q=>rw[ak] at h1 h2;simp at h1 h2;rw[h1,h2]
 ·intro h;rw[h];exact⟨rfl,rfl⟩
theorem aak {p:aA} (h:dQ p=true):kK p=true:=by
 cases hb:kK p with
 | true=>rfl
 | false=>unfold dQ at h;rw[GJ hb] at h;simp at h
def jr (f:Frame):Prop:=f.aw.length≤1048576∧f.au.length≤1048576∧f.O.length≤1048576∧ ∀h∈f.O,h.ac.length≤1048576
structure r_ (p:aA):Prop where
 cR:0≤p.ah∧p.ah≤60
 O:p.O.length≤100
 sw:p.bd.length≤40
 ah: ∀w∈p.O,w.ah≠[]∧w.ah.length≤30∧ ∀x∈w.ah,0≤x∧x<p.ah
 cG: ∀w∈p.O,w.cG.length≤30∧ ∀x∈w.cG,0≤x∧x<p.ah
 cD: ∀w∈p.O,w.cD.length≤30∧ ∀x∈w.cD,0≤x∧x<p.ah
 a2: ∀w∈p.O,w.a2.length≤30∧w.bA.length≤30∧ ∀x∈bz w,0≤x.sw∧x.sw<p.bd.length
 bd: ∀x∈p.bd,0≤x∧x<p.ah
structure h9 (p:aA) (f:Frame):Prop where
 aw:(f.aw.length:Int)=p.ah
 au:f.au.length=p.bd.length
 O:f.O.length=p.O.length
 ac: ∀(i:Nat) (h:ae) (w:Way),f.O[i]?=some h→p.O[i]?=some w→h.ac.length=w.ah.length
 af: ∀h∈f.O,0≤h.af∧h.af≤h.ac.length
def dW (f:Frame) (x:Int):Bool:=nth f.aw x
def fX (f:Frame) (l:List Int):Bool:=l.any (dW f)
def uY (f:Frame) (l:List Int):Prop:= ∀x∈l,0≤x∧x<f.aw.length
def fi (p:aA) (f:Frame) (i:Int):Bool:=
 (bz (nth p.O i)).all (fun l=>decide (nth f.au l.sw=⟨l.bn,l.bn⟩))&& !fX f (nth p.O i).ah&& !fX f (nth p.O i).cG
def sV (p:aA) (f:Frame) (i:Int):Prop:=r_ p∧h9 p f∧0≤i∧i<p.O.length
def ha (n:Nat):ae:=⟨0,0,List.replicate n false,false,0⟩
def a4 (p:aA) (i:Int):ae:=ha (nth p.O i).ah.length
def wA (p:aA) (i:Int):Prop:=r_ p∧0≤i∧i<p.O.length
def gB (s:List Int) (f:Frame) (ac:List Bool):Nat→Nat→Nat
 | 0,g=>g
 | n+1,g=>if g<s.length∧ac.getD g false=true∧dW f (s.getD g 0)=false∧(g+1=s.length∨ac.getD (g+1) false=true) then gB s f ac n (g+1) else g
def hV (s:List Int) (f:Frame) (h:ae):ae:=
 let ac:=List.zipWith (fun b x=>b || dW f x) h.ac s
 let g:=gB s f ac s.length h.af.toNat
 if g=s.length then ha s.length else{h with ac:=ac,af:=g}
def l5 (p:aA) (f:Frame) (i:Nat):ae:=
 let h:=nth f.O i
 let s:=(nth p.O i).ah
 if h.ar=0 then h else
 let h:=if h.ar≠4∧dW f (nth s 0)=true then{h with ar:=4,ap:=0} else h
 let h:=if h.ar=1∨h.ar=2 then(if fi p f i=true then{h with ar:=2,ao:=true} else{h with ar:=1}) else h
 if h.ar=4 then hV s f h else h
def io (p:aA):Nat→Frame→Frame
 | 0,f=>f
 | n+1,f=>let g:=io p n f;{g with O:=g.O.set n (l5 p g n)}
def d_ (p:aA) (f:Frame):Frame:=io p f.O.length f
def tc (p:aA) (f:Frame):Prop:=r_ p∧h9 p f
structure dg (V:List ae) (ids:List Nat) (v:Int) (h:ae) (ws:List ae) (bs:List (List Bool)):Prop where
 ok:j7 ws ids bs
 kI: ∀i j k:Nat,ids[i]?=some k→ids[j]?=some k→i=j
 lt:v.toNat<ws.length
 gS:view ws ids bs=V.set v.toNat h
 len: ∀b∈bs,b.length≤1048576
section
variable {V:List ae} {ids:List Nat} {v:Int} {h:ae} {ws:List ae} {bs:List (List Bool)}
theorem dg.fp (F:dg V ids v h ws bs):ws.length=ids.length∧v.toNat<ws.length:=⟨F.ok.len,F.lt⟩
theorem dg.ti (F:dg V ids v h ws bs):V.length=ws.length:=by
 have:=congrArg List.length F.gS
 rw[i_ F.ok,List.length_set] at this;exact this.symm
theorem dg.id (F:dg V ids v h ws bs):ids[v.toNat]?=some (nth ids v):=gO (by rw[←F.ok.len];exact F.lt)
theorem dg.qt (F:dg V ids v h ws bs):nth ids v<bs.length:=F.ok.lt _ _ F.id
theorem dg.row (F:dg V ids v h ws bs):h={nth ws v with ac:=bs.getD (nth ids v) []}:=by
 have h1:=xu (bs:=bs) (gO F.lt) F.id
 rw[F.gS,List.getElem?_set_self (by rw[F.ti];exact F.lt)] at h1
 exact Option.some.inj h1
theorem dg.ar (F:dg V ids v h ws bs):(nth ws v).ar=h.ar:=by rw[F.row]
theorem dg.af (F:dg V ids v h ws bs):(nth ws v).af=h.af:=by rw[F.row]
theorem dg.ao (F:dg V ids v h ws bs):(nth ws v).ao=h.ao:=by rw[F.row]
theorem dg.ap (F:dg V ids v h ws bs):(nth ws v).ap=h.ap:=by rw[F.row]
theorem dg.ac (F:dg V ids v h ws bs):bs.getD (nth ids v) []=h.ac:=by rw[F.row]
theorem dg.p3 (F:dg V ids v h ws bs):(nth ws v).ac.length=h.ac.length:=by
 rw[←F.ac];exact F.ok.ac _ _ _ (gO F.lt) F.id
theorem dg.start (ok:j7 ws ids bs) (kI: ∀i j k:Nat,ids[i]?=some k→ids[j]?=some k→i=j) (lt:v.toNat<ws.length) (gS:view ws ids bs=V) (len: ∀b∈bs,b.length≤1048576):dg V ids v (nth V v) ws bs:=by
 have aL:v.toNat<V.length:=by rw[←gS,i_ ok];exact lt
 exact⟨ok,kI,lt,by rw[gS,gE aL];exact(List.set_getElem_self _).symm,len⟩
theorem dg.qP (F:dg V ids v h ws bs) (x:ae) (hx:x.ac.length=h.ac.length):dg V ids v {x with ac:=h.ac} (ws.set v.toNat x) bs where
 ok:=⟨by rw[List.length_set];exact F.ok.len,F.ok.lt,fun i id y h1 h2=>by
  rw[List.getElem?_set] at h1
  split at h1
  ·rename_i e;subst e
   rw[if_pos F.lt] at h1;cases h1
   rw[F.id] at h2;cases h2
   rw[hx,F.ac]
  ·exact F.ok.ac i id y h1 h2⟩
 kI:=F.kI
 lt:=by rw[List.length_set];exact F.lt
 gS:=by
  apply List.ext_getElem?
  intro j
  have aM:=congrArg (·[j]?) F.gS
  simp only[view,List.getElem?_zipWith,List.getElem?_set] at aM ⊢
  by_cases e:v.toNat=j
  ·subst e
   have hv:=F.ti
   have:=F.lt
   rw[if_pos rfl,if_pos rfl,if_pos this,if_pos (by omega),F.id]
   show some _=some _
   rw[F.ac]
  ·rw[if_neg e] at aM ⊢
   rw[if_neg e];exact aM
 len:=F.len
theorem dg.setState (F:dg V ids v h ws bs) (x:Int):dg V ids v {h with ar:=x} (ws.set v.toNat ({ar:=x,af:=(nth ws v).af,ac:=(nth ws v).ac,ao:=(nth ws v).ao,ap:=(nth ws v).ap}:ae)) bs:=by
 have:=F.qP ({ar:=x,af:=(nth ws v).af,ac:=(nth ws v).ac,ao:=(nth ws v).ao,ap:=(nth ws v).ap}:ae) F.p3
 simpa only[F.af,F.ao,F.ap] using this
theorem dg.Pg (F:dg V ids v h ws bs) (x:Int):dg V ids v {h with af:=x} (ws.set v.toNat ({ar:=(nth ws v).ar,af:=x,ac:=(nth ws v).ac,ao:=(nth ws v).ao,ap:=(nth ws v).ap}:ae)) bs:=by
 have:=F.qP ({ar:=(nth ws v).ar,af:=x,ac:=(nth ws v).ac,ao:=(nth ws v).ao,ap:=(nth ws v).ap}:ae) F.p3
 simpa only[F.ar,F.ao,F.ap] using this
theorem dg.Pl (F:dg V ids v h ws bs) (x:Bool):dg V ids v {h with ao:=x} (ws.set v.toNat ({ar:=(nth ws v).ar,af:=(nth ws v).af,ac:=(nth ws v).ac,ao:=x,ap:=(nth ws v).ap}:ae)) bs:=by
 have:=F.qP ({ar:=(nth ws v).ar,af:=(nth ws v).af,ac:=(nth ws v).ac,ao:=x,ap:=(nth ws v).ap}:ae) F.p3
 simpa only[F.ar,F.af,F.ap] using this
theorem dg.xg (F:dg V ids v h ws bs) (x:Int):dg V ids v {h with ap:=x} (ws.set v.toNat ({ar:=(nth ws v).ar,af:=(nth ws v).af,ac:=(nth ws v).ac,ao:=(nth ws v).ao,ap:=x}:ae)) bs:=by
 have:=F.qP ({ar:=(nth ws v).ar,af:=(nth ws v).af,ac:=(nth ws v).ac,ao:=(nth ws v).ao,ap:=x}:ae) F.p3
 simpa only[F.ar,F.af,F.ao] using this
theorem dg.Hn (F:dg V ids v h ws bs) (b:List Bool) (hb:b.length=h.ac.length):dg V ids v {h with ac:=b} ws (bs.set (nth ids v) b) where
 ok:=⟨F.ok.len,fun i id hi=>by rw[List.length_set];exact F.ok.lt i id hi,fun i id y h1 h2=>by
  rw[F.ok.ac i id y h1 h2,List.getD_eq_getElem?_getD,List.getD_eq_getElem?_getD,List.getElem?_set]
  split
  ·rename_i e;subst e
   rw[if_pos F.qt,←List.getD_eq_getElem?_getD,F.ac];exact hb.symm
  ·rfl⟩
 kI:=F.kI
 lt:=F.lt
 gS:=by
  apply List.ext_getElem?
  intro j
  have aM:=congrArg (·[j]?) F.gS
  simp only[view,List.getElem?_zipWith,List.getElem?_set] at aM ⊢
  by_cases e:v.toNat=j
  ·subst e
   have hv:=F.ti
   have:=F.lt
   rw[if_pos rfl,if_pos (by omega),F.id,gO F.lt]
   simp only[List.getD_eq_getElem?_getD,List.getElem?_set,if_pos F.qt]
   rw[F.row];simp
  ·rw[if_neg e] at aM ⊢
   rw[←aM]
   cases h1:ws[j]? with
   | none=>rfl
   | some y=>
    cases h2:ids[j]? with
    | none=>rfl
    | some id=>
     have ck:nth ids v≠id:=fun gL=>by
      have aN:=F.id
      rw[gL] at aN
      exact e (F.kI _ _ _ aN h2)
     simp only[List.getD_eq_getElem?_getD,List.getElem?_set,if_neg ck]
 len:=fun x hx=>by
  rcases List.mem_or_eq_of_mem_set hx with hx | rfl
  ·exact F.len x hx
  ·rw[hb,←F.ac,List.getD_eq_getElem?_getD,List.getElem?_eq_getElem F.qt];exact F.len _ (List.getElem_mem F.qt)
theorem dg.new (F:dg V ids v h ws bs) (x:ae) (hx:x.ac.length≤1048576):dg V (ids.set v.toNat bs.length) v x (ws.set v.toNat x) (bs++[x.ac]) where
 ok:=⟨by rw[List.length_set,List.length_set];exact F.ok.len,fun i id hi=>by
   rw[List.getElem?_set] at hi
   rw[List.length_append,List.length_singleton]
   split at hi
   ·split at hi
    ·cases hi;omega
    ·cases hi
   ·have:=F.ok.lt i id hi;omega,fun i id y h1 h2=>by
   rw[List.getElem?_set] at h1 h2
   split at h1
   ·rename_i e;subst e
    have:=F.ok.len
    have:=F.lt
    rw[if_pos F.lt] at h1;rw[if_pos rfl,if_pos (by omega)] at h2
    cases h1;cases h2;simp
   ·rename_i e
    rw[if_neg e] at h2
    rw[F.ok.ac i id y h1 h2,List.getD_eq_getElem?_getD,List.getD_eq_getElem?_getD,List.getElem?_append_left (F.ok.lt i id h2)]⟩
 kI:=fun i j k hi aM=>by
  rw[List.getElem?_set] at hi aM
  have bf: ∀q,ids[q]?≠some bs.length:=fun q ak=>by have:=F.ok.lt q _ ak;omega
  split at hi
  ·rename_i e;subst e
   split at hi
   ·cases hi
    split at aM
    ·rename_i e;exact e
    ·exact absurd aM (bf j)
   ·cases hi
  ·split at aM
   ·rename_i e;subst e
    split at aM
    ·cases aM;exact absurd hi (bf i)
    ·cases aM
   ·exact F.kI i j k hi aM
 lt:=by rw[List.length_set];exact F.lt
 gS:=by
  apply List.ext_getElem?
  intro j
  have aM:=congrArg (·[j]?) F.gS
  simp only[view,List.getElem?_zipWith,List.getElem?_set] at aM ⊢
  by_cases e:v.toNat=j
  ·subst e
   have hv:=F.ti
   have:=F.lt
   have:=F.ok.len
   rw[if_pos rfl,if_pos rfl,if_pos rfl,if_pos F.lt,if_pos (by omega),if_pos (by omega)]
   simp
  ·rw[if_neg e] at aM ⊢
   rw[if_neg e,if_neg e,←aM]
   cases h1:ws[j]? with
   | none=>rfl
   | some y=>
    cases h2:ids[j]? with
    | none=>rfl
    | some id=>
     simp only
     rw[List.getD_eq_getElem?_getD,List.getD_eq_getElem?_getD,List.getElem?_append_left (F.ok.lt j id h2)]
 len:=fun b hb=>by
  rcases List.mem_append.1 hb with hb | hb
  ·exact F.len b hb
  ·rw[List.mem_singleton.1 hb];exact hx
end
theorem vO (ws:List ae):j7 ws (List.range ws.length) (ws.map ae.ac)∧(∀i j k:Nat,(List.range ws.length)[i]?=some k→(List.range ws.length)[j]?=some k→i=j)∧view ws (List.range ws.length) (ws.map ae.ac)=ws:=by
 refine⟨⟨by simp,fun i id h=> ?_,fun i id h h1 h2=> ?_⟩,fun i j k h1 h2=> ?_,?_⟩
 ·obtain⟨hi,rfl⟩:=List.getElem?_eq_some_iff.1 h
  simpa using hi
 ·obtain⟨hi,rfl⟩:=List.getElem?_eq_some_iff.1 h2
  simp[h1]
 ·obtain⟨hi,rfl⟩:=List.getElem?_eq_some_iff.1 h1
  obtain⟨aM,e⟩:=List.getElem?_eq_some_iff.1 h2
  simpa using e.symm
 ·apply List.ext_getElem?
  intro j
  unfold view
  rw[List.getElem?_zipWith]
  rcases Nat.lt_or_ge j ws.length with aM | aM
  ·rw[List.getElem?_range aM,List.getElem?_eq_getElem aM]
   simp[aM]
  ·rw[List.getElem?_eq_none aM]
theorem qQ (p:aA) (f:Frame): ∀n,(io p n f).ok=f.ok∧(io p n f).aw=f.aw∧(io p n f).au=f.au
 | 0=>⟨rfl,rfl,rfl⟩
 | n+1=>qQ p f n
theorem Ei {s:List Int} {f:Frame} {ac:List Bool}: ∀(n g:Nat),g≤s.length→g≤gB s f ac n g∧gB s f ac n g≤s.length
 | 0,g,h=>⟨Nat.le_refl _,h⟩
 | n+1,g,h=>by
  unfold gB
  split
  ·rename_i hc
   have:=Ei (f:=f) (ac:=ac) n (g+1) hc.1
   exact⟨by omega,this.2⟩
  ·exact⟨Nat.le_refl _,h⟩
theorem aab {s:List Int} {f:Frame} {h:ae} (hb:h.ac.length=s.length) (hg:0≤h.af∧h.af≤h.ac.length):(hV s f h).ac.length=s.length∧0≤(hV s f h).af∧(hV s f h).af≤(hV s f h).ac.length:=by
 unfold hV
 simp only
 have aL:(List.zipWith (fun b x=>b || dW f x) h.ac s).length=s.length:=by rw[List.length_zipWith];omega
 have bX:=(Ei (s:=s) (f:=f) (ac:=List.zipWith (fun b x=>b || dW f x) h.ac s) s.length h.af.toNat (by omega)).2
 split
 ·simp[ha]
 ·exact⟨aL,Int.natCast_nonneg _,by simp only;rw[aL];omega⟩
theorem aeb {p:aA} {f:Frame} {i:Nat} (hb:(nth f.O i).ac.length=(nth p.O i).ah.length) (hg:0≤(nth f.O i).af∧(nth f.O i).af≤(nth f.O i).ac.length):
  (l5 p f i).ac.length=(nth p.O i).ah.length∧0≤(l5 p f i).af∧(l5 p f i).af≤(l5 p f i).ac.length:=by
 unfold l5
 simp only
 split
 ·exact⟨hb,hg⟩
 ·have h1: ∀(c:Prop) [Decidable c] (x y:ae),x.ac=y.ac→x.af=y.af→(if c then x else y).ac=y.ac∧(if c then x else y).af=y.af:=fun c _ x y bB e2=>by
   split
   ·exact⟨bB,e2⟩
   ·exact⟨rfl,rfl⟩
  generalize ix:(if(nth f.O i).ar≠4∧dW f (nth (nth p.O i).ah 0)=true then{nth f.O i with ar:=4,ap:=0} else nth f.O i)=A
  have mI:A.ac=(nth f.O i).ac∧A.af=(nth f.O i).af:=by rw[←ix];exact h1 _ _ _ rfl rfl
  generalize dV:(if A.ar=1∨A.ar=2 then(if fi p f i=true then{A with ar:=2,ao:=true} else{A with ar:=1}) else A)=B
  have El:B.ac=(nth f.O i).ac∧B.af=(nth f.O i).af:=by
   rw[←dV,←mI.1,←mI.2]
   exact h1 _ _ _ (by split<;>rfl) (by split<;>rfl)
  have bB:B.ac.length=(nth p.O i).ah.length:=by rw[El.1];exact hb
  have e2:0≤B.af∧B.af≤B.ac.length:=by rw[El.1,El.2];exact hg
  split
  ·exact aab bB e2
  ·exact⟨bB,e2⟩
theorem zt {p:aA} {f:Frame} (h:h9 p f): ∀n,h9 p (io p n f)
 | 0=>h
 | n+1=>by
  have bR:=zt h n
  show h9 p {io p n f with O:=(io p n f).O.set n (l5 p (io p n f) n)}
  have key:n<(io p n f).O.length→(l5 p (io p n f) n).ac.length=(nth p.O n).ah.length∧0≤(l5 p (io p n f) n).af∧(l5 p (io p n f) n).af≤(l5 p (io p n f) n).ac.length:=fun aH=>by
   have hw:=bR.O
   have h1:(io p n f).O[n]?=some (nth (io p n f).O n):=by rw[iT aH];exact List.getElem?_eq_getElem aH
   have h2:p.O[n]?=some (nth p.O n):=by rw[iT (by omega)];exact List.getElem?_eq_getElem (by omega)
   exact aeb (bR.ac n _ _ h1 h2) (bR.af _ (List.mem_of_getElem? h1))
  refine⟨bR.aw,bR.au,by rw[List.length_set];exact bR.O,fun i x w h1 h2=> ?_,fun x hx=> ?_⟩
  ·replace h1:((io p n f).O.set n (l5 p (io p n f) n))[i]?=some x:=h1
   rw[List.getElem?_set] at h1
   split at h1
   ·rename_i e;subst e
    split at h1
    ·rename_i aH
     cases h1
     have hw:=bR.O
     rw[(key aH).1,iT (by omega)]
     rw[List.getElem?_eq_getElem (by omega)] at h2
     cases h2;rfl
    ·cases h1
   ·exact bR.ac i x w h1 h2
  ·rcases List.mem_or_eq_of_mem_set hx with hx | rfl
   ·exact bR.af x hx
   ·by_cases aH:n<(io p n f).O.length
    ·exact(key aH).2
    ·rw[List.set_eq_of_length_le (by omega)] at hx
     exact bR.af _ hx
theorem oT (p:aA) (f:Frame): ∀n,(io p n f).O.length=f.O.length
 | 0=>rfl
 | n+1=>by show((io p n f).O.set n _).length=_;rw[List.length_set];exact oT p f n
theorem GR {p:aA} {f g:Frame} {i:Int} (h1:f.aw=g.aw) (h2:f.au=g.au):fi p f i=fi p g i:=by
 unfold fi fX dW
 rw[h1,h2]
def j2 (s:List Int) (f:Frame) (b:List Bool) (v:Nat):List Bool:=List.zipWith (fun b x=>b || dW f x) (b.take v) (s.take v)++b.drop v
theorem IT {s:List Int} {f:Frame} {b:List Bool} {v:Nat} (aL:b.length=s.length) (hv:v≤s.length):(j2 s f b v).length=b.length:=by
 unfold j2
 rw[List.length_append,List.length_zipWith,List.length_take,List.length_take,List.length_drop];omega
theorem RZ (s:List Int) (f:Frame) (b:List Bool):j2 s f b 0=b:=by simp[j2]
theorem R1 {s:List Int} {f:Frame} {b:List Bool} {v:Nat} (aL:b.length=s.length) (hv:s.length≤v):j2 s f b v=List.zipWith (fun b x=>b || dW f x) b s:=by
 unfold j2
 rw[List.take_of_length_le (by omega),List.take_of_length_le hv,List.drop_of_length_le (by omega),List.append_nil]
theorem R0 {s:List Int} {f:Frame} {b:List Bool} {v:Nat} (aL:b.length=s.length) (hv:v<s.length):nth (j2 s f b v) v=b[v]:=by
 rw[iT (by rw[IT aL (by omega)];omega)]
 unfold j2
 rw[List.getElem_append_right (by rw[List.length_zipWith,List.length_take,List.length_take];omega)]
 simp only[List.length_zipWith,List.length_take,List.getElem_drop]
 congr 1;omega
theorem R2 {s:List Int} {f:Frame} {b:List Bool} {v:Nat} (aL:b.length=s.length) (hv:v<s.length):(j2 s f b v).set v (b[v] || dW f s[v])=j2 s f b (v+1):=by
 unfold j2
 have hlen:(List.zipWith (fun b x=>b || dW f x) (b.take v) (s.take v)).length=v:=by rw[List.length_zipWith,List.length_take,List.length_take];omega
 rw[List.set_append_right _ _ (by omega),hlen,Nat.sub_self,List.take_succ_eq_append_getElem (by omega),List.take_succ_eq_append_getElem hv,List.zipWith_append (by rw[List.length_take,List.length_take];omega),List.append_assoc]
 congr 1
 rw[List.drop_eq_getElem_cons (by omega:v<b.length)]
 rfl
def nf (s:List Int) (f:Frame) (ac:List Bool) (g:Int):Bool:=
 decide (g<(s.length:Int))&&(nth ac g&&((!(nth f.aw (nth s g)))&&((g==IntKind.i64.wrap ((s.length:Int) - 1)) || nth ac (IntKind.i64.wrap (g+1)))))
theorem KO {s:List Int} {f:Frame} {ac:List Bool} {g:Nat} (hs:s.length≤1048576) (hg:g≤s.length):
  nf s f ac g=true↔g<s.length∧ac.getD g false=true∧dW f (s.getD g 0)=false∧(g+1=s.length∨ac.getD (g+1) false=true):=by
 unfold nf
 rw[fw (by omega) (by omega),fw (by omega) (by omega)]
 have bB:nth ac (g:Int)=ac.getD g false:=rfl
 have e2:nth ac ((g:Int)+1)=ac.getD (g+1) false:=rfl
 have dK:nth s (g:Int)=s.getD g 0:=rfl
 rw[bB,e2,dK]
 simp only[Bool.and_eq_true,Bool.or_eq_true,decide_eq_true_eq,Bool.not_eq_true',beq_iff_eq]
 constructor
 ·rintro⟨h1,h2,aN,be⟩;exact⟨by omega,h2,aN,be.imp (fun h=>by omega) _root_.id⟩
 ·rintro⟨h1,h2,aN,be⟩;exact⟨by omega,h2,aN,be.imp (fun h=>by omega) _root_.id⟩
def vV (s:List Int) (f:Frame) (ac:List Bool) (bx g:Int):Prop:=0≤g∧g≤s.length∧gB s f ac s.length bx.toNat=gB s f ac (s.length - g.toNat) g.toNat
theorem AN {s:List Int} {f:Frame} {ac:List Bool} {n g:Nat} (h: ¬(g<s.length∧ac.getD g false=true∧dW f (s.getD g 0)=false∧(g+1=s.length∨ac.getD (g+1) false=true))):gB s f ac n g=g:=by
 cases n with
 | zero=>rfl
 | succ n=>unfold gB;rw[if_neg h]
theorem KS {s:List Int} {f:Frame} {ac:List Bool}: ∀(n m g:Nat),s.length≤n+g→s.length≤m+g→gB s f ac n g=gB s f ac m g
 | 0,m,g,h1,h2=>by
  rw[AN (n:=m) fun h=>by omega];rfl
 | n+1,0,g,h1,h2=>by rw[AN (n:=n+1) fun h=>by omega];rfl
 | n+1,m+1,g,h1,h2=>by
  unfold gB
  split
  ·exact KS n m (g+1) (by omega) (by omega)
  ·rfl
theorem KP {s:List Int} {f:Frame} {ac:List Bool} {g:Int} (aT:0≤g) (h1:g≤s.length):vV s f ac g g:=⟨aT,h1,KS _ _ _ (by omega) (by omega)⟩
theorem KQ {s:List Int} {f:Frame} {ac:List Bool} {bx g:Int} (hs:s.length≤1048576) (h:vV s f ac bx g) (hc:nf s f ac g=true):vV s f ac bx (IntKind.i64.wrap (g+1))∧g<s.length:=by
 obtain⟨aT,h1,h2⟩:=h
 obtain⟨k,rfl⟩:=Int.eq_ofNat_of_zero_le aT
 have hc:=(KO hs (by omega)).1 hc
 rw[fw (by omega) (by omega)]
 refine⟨⟨by omega,by omega,?_⟩,by omega⟩
 rw[h2]
 simp only[Int.toNat_natCast]
 rw[show((k:Int)+1).toNat=k+1 by omega,show s.length - k=(s.length - (k+1))+1 by omega]
 conv=>lhs;unfold gB
 rw[if_pos hc]
theorem Eh {s:List Int} {f:Frame} {ac:List Bool} {bx g:Int} (hs:s.length≤1048576) (h:vV s f ac bx g) (hc:nf s f ac g=false):(gB s f ac s.length bx.toNat:Int)=g:=by
 obtain⟨aT,h1,h2⟩:=h
 obtain⟨k,rfl⟩:=Int.eq_ofNat_of_zero_le aT
 rw[h2]
 simp only[Int.toNat_natCast]
 rw[AN fun bX=>by rw[(KO hs (by omega)).2 bX] at hc;cases hc]
def Hp (p:aA) (f:Frame) (bs:List (List Bool)) (ids:List Nat) (v:Int) (ws:List ae):Prop:=
 cr f.O.length (fun _=>false) v∧j7 ws ids bs∧(∀i j k:Nat,ids[i]?=some k→ids[j]?=some k→i=j)∧view ws ids bs=(io p v.toNat f).O∧ ∀b∈bs,b.length≤1048576
def dH (p:aA) (f:Frame) (v:Int):Frame:=io p v.toNat f
def cR (p:aA) (v:Int):List Int:=(nth p.O v).ah
def hW (p:aA) (f:Frame) (v:Int):ae:=
 let G:=dH p f v
 let h:=nth G.O v
 if h.ar≠4∧dW G (nth (cR p v) 0)=true then{h with ar:=4,ap:=0} else h
def gu (p:aA) (f:Frame) (v:Int):ae:=
 let h:=hW p f v
 if h.ar=1∨h.ar=2 then(if fi p (dH p f v) v=true then{h with ar:=2,ao:=true} else{h with ar:=1}) else h
def p1 (p:aA) (f:Frame) (v:Int):List Bool:=List.zipWith (fun b x=>b || dW (dH p f v) x) (gu p f v).ac (cR p v)
theorem RH {p:aA} {f:Frame} {v:Int} (aT:0≤v):l5 p (dH p f v) v.toNat=if(nth (dH p f v).O v).ar=0 then nth (dH p f v).O v else if(gu p f v).ar=4 then hV (cR p v) (dH p f v) (gu p f v) else gu p f v:=by
 unfold l5 gu hW cR
 rw[jD aT,jD aT,Int.toNat_of_nonneg aT]
theorem sU {p:aA} {f:Frame} {v:Int}:(hW p f v).ac=(nth (dH p f v).O v).ac∧(hW p f v).af=(nth (dH p f v).O v).af:=by
 unfold hW;simp only;split<;>exact⟨rfl,rfl⟩
theorem BY {p:aA} {f:Frame} {v:Int}:(gu p f v).ac=(nth (dH p f v).O v).ac∧(gu p f v).af=(nth (dH p f v).O v).af:=by
 rw[←sU.1,←sU.2]
 unfold gu;simp only;split
 ·split<;>exact⟨rfl,rfl⟩
 ·exact⟨rfl,rfl⟩
theorem uV {p:aA} {f:Frame} {v:Int} {h:ae} {ws:List ae} {ids:List Nat} {bs:List (List Bool)} (aH:(f.O.length:Int)≤4611686018427387904) (aZ:cr f.O.length (fun _=>false) v) (hv:decide (v<(f.O.length:Int))=true)
  (F:dg (dH p f v).O ids v h ws bs) (bX:h=l5 p (dH p f v) v.toNat):Hp p f bs ids (IntKind.i64.wrap (v+1)) ws∧cA f.O.length (IntKind.i64.wrap (v+1))<cA f.O.length v:=by
 have bm:=cI aH aZ hv rfl
 refine⟨⟨bm.1,F.ok,F.kI,?_,F.len⟩,bm.2⟩
 have aT:=aZ.1
 have hv:v<(f.O.length:Int):=by simpa using hv
 rw[jL aH aT hv,show(v+1).toNat=v.toNat+1 by omega,F.gS,bX]
 rfl
def Bo (j:Int) (k:Bool) (o:List Bool) (q:List bc) (w:List ae) (i:List Nat) (b:List (List Bool)):Prop:=gk w i b∧0≤j∧j<w.length
def ul (j:Int) (k:Bool) (o:List Bool) (q:List bc) (w:List ae) (i:List Nat) (b:List (List Bool)) (lq:List Bool) (sW:List bc) (w':List ae) (iO:List Nat) (cj:List (List Bool)):Prop:=
 gk w' iO cj∧view w' iO cj=(view w i b).set j.toNat (ha (nth (view w i b) j).ac.length)
def cW (k:Bool) (o:List Bool) (q:List bc) (w:List ae) (i:List Nat) (b:List (List Bool)):Frame:=⟨k,o,q,view w i b⟩
def Oc (s:Way) (j:Int) (k:Bool) (o:List Bool) (q:List bc) (w:List ae) (i:List Nat) (b:List (List Bool)):Prop:=
 gk w i b∧0≤j∧j<w.length∧s.ah.length≤1048576∧(∀x∈s.ah,0≤x∧x<o.length)∧(nth (view w i b) j).ac.length=s.ah.length∧0≤(nth (view w i b) j).af∧(nth (view w i b) j).af≤s.ah.length
def y4 (s:Way) (j:Int) (k:Bool) (o:List Bool) (q:List bc) (w:List ae) (i:List Nat) (b:List (List Bool)) (lq:List Bool) (sW:List bc) (w':List ae) (iO:List Nat) (cj:List (List Bool)):Prop:=
 gk w' iO cj∧view w' iO cj=(view w i b).set j.toNat (hV s.ah (cW k o q w i b) (nth (view w i b) j))
def Hq (p:aA) (k:Bool) (o:List Bool) (q:List bc) (w:List ae) (i:List Nat) (b:List (List Bool)):Prop:=gk w i b∧tc p (cW k o q w i b)
def zr (p:aA) (k:Bool) (o:List Bool) (q:List bc) (w:List ae) (i:List Nat) (b:List (List Bool)) (lq:List Bool) (sW:List bc) (w':List ae) (iO:List Nat) (cj:List (List Bool)):Prop:=
 gk w' iO cj∧view w' iO cj=(d_ p (cW k o q w i b)).O
def Pe (f g:Frame):Prop:=f.O.length=g.O.length∧jr f∧jr g∧ ∀(i:Nat) (x y:ae),f.O[i]?=some x→g.O[i]?=some y→x.ac.length=y.ac.length
def og (f g:Frame):Bool:=decide (f.O=g.O)
def Lb (p:aA) (f:Frame) (i:Int):Prop:=r_ p∧jr f∧f.O.length=p.O.length∧0≤i∧i<p.O.length
def g9 (p:aA) (f:Frame) (i:Int):Bool:=
 let h:=nth f.O i
 let n:=(nth p.O i).ah.length
 b0 h.ar 0 4&&decide (h.ac.length=n)&&b0 h.af 0 ((n:Int) - 1)&&(decide (h.ar=4) || (decide (h.af=0)&&h.ac.all (fun b=> !b)))&&(h.ac.take h.af.toNat).all (fun b=>b)&&
 (if h.ar=3 then h.ao&&b0 h.ap 1 p.dl else decide (h.ap=0)&&(decide (h.ar≠0) || !h.ao)&&(decide (h.ar≠2) || h.ao))
def CY (p:aA) (f:Frame):Bool:=(List.range f.O.length).all fun i=>(List.range f.O.length).all fun k=>decide (i=k) || !rb p i k || decide ((nth f.O i).ar=0) || decide ((nth f.O k).ar=0)
def eV (p:aA) (f:Frame):Bool:=
 dQ p&&f.ok&&decide ((f.aw.length:Int)=p.ah)&&decide (f.au.length=p.bd.length)&&decide (f.O.length=p.O.length)&&
 f.au.all (fun x=>b0 x.cy 1 2&&b0 x.a2 0 2)&&(List.range f.O.length).all (fun i=>g9 p f i)&&CY p f&&og f (d_ p f)
def x5 (p:aA) (f:Frame):Prop:=jr f
theorem vZ {xs:List Bool} {b:Bool}:jR xs b=true↔b∈xs:=by unfold jR;simp
theorem Xt (xs:List Bool) (x:Bool):(decide (rK xs x ≥ 0))=jR xs x:=by
 unfold rK
 cases h:first xs (fun y=>x==y) with
 | none=>
  unfold first at h
  rw[List.findIdx?_eq_none_iff] at h
  have:jR xs x=false:=by
   rw[←Bool.not_eq_true,vZ]
   intro hm
   have:=h x hm
   simp at this
  rw[this];rfl
 | some i=>
  unfold first at h
  rw[List.findIdx?_eq_some_iff_getElem] at h
  obtain⟨hi,hx,_⟩:=h
  have:jR xs x=true:=by
   rw[vZ]
   have hx:x=xs[i]:=by simpa using hx
   rw[hx];exact List.getElem_mem hi
  rw[this]
  show decide ((i:Int) ≥ 0)=true
  simp
def uS (a b:Frame):Bool:=eqv a.aw b.aw&&eqv a.au b.au&&eqv a.O b.O
def vK (a b:List ae) (_:Unit):Bool:=eqv a b
def qy (f:Frame) (l:ct):Bool:=((nth f.au l.sw).cy !=l.bn) || ((nth f.au l.sw).a2 !=l.bn)
def Ot (p:aA) (f:Frame) (i:Int):Prop:= ∀l∈bz (nth p.O i),qy f l=false
theorem GQ (p:aA) (f:Frame) (i:Int):fi p f i=((bz (nth p.O i)).all (fun l=> !qy f l)&& !fX f (nth p.O i).ah&& !fX f (nth p.O i).cG):=by
 have ak: ∀l:ct,decide (nth f.au l.sw=⟨l.bn,l.bn⟩)= !qy f l:=fun l=>by
  unfold qy
  rcases nth f.au l.sw with⟨x,y⟩
  rw[Bool.eq_iff_iff];simp
 unfold fi
 simp only[ak]
theorem IR {α:Type} {x y:α} {v:Int} (aT:0≤v) (h1:v.toNat<[x,y].length):v=0∨v=1:=by simp at h1;omega
theorem gk.ow {w:List ae} {i:List Nat} {b:List (List Bool)} {j:Int} (F:gk w i b) (h:j.toNat<w.length):dg (view w i b) i j (nth (view w i b) j) w b:=dg.start F.ok F.kI h rfl F.len
section
variable {V:List ae} {ids c9:List Nat} {v:Int} {h x:ae} {ws ks:List ae} {bs ma:List (List Bool)}
theorem dg.G (F:dg V ids v h ws bs):gk ws ids bs:=⟨F.ok,F.kI,F.len⟩
theorem dg.wR (F:dg V ids v h ws bs):nth (view ws ids bs) v=h:=by
 rw[gE (by rw[i_ F.ok];exact F.lt)]
 simp only[F.gS,List.getElem_set_self]
theorem dg.again (F:dg V ids v h ws bs) (G:gk ks c9 ma) (e:view ks c9 ma=(view ws ids bs).set v.toNat x):dg V c9 v x ks ma where
 ok:=G.ok
 kI:=G.kI
 lt:=by
  have:=congrArg List.length e
  rw[i_ G.ok,List.length_set,i_ F.ok] at this
  have:=F.lt;omega
 gS:=by rw[e,F.gS,List.set_set]
 len:=G.len
end
theorem Oa {s:List Int} {f g:Frame} {h:ae} (e:f.aw=g.aw):hV s f h=hV s g h:=by
 have aC:dW f=dW g:=by funext x;unfold dW;rw[e]
 have hg: ∀(ac:List Bool) (n q:Nat),gB s f ac n q=gB s g ac n q:=fun ac n=>by
  induction n with
  | zero=>intro q;rfl
  | succ n bR=>intro q;unfold gB;rw[aC,bR]
 unfold hV
 simp only[aC,hg]
def nr (s:List Int) (f:Frame) (h:ae):List Bool:=List.zipWith (fun b x=>b || dW f x) h.ac s
theorem N_ (s:List Int) (f:Frame) (h:ae):hV s f h=if gB s f (nr s f h) s.length h.af.toNat=s.length then ha s.length else{h with ac:=nr s f h,af:=gB s f (nr s f h) s.length h.af.toNat}:=rfl
def aac (s:List Int) (f:Frame) (V:List ae) (ids:List Nat) (j:Int) (ws:List ae) (bs:List (List Bool)) (k:Int):Prop:=
 cr s.length (fun _=>false) k∧dg V ids j {nth V j with ac:=j2 s f (nth V j).ac k.toNat} ws bs
def aad (s:List Int) (f:Frame) (V:List ae) (ids:List Nat) (j:Int) (bs:List (List Bool)) (ws:List ae):Prop:=
 ∃g,vV s f (nr s f (nth V j)) (nth V j).af g∧dg V ids j {nth V j with ac:=nr s f (nth V j),af:=g} ws bs
theorem aei {s:List Int} {f:Frame} {ac:List Bool} {g:Int} (hs:s.length≤1048576) (h:decide (g<(s.length:Int))=true):
  ((!(nth ac g)) || ((nth f.aw (nth s g)) || ((decide (g<(IntKind.i64.wrap ((s.length:Int) - 1))))&&(!(nth ac (IntKind.i64.wrap (g+1)))))))= !nf s f ac g:=by
 unfold nf
 rw[h,Bool.true_and,fw (n:=(s.length:Int) - 1) (by omega) (by omega)]
 have:(g==(s.length:Int) - 1)= !decide (g<(s.length:Int) - 1):=by
  have h:g<(s.length:Int):=by simpa using h
  rw[Bool.eq_iff_iff];simp;omega
 rw[this]
 cases nth ac g<;>cases nth f.aw (nth s g)<;>cases decide (g<(s.length:Int) - 1)<;>cases nth ac (IntKind.i64.wrap (g+1))<;>rfl
def o6:List (Nat×TV)→Bool
 | []=>true
 | (k,_)::r=>match Nat.ble 1000010 k&&Nat.blt k 1000000000000 with
  | true=>o6 r
  | false=>false
theorem z8 {l:List (Nat×TV)} (h:o6 l=true) {k:Nat} (hk:k<1000010∨1000000000000≤k): ∀v,(k,v) ∉ l:=by
 induction l with
 | nil=>intro v hv;cases hv
 | cons p r bR=>
  obtain⟨a,w⟩:=p
  unfold o6 at h
  split at h
  ·rename_i a3
   rw[Bool.and_eq_true,Nat.blt_eq] at a3
   intro v hv
   rcases List.mem_cons.1 hv with e | hv
   ·cases e;have:=Nat.le_of_ble_eq_true a3.1;have:=a3.2;omega
   ·exact bR h v hv
  ·cases h
def TS.add (s:TS) (l:List (Nat×TV)) (vs:List (Nat×Nat)) (bp:Nat):TS:=⟨l++s.T,s.B,vs,bp⟩
theorem TS.iK (s:TS) (l:List (Nat×TV)) (vs:List (Nat×Nat)) (bp k:Nat):(s.add l vs bp).get k=fN l k (s.get k):=by
 unfold TS.get TS.add;exact rR ..
theorem xK {n:Nat} {s:TS} {l:List (Nat×TV)} {vs:List (Nat×Nat)} {bp:Nat} (aH:n≤1000000) (h:o6 l=true):(s.add l vs bp).tT n=s.tT n:=by
 show(List.range n).map _=(List.range n).map _
 refine List.map_congr_left fun t br=> ?_
 have br:t<n:=List.mem_range.1 br
 rw[TS.iK,sK (z8 h (.inl (by omega)))]
theorem BH {s s':TS} (e:s'.get dC=s.get dC):ii s'=ii s:=by unfold ii;rw[e]
theorem Iw [FZ] {n:Nat} {s s':TS} (hb:s'.bp=s.bp) (e: ∀b,s'.get (bD b)=s.get (bD b)) (dP:s'.get dC=s.get dC):(s'.aJ n).H=(s.aJ n).H:=by
 show s'.gg++gY s'=s.gg++gY s
 unfold TS.gg gY
 rw[BH dP,hb]
 simp only[e]
theorem xJ [FZ] {n:Nat} {s:TS} {l:List (Nat×TV)} {vs:List (Nat×Nat)} (h:o6 l=true):((s.add l vs s.bp).aJ n).H=(s.aJ n).H:=
 Iw rfl (fun b=>by rw[TS.iK,sK (z8 h (.inr (by unfold bD;omega)))]) (by rw[TS.iK,sK (z8 h (.inl (by unfold dC;omega)))])
theorem xL [FZ] {s:TS} {l:List (Nat×TV)} {vs:List (Nat×Nat)} {bp:Nat} (h:o6 l=true) (f:Fits s):Fits (s.add l vs bp):=
 f.congr fun k _ h2=>by rw[TS.iK,sK (z8 h (.inl h2))]
def tD (v:Nat):Nat→List TV→List (Nat×TV)
 | _,[]=>[]
 | c,a::r=>(e6 v c,a)::tD v (c+1) r
def TS.gJ (s:TS) (b bp:Nat) (v:TV):TS:=s.add [(bD b,v)] s.vs bp
theorem C4 (s:TS) {b bp:Nat} {v:TV} {k:Nat} (h:k<1000000000000):(s.gJ b bp v).get k=s.get k:=by
 unfold TS.gJ
 rw[TS.iK,gD,if_neg (by unfold bD;omega)];rfl
theorem p4 {n:Nat} {s:TS} {b bp:Nat} {v:TV} (aH:n≤1000000):(s.gJ b bp v).tT n=s.tT n:=by
 show(List.range n).map _=(List.range n).map _
 refine List.map_congr_left fun t br=> ?_
 have br:t<n:=List.mem_range.1 br
 rw[C4 s (by omega)]
theorem p5 [FZ] {s:TS} {b bp:Nat} {v:TV} (f:Fits s):Fits (s.gJ b bp v):=f.congr fun k _ h2=>C4 s (by omega)
theorem Jz {s:TS} {b bp:Nat} {v:TV}:ii (s.gJ b bp v)=ii s:=BH (C4 s (by unfold dC;omega))
theorem Jy (s:TS) (b bp:Nat) (v:TV) (cj:Nat):(s.gJ b bp v).get (bD cj)=if b=cj then v else s.get (bD cj):=by
 unfold TS.gJ
 rw[TS.iK,gD]
 by_cases h:b=cj
 ·subst h;rw[if_pos rfl,if_pos rfl]
 ·rw[if_neg h,if_neg (by unfold bD;omega)];rfl
theorem tz [FZ] {n:Nat} {s:TS} {b:Nat} {v:TV} (h:b<s.bp):((s.gJ b s.bp v).aJ n).H=(s.aJ n).H.set b v.ea:=by
 show(s.gJ b s.bp v).gg++gY (s.gJ b s.bp v)=(s.gg++gY s).set b v.ea
 rw[List.set_append_left _ _ (by rw[m4];exact h)]
 have e2:gY (s.gJ b s.bp v)=gY s:=by unfold gY;rw[Jz]
 rw[e2]
 congr 1
 apply List.ext_getElem?
 intro i
 rw[pO,List.getElem?_set,pO,m4,Jy]
 show(if i<s.bp then _ else _)=_
 by_cases hi:b=i
 ·subst hi;simp[h]
 ·simp[hi]
theorem Aa [FZ] {n:Nat} {s:TS} {v:TV} (c5:ii s=true):((s.gJ s.bp (s.bp+1) v).aJ n).H=(s.aJ n).H++[v.ea]:=by
 show(s.gJ s.bp (s.bp+1) v).gg++gY (s.gJ s.bp (s.bp+1) v)=(s.gg++gY s)++[v.ea]
 unfold gY
 rw[Jz,c5]
 show(s.gJ s.bp (s.bp+1) v).gg++[]=(s.gg++[])++[v.ea]
 rw[List.append_nil,List.append_nil]
 apply List.ext_getElem?
 intro i
 rw[pO,Jy]
 show(if i<s.bp+1 then _ else _)=_
 rcases Nat.lt_trichotomy i s.bp with h | h | h
 ·rw[if_pos (by omega),if_neg (by omega),List.getElem?_append_left (by rw[m4];exact h),pO,if_pos h]
 ·subst h
  rw[if_pos (by omega),if_pos rfl,List.getElem?_append_right (by rw[m4];exact Nat.le_refl _),m4];simp
 ·rw[if_neg (by omega),List.getElem?_eq_none (by rw[List.length_append,m4];simp;omega)]
def u1 (P:Program) (t:TypeId) (v:AV):Bool:=(P.info? t).isSome&&Nat.beq (e8 v).length (P.cellsOf t)&&(e8 v).all iX
theorem Cs {P:Program} {t:TypeId} {v:AV} (h:u1 P t v=true):(P.info? t).isSome=true∧(e8 v).length=P.cellsOf t∧(e8 v).all iX=true:=by
 simp only[u1,Bool.and_eq_true] at h
 exact⟨h.1.1,Nat.eq_of_beq_eq_true h.1.2,h.2⟩
def Ix (P:Program) (n:Nat) (t:TypeId) (b g:Nat) (i:Int) (m c:Nat) (v:TV) (s:TS) (K:TS→aV):aV:=match wP v with
 | false=> .no
 | true=>rc s b g fun e xs fq h=>xW s e.kF ((gA true e (sP e xs i)).take c++p7 v++(gA true e (sP e xs i)).drop (c+(p7 v).length)) fun CI _=>
  let y:=e.mk CI
  let s':=s.gJ b s.bp (.blk g e (xs.set i.toNat y) fq (by rw[List.length_set];exact h))
  .eq fq m (.eq (u1 P t v.bE) true (.eq (Nat.ble (c+(e8 v.bE).length) e.lX) true (.eq (fa (b6 true e (sP e xs i)) c (e8 v.bE)) (b6 true e y) (.eq s'.cn s.cn (.p (i.toNat<m) (K s'))))))
def BC (P:Program) (t:TypeId):Option (List AV×Nat):=match jf P t with
 | some e=>(match m6 P e with
  | some z=>(match Nat.beq z.length (P.cellsOf e)&&z.all iX with
   | true=>some (z.map mz,P.bytesOf e)
   | false=>none)
  | none=>none)
 | none=>none
theorem NI {P:Program} {t:TypeId} {Sa:List AV} {B:Nat} (h:BC P t=some (Sa,B)): ∃e z,jf P t=some e∧m6 P e=some z∧z.length=P.cellsOf e∧z.all iX=true∧Sa=z.map mz∧B=P.bytesOf e:=by
 unfold BC at h
 split at h
 ·rename_i e he
  split at h
  ·rename_i z aP
   split at h
   ·rename_i hc
    simp only[Bool.and_eq_true] at hc
    cases h
    exact⟨e,z,he,aP,Nat.eq_of_beq_eq_true hc.1,hc.2,rfl,rfl⟩
   ·cases h
  ·cases h
 ·cases h
def p_ (P:Program) (t:TypeId):Nat:=match jf P t with
 | some e=>P.bytesOf e
 | none=>0
def Vl (e:bI) (c:List TV):e.T:=match e.isS with
 | true=>e.mk (oA e.kF c)
 | false=>Ed e (c.getD 0 .u)
def Gr (P:Program) (n:Nat) (t:TypeId) (e:bI) (l c:TV) (s:TS) (K:TV→TS→aV):aV:=match l with
 | .i _ l=>(match c with
  | .i _ c=>
   let a8:=Vl e (match jf P t with
    | some nA=>zQ P nA
    | none=>[])
   let xs:=List.replicate l.toNat a8
   let s':=s.gJ s.bp (s.bp+1) (.blk 0 e xs xs.length rfl)
   .eq (BC P t) (some (b6 true e a8,p_ P t)) (.eq l c (.eq s'.cn s.cn (.eq (ii s) true (.p (0≤l∧(p_ P t:Int)*l≤140737488355328∧l≤4611686018427387904) (K (.ref s.bp 0 xs.length false) s')))))
  | _=> .no)
 | _=> .no
def z2 (P:Program) (t t2:TypeId) (x:AV):Option (Nat×Nat):=match jf P t with
 | some e=>(match m6 P e with
  | some z=>(match Nat.beq z.length (P.cellsOf e)&&Nat.blt 0 z.length&&tx P e t2 x with
   | true=>some (z.length,P.bytesOf e)
   | false=>none)
  | none=>none)
 | none=>none
theorem Jk {P:Program} {t t2:TypeId} {x:AV} {m B:Nat} (h:z2 P t t2 x=some (m,B)): ∃e z,jf P t=some e∧m6 P e=some z∧(z.length=P.cellsOf e∧0<z.length∧tx P e t2 x=true)∧m=z.length∧B=P.bytesOf e:=by
 unfold z2 at h
 split at h
 ·rename_i e he
  split at h
  ·rename_i z aP
   split at h
   ·rename_i hc
    simp only[Bool.and_eq_true] at hc
    cases h
    exact⟨e,z,he,aP,⟨Nat.eq_of_beq_eq_true hc.1.1,by rw[←Nat.blt_eq];exact hc.1.2,hc.2⟩,rfl,rfl⟩
   ·cases h
  ·cases h
 ·cases h
def bI.flat:bI→Bool
 | .int | .u64 | .u8 | .bool | .str | .bn | .fI | .g3 | .fault=>true
 | _=>false
theorem UB {e:bI} (h:e.flat=true) (x:e.T):b6 false e x=b6 true e x:=by cases e<;>first | rfl | cases h
theorem aaQ (e:bI) (x:e.T):(b6 false e x).map oS=b6 true e x:=by
 rw[←qa,←qa]
 have key: ∀(es:List bI) (y:cX es),(lQ false es y).map oS=lQ true es y:=by
  intro es
  induction es with
  | nil=>intro y;rfl
  | cons e r bR=>
   intro y
   show oS (oz false e y.1)::(lQ false r y.2).map oS=_
   rw[bR,lQ]
   congr 1
   cases e<;>rfl
 exact key _ _
theorem OR {e:bI} {fr:Bool} (h:(fr || e.flat)=true) (xs:List e.T):lv fr (xs.map (b6 false e))=xs.map (b6 true e):=by
 cases fr with
 | true=>
  show(xs.map (b6 false e)).map (fun row=>row.map oS)=_
  rw[List.map_map]
  exact List.map_congr_left fun x _=>aaQ e x
 | false=>exact List.map_congr_left fun x _=>UB h x
def CW (P:Program) (n:Nat) (t t2:TypeId) (v x:TV) (s:TS) (K:TV→TS→aV):aV:=match x with
 | .l e ys jx fr=>(match(fr || e.flat)&&e.oN with
  | false=> .no
  | true=>(match v with
   | .nil full _=>(match full with
    | true=>
     let s':=s.gJ s.bp (s.bp+1) (.blk 0 e ys ys.length rfl)
     .eq (z2 P t t2 (TV.l e ys jx fr).bE) (some (e.lX,p_ P t)) (.eq s'.cn s.cn (.eq (ii s) true (.p (ys.length*p_ P t≤140737488355328∧ys.length≤4611686018427387904) (K (.ref s.bp 0 ys.length false) s'))))
    | false=> .no)
   | .ref b g m _=>rc s b g fun dP xs fq h=>if he:e=dP then
     let iu:=xs++lN he ys
     let s':=s.gJ b s.bp (.blk (g+1) dP iu iu.length rfl)
     .eq fq m (.eq (z2 P t t2 (TV.l e ys jx fr).bE) (some (e.lX,p_ P t)) (.eq s'.cn s.cn (.p ((xs.length+ys.length)*p_ P t≤140737488355328∧xs.length+ys.length≤4611686018427387904) (K (.ref b (g+1) iu.length false) s'))))
    else .no
   | _=> .no))
 | _=> .no
section
variable {P:Program} (cf:g8 P) (s:TS)
def x9 (o:Oper) (v:TV) (l:List (Nat×TV)) (vs:List (Nat×Nat)) (K:TV→TS→aV):aV:=match o6 l with
 | true=> .eq (fun H Q=>j9 P [] o (fun x=>(cF cf.n s x).bE) s.cn H Q) (fun H Q=>Q v.bE (s.add l vs s.bp).cn H) (K v (s.add l vs s.bp))
 | false=> .no
end
section
variable {P:Program} {cf:g8 P} {s:TS} {R:Exit→TS→Prop}
variable {K:TV→TS→aV} {Kp:AV→List (Nat×List AV)→List Blk→Prop}
theorem BL {b:Bool} {x:Prop} (h:b=true) (k:x):eR b x:=by subst h;exact k
end
section
variable {P:Program} {cf:g8 P} {s:TS} {R:Exit→TS→Prop}
variable {K:TV→TS→aV} {Kp:AV→List (Nat×List AV)→List Blk→Prop}
theorem S4 {t:TypeId} {m:Nat} {parts:List (Nat×AV)} {L:List (Nat×List AV)} {H:List Blk} {d:Option Nat} (h:vy P t m parts fun r=>Kp r L H):tC P (tI [] d) (uT []) t m parts L H Kp:=by
 obtain⟨e,he,h⟩:=fs h
 obtain⟨z,aP,h⟩:=fs h
 refine ed he (ed aP ?_)
 split at h
 ·rename_i hc
  rw[if_pos hc]
  obtain⟨cells,hf,h⟩:=fs h
  refine ed hf ?_
  split at h
  ·rename_i hb
   have:tI [] d=false:=by cases d<;>rfl
   rw[this]
   show if cells.all jv=true then _ else _
   rw[if_pos hb];exact h
  ·exact h.elim
 ·exact h.elim
end
section
variable {P:Program} {cf:g8 P} {s:TS} {R:Exit→TS→Prop}
variable {K:TV→TS→aV} {Kp:AV→List (Nat×List AV)→List Blk→Prop}
theorem OP {o:Oper} {bQ:Operand→AV} {L:List (Nat×List AV)} {H:List Blk} (h:jQ P o bQ L H fun r=>Kp r L H) (hc: ∀c,o.op≠ .call c) (hb: ∀t m ps,o.op≠ .buildSlice t m ps):j9 P [] o bQ L H Kp:=by
 have h':=Az h
 obtain⟨dst,op,ty,pos,after,guard⟩:=o
 cases op<;>first | exact h' | exact h'.elim | exact absurd rfl (hc _) | exact absurd rfl (hb _ _ _)
end
section
variable {P:Program} {cf:g8 P} {s:TS} {R:Exit→TS→Prop}
variable {K:TV→TS→aV} {Kp:AV→List (Nat×List AV)→List Blk→Prop}
theorem G9 {o:Oper} {c:Call} {bQ:Operand→AV} {L:List (Nat×List AV)} {H:List Blk} (aC:o.op= .call c) (h:jQ P o bQ L H fun r=>Kp r L H):j9 P [] o bQ L H Kp:=by
 have h':=Az h
 obtain⟨dst,op,ty,pos,after,guard⟩:=o
 cases aC
 obtain⟨callee,args,argTypes⟩:=c
 cases callee with
 | builtin b=>
  cases b with
  | len=>exact h'
  | _=>exact h'.elim
 | value f=>
  have h':lM (bQ f) fun g caps=>ox P g (args.toList.map bQ++caps) L H fun r=>Kp r L H:=h'
  show lM (bQ f) fun g caps=>lf P g (args.toList.map bQ++caps) L H Kp
  cases hf:bQ f with
  | fn g caps=>rw[hf] at h';exact .inl h'
  | _=>rw[hf] at h';exact h'.elim
 | _=>exact h'.elim
end
section
variable {P:Program} {cf:g8 P} {s:TS} {R:Exit→TS→Prop}
variable {K:TV→TS→aV} {Kp:AV→List (Nat×List AV)→List Blk→Prop}
theorem aaN {o:Oper} {t:TypeId} {m:Nat} {ps:Array (Nat×Operand)} {bQ:Operand→AV} {L:List (Nat×List AV)} {H:List Blk} (aC:o.op= .buildSlice t m ps) (h:jQ P o bQ L H fun r=>Kp r L H):j9 P [] o bQ L H Kp:=by
 have h':=Az h
 obtain⟨dst,op,ty,pos,after,guard⟩:=o
 cases aC
 obtain⟨h1,h2⟩:=pE (show eR (ps.toList.all fun p=>eQ (bQ p.2)) (vy P t m (ps.toList.map fun p=>(p.1,bQ p.2)) fun r=>Kp r L H) from h')
 show eR (ps.toList.all fun p=>eQ (bQ p.2)) (tC P (tI [] dst) (uT []) t m (ps.toList.map fun p=>(p.1,bQ p.2)) L H Kp)
 rw[h1];exact S4 h2
end
section
variable [Z:FZ] {P:Program} {cf:g8 P} {s:TS} {R:Exit→TS→Prop}
def vo (cf:g8 P) (s:TS) (R:Exit→TS→Prop) (K:TV→TS→aV) (Kp:oh Prop):Prop:=
 ∀v s' (Z':FZ),(K v s').den R→ @Fits Z' s'→s'.tT cf.n=s.tT cf.n→Kp v.bE s'.cn (@TS.aJ Z' cf.n s').H
variable {K:TV→TS→aV} {Kp:AV→List (Nat×List AV)→List Blk→Prop}
theorem aea (aH:cf.n≤1000000) {t:TypeId} {b g m c:Nat} {i:Int} {v:TV} {K:TS→aV} {Kp:List (Nat×List AV)→List Blk→Prop} (aP:Fits s) (hK: ∀s' (Z':FZ),(K s').den R→ @Fits Z' s'→s'.tT cf.n=s.tT cf.n→Kp s'.cn (@TS.aJ Z' cf.n s').H) (h:(Ix P cf.n t b g i m c v s K).den R):
  eR (eQ v.bE) (l4 P t (.ptr b g i.toNat c) v.bE (s.aJ cf.n).L (s.aJ cf.n).H Kp):=by
 unfold Ix at h
 split at h
 ·exact h.elim
 ·rename_i hv
  obtain⟨e,xs,fq,hm,h,hb,aR⟩:=vu (n:=cf.n) h
  obtain⟨CI,o,h,_⟩:=Ah aP (n:=cf.n) h
  obtain⟨h1,h2,aN,be,ci,cK,h⟩:=h
  refine BL (BK hv) ?_
  have bf:i.toNat<xs.length:=by omega
  have hs:=Cs h2
  unfold l4
  rw[if_pos hs]
  refine ed aR ⟨rfl,ed (Gu bf true) ⟨?_,?_⟩⟩
  ·rw[rh];exact Nat.le_of_ble_eq_true aN
  ·have:=hK _ Z h (p5 aP) (p4 aH)
   rw[tz hb,ci] at this
   rw[be]
   have bB: ∀y:e.T,(xs.map (b6 true e)).set i.toNat (b6 true e y)=(xs.set i.toNat y).map (b6 true e):=fun y=>by rw[List.map_set]
   rw[bB];exact this
theorem ZT (aH:cf.n≤1000000) (aP:Fits s) {t:TypeId} {e:bI} {l c:TV} (hK:vo cf s R K Kp) (h:(Gr P cf.n t e l c s K).den R):wH P t l.bE c.bE (s.aJ cf.n).L (s.aJ cf.n).H Kp:=by
 unfold Gr at h
 split at h
 ·split at h
  ·obtain⟨h1,h2,aN,c5,be,h⟩:=h
   rename_i BB lW l oy Za c
   subst h2
   obtain⟨nA,z,q1,q2,q3,q4,cH,cV⟩:=NI h1
   refine ed q1 (ed q2 ?_)
   rw[if_pos ⟨q3,q4⟩]
   refine⟨be.1,Int.le_refl _,by rw[←cV];exact be.2.1,be.2.2,?_⟩
   have:=hK _ _ Z h (p5 aP) (p4 aH)
   rw[Aa c5,aN] at this
   rw[Cu c5,←cH]
   have aP:z.length=e.lX:=by
    have:=congrArg List.length cH
    rw[List.length_map,rh] at this;exact this.symm
   rw[aP]
   have aL: ∀a8:e.T,(List.replicate l.toNat a8).length=l.toNat:=fun a8=>List.length_replicate
   show Kp (.ref s.bp 0 0 l.toNat false) _ ((s.aJ cf.n).H++[⟨0,e.lX,List.replicate l.toNat (b6 true e _)⟩])
   rw[←List.map_replicate]
   have this:Kp (.ref s.bp 0 0 (List.replicate l.toNat _).length false) (s.aJ cf.n).L ((s.aJ cf.n).H++[⟨0,e.lX,(List.replicate l.toNat _).map (b6 true e)⟩]):=this
   rw[aL] at this
   exact this
  ·exact h.elim
 ·exact h.elim
theorem SK (aH:cf.n≤1000000) (aP:Fits s) {t t2:TypeId} {v x:TV} (hK:vo cf s R K Kp) (h:(CW P cf.n t t2 v x s K).den R):eQ v.bE=true∧eQ x.bE=true∧tw P t t2 v.bE x.bE (s.aJ cf.n).L (s.aJ cf.n).H Kp:=by
 unfold CW at h
 split at h
 ·rename_i e ys jx fr
  split at h
  ·exact h.elim
  ·rename_i hc
   simp only[Bool.and_eq_true] at hc
   have eL: ∀(iu:List e.T) (k:Nat),e.lX=k→qL k (iu.map (b6 true e)):=fun iu k hk row aK=>by
    obtain⟨y,_,rfl⟩:=List.mem_map.1 aK
    refine⟨by rw[rh,hk],fun a a3=>List.all_eq_true.1 (Ud (fr:=true) hc.2 y) a a3⟩
   have dV: ∀{nA},jf P t=some nA→p_ P t=P.bytesOf nA:=fun h=>by unfold p_;rw[h]
   split at h
   ·split at h
    ·rename_i full ae9
     obtain⟨h1,h2,c5,aN,h⟩:=h
     obtain⟨nA,z,q1,q2,q3,q4,cH⟩:=Jk h1
     refine⟨rfl,rfl,ed q1 (ed q2 ?_)⟩
     rw[if_pos q3]
     show _∧_
     have hx:lv fr (List.map (b6 false e) ys)=ys.map (b6 true e):=OR hc.1 ys
     rw[hx]
     refine⟨eL ys _ q4,rfl,(fun row h=>by cases h),?_,?_,(fun h=>absurd rfl h),?_⟩
     ·rw[List.length_map,←dV q1];simpa using aN.1
     ·rw[List.length_map];simpa using aN.2
     ·have:=hK _ _ Z h (p5 aP) (p4 aH)
      rw[Aa c5,h2] at this
      rw[Cu c5,←q4,List.length_map]
      simp only[List.length_nil,Nat.zero_add,List.nil_append]
      exact this
    ·exact h.elim
   ·rename_i b g m en
    obtain⟨dP,xs,fq,hm,h,hb,aR⟩:=vu (n:=cf.n) h
    split at h
    ·rename_i he
     subst he
     obtain⟨h1,h2,aN,be,tJ⟩:=h
     subst h1
     obtain⟨nA,z,q1,q2,q3,q4,cH⟩:=Jk h2
     refine⟨rfl,rfl,ed q1 (ed q2 ?_)⟩
     rw[if_pos q3]
     show _∧_
     have hx:lv fr (List.map (b6 false e) ys)=ys.map (b6 true e):=OR hc.1 ys
     rw[hx]
     refine⟨eL ys _ q4,rfl,ed aR ⟨rfl,q4,by rw[List.length_map];exact hm,?_,?_,?_⟩⟩
     ·rw[List.length_map,←hm,←dV q1];exact be.1
     ·rw[List.length_map,←hm];exact be.2
     ·have:=hK _ _ Z tJ (p5 aP) (p4 aH)
      rw[tz hb,aN] at this
      rw[←q4,List.length_map,←hm,←List.map_append,←List.length_append]
      exact this
    ·exact h.elim
   ·exact h.elim
 ·exact h.elim
theorem Ej (aH:cf.n≤1000000) (aP:Fits s) {o:Oper} {v:TV} {l:List (Nat×TV)} {vs:List (Nat×Nat)} (hK:vo cf s R K Kp) (h:(x9 cf s o v l vs K).den R):j9 P [] o (cm (s.aJ cf.n).T) (s.aJ cf.n).L (s.aJ cf.n).H Kp:=by
 unfold x9 at h
 split at h
 ·rename_i hb
  obtain⟨e,h⟩:=h
  rw[k0,show(fun x=>(cF cf.n s x).bE)=(fun x=>(cF cf.n s x).bE) from rfl]
  have e:=congrFun (congrFun e (s.aJ cf.n).H) Kp
  have e:j9 P [] o (fun x=>(cF cf.n s x).bE) (s.aJ cf.n).L (s.aJ cf.n).H Kp=_:=e
  rw[e]
  have:=hK _ _ Z h (xL hb aP) (xK aH hb)
  rw[xJ hb] at this;exact this
 ·exact h.elim
end
def F1:TV→Bool
 | .kr _ _ _=>true
 | _=>false
theorem S0 {Z Z':FZ} {v:TV} (h:F1 v=false): @TV.ea Z' v= @TV.ea Z v:=by cases v<;>first | rfl | cases h
def y1 (s:TS) (b:Nat):Nat→Bool
 | 0=>true
 | k+1=>(Nat.beq k b || !F1 (s.get (bD k)))&&y1 s b k
theorem NZ {s:TS} {b:Nat}: ∀{n:Nat},y1 s b n=true→ ∀k,k<n→k≠b→F1 (s.get (bD k))=false
 | 0,_,k,h,_=>by omega
 | n+1,h,k,hk,ck=>by
  simp only[y1,Bool.and_eq_true,Bool.or_eq_true,Bool.not_eq_true'] at h
  rcases Nat.lt_or_ge k n with q | q
  ·exact NZ h.2 k q ck
  ·have:k=n:=by omega
   subst this
   rcases h.1 with e | e
   ·exact absurd (Nat.eq_of_beq_eq_true e) ck
   ·exact e
theorem aeA {Z Z':FZ} {n:Nat} {s s':TS} {b g m:Nat} {ids:List Nat} {V I_:List ae} {Xr:List Nat} {bT NW:Nat} {hv:V.length=bT} {ki:I_.length=NW} (hb:b<s.bp) (wg:s'.bp=s.bp) (he: ∀k,k≠b→s'.get (bD k)=s.get (bD k)) (hg:s'.get (bD b)= .kr g m ids) (hw:y1 s b s.bp=true)
  (h1:s.get dC= .gX V Xr bT hv) (h2:s'.get dC= .gX I_ ids NW ki):(@TS.aJ Z' n s').H=(@TS.gg Z s).set b ⟨g,5,a0 m Z'.ws ids⟩++List.map bk Z'.bs:=by
 rw[rk h2]
 congr 1
 apply List.ext_getElem?
 intro i
 rw[@pO Z' s' i,List.getElem?_set,@pO Z s i,@m4 Z s,wg]
 by_cases hi:b=i
 ·subst hi;rw[if_pos hb,if_pos rfl,if_pos hb,hg];rfl
 ·rw[if_neg hi,he i (fun e=>hi e.symm)]
  by_cases h:i<s.bp
  ·rw[if_pos h,if_pos h,S0 (Z:=Z) (NZ hw i h (fun e=>hi e.symm))]
  ·rw[if_neg h,if_neg h]
theorem zA {n:Nat} {s:TS} {l:List (Nat×TV)} (aH:n≤1000000) (h: ∀p∈l,1000000≤p.1):(s.add l s.vs s.bp).tT n=s.tT n:=by
 show(List.range n).map _=(List.range n).map _
 refine List.map_congr_left fun t br=> ?_
 have br:t<n:=List.mem_range.1 br
 rw[TS.iK,sK fun v hv=>by have:=h _ hv;simp only at this;omega]
def Ho (c:Nat) (v:TV) (h:ae) (K:ae→aV):aV:=match v with
 | .i k x=>if k= .i64 then(match c with
  | 0=>K {h with ar:=x}
  | 1=>K {h with af:=x}
  | 4=>K {h with ap:=x}
  | _=> .no) else .no
 | .b x=>(match c with
  | 3=>K {h with ao:=x.den}
  | _=> .no)
 | _=> .no
theorem Ph {c:Nat} {v:TV} {w:ae} {b:List Bool} {K:ae→aV} {R:Exit→TS→Prop} (h:(Ho c v {w with ac:=b} K).den R):
  ∃x:ae,x.ac=w.ac∧(K {x with ac:=b}).den R∧(∀m id,fa (ka m w id) c (e8 v.bE)=ka m x id)∧c+(e8 v.bE).length≤5:=by
 unfold Ho at h
 split at h
 ·rename_i k x
  split at h
  ·rename_i hk
   subst hk
   split at h
   ·exact⟨{w with ar:=x},rfl,h,fun m id=>rfl,(show(0+1:Nat)≤5 by decide)⟩
   ·exact⟨{w with af:=x},rfl,h,fun m id=>rfl,(show(1+1:Nat)≤5 by decide)⟩
   ·exact⟨{w with ap:=x},rfl,h,fun m id=>rfl,(show(4+1:Nat)≤5 by decide)⟩
   ·exact h.elim
  ·exact h.elim
 ·rename_i x
  split at h
  ·exact⟨{w with ao:=x.den},rfl,h,fun m id=>rfl,(show(3+1:Nat)≤5 by decide)⟩
  ·exact h.elim
 ·exact h.elim
theorem gk.Zj {ws:List ae} {ids:List Nat} {bs:List (List Bool)} (G:gk ws ids bs) {i id:Nat} {x:ae} (hi:i<ws.length) (h1:id<bs.length) (h2:bs.getD id []=x.ac) (aN: ∀j:Nat,ids[j]?≠some id):
  gk (ws.set i x) (ids.set i id) bs∧view (ws.set i x) (ids.set i id) bs=(view ws ids bs).set i x:=by
 have aL:=G.ok.len
 refine⟨⟨⟨by rw[List.length_set,List.length_set];exact aL,fun j k hk=> ?_,fun j k h a3 hk=> ?_⟩,fun a b k a3 hb=> ?_,G.len⟩,?_⟩
 ·rw[List.getElem?_set] at hk
  split at hk
  ·split at hk
   ·cases hk;exact h1
   ·cases hk
  ·exact G.ok.lt j k hk
 ·rw[List.getElem?_set] at a3 hk
  split at a3
  ·rename_i e;subst e
   rw[if_pos rfl,if_pos (by omega)] at hk
   cases a3;cases hk;rw[h2]
  ·rename_i e
   rw[if_neg e] at hk
   exact G.ok.ac j k h a3 hk
 ·rw[List.getElem?_set] at a3 hb
  split at a3
  ·split at a3
   ·cases a3
    split at hb
    ·rename_i bB _ e2;omega
    ·exact absurd hb (aN b)
   ·cases a3
  ·split at hb
   ·split at hb
    ·cases hb;exact absurd a3 (aN a)
    ·cases hb
   ·exact G.kI a b k a3 hb
 ·apply List.ext_getElem?
  intro j
  unfold view
  rw[List.getElem?_zipWith,List.getElem?_set,List.getElem?_set,List.getElem?_set,List.getElem?_zipWith,List.length_zipWith]
  by_cases e:i=j
  ·subst e
   rw[if_pos rfl,if_pos rfl,if_pos rfl,if_pos hi,if_pos (by omega),if_pos (by omega)]
   show some ({x with ac:=bs.getD id []}:ae)=some x
   rw[h2]
  ·rw[if_neg e,if_neg e,if_neg e]
theorem gk.snoc {ws:List ae} {ids:List Nat} {bs:List (List Bool)} (G:gk ws ids bs) {xs:List Bool} (hx:xs.length≤1048576):gk ws ids (bs++[xs])∧view ws ids (bs++[xs])=view ws ids bs:=by
 have hg: ∀id,id<bs.length→(bs++[xs]).getD id []=bs.getD id []:=fun id h=>by
  rw[List.getD_eq_getElem?_getD,List.getD_eq_getElem?_getD,List.getElem?_append_left h]
 refine⟨⟨⟨G.ok.len,fun i id h=>by have:=G.ok.lt i id h;rw[List.length_append];omega,fun i id h h1 h2=>by rw[hg id (G.ok.lt i id h2)];exact G.ok.ac i id h h1 h2⟩,G.kI,fun b hb=> ?_⟩,?_⟩
 ·rcases List.mem_append.1 hb with hb | hb
  ·exact G.len b hb
  ·rw[List.mem_singleton.1 hb];exact hx
 ·apply List.ext_getElem?
  intro j
  unfold view
  rw[List.getElem?_zipWith,List.getElem?_zipWith]
  cases h1:ws[j]? with
  | none=>rfl
  | some w=>
   cases h2:ids[j]? with
   | none=>rfl
   | some id=>simp only[hg id (G.ok.lt j id h2)]
def IB (P:Program) (t:TypeId) (b g:Nat) (i:Int) (c:Nat) (v:TV) (s:TS) (dB hF:Nat) (ids:List Nat) (K:TS→aV):aV:=match s.get dC with
 | .gX V c9 bT hv=> .eq dB g (.eq c9 ids (.eq (Nat.blt b s.bp&&y1 s b s.bp&&u1 P t v.bE) true (match v with
  | .agg l=>(match l with
   | [.i ei aJ,.i ih go,.yZ id m k,.b hq,.i pz oV]=>(match s.get fV with
    | .new gm xs=>
     let s':=s.add [(dC,.gX (V.set i.toNat (ae.mk aJ go xs hq.den oV)) (ids.set i.toNat id) bT ((List.length_set ..).trans hv)),(bD b,.kr g hF (ids.set i.toNat id)),(fV,.u)] s.vs s.bp
     .eq c 0 (.eq (ei,ih,pz) (IntKind.i64,IntKind.i64,IntKind.i64) (.eq gm id (.eq m hF (.eq k xs.length (.eq s'.cn s.cn (.p (i.toNat<V.length) (K s')))))))
    | _=> .no)
   | _=> .no)
  | v=>Ho c v (nth V i) fun y=>
   let s':=s.add [(dC,.gX (V.set i.toNat y) ids bT ((List.length_set ..).trans hv))] s.vs s.bp
   .eq s'.cn s.cn (.p (i.toNat<V.length) (K s')))))
 | _=> .no
section
variable [Z:FZ] {P:Program} {cf:g8 P} {s:TS} {R:Exit→TS→Prop}
theorem ael (aH:cf.n≤1000000) {t:TypeId} {b g c dB hF:Nat} {ids:List Nat} {i:Int} {v:TV} {K:TS→aV} {Kp:List (Nat×List AV)→List Blk→Prop} (aP:Fits s) (hg:s.get (bD b)= .kr dB hF ids)
  (hK: ∀s' (Z':FZ),(K s').den R→ @Fits Z' s'→s'.tT cf.n=s.tT cf.n→Kp s'.cn (@TS.aJ Z' cf.n s').H) (h:(IB P t b g i c v s dB hF ids K).den R):
  l4 P t (.ptr b g i.toNat c) v.bE (s.aJ cf.n).L (s.aJ cf.n).H Kp:=by
 unfold IB at h
 split at h
 ·rename_i V c9 bT kA hk
  obtain⟨h1,h2,aN,h⟩:=h
  subst h1;subst h2
  simp only[Bool.and_eq_true] at aN
  obtain⟨⟨hb,hw⟩,bm⟩:=aN
  have hb:b<s.bp:=by rw[←Nat.blt_eq];exact hb
  obtain⟨G,e,kx⟩:=aP V c9 _ _ hk
  have hs:=Cs bm
  have pr:=i_ G.ok
  rw[e] at pr
  have aR:(s.aJ cf.n).H[b]?=some ⟨dB,5,a0 hF Z.ws c9⟩:=by rw[qV hb,hg];rfl
  have VT:(s.aJ cf.n).H=s.gg++List.map bk Z.bs:=rk hk
  unfold l4
  rw[if_pos hs]
  have fin: ∀{s':TS} {ws2:List ae} {ids2:List Nat} {V2:List ae} {n2:Nat} {hv2:V2.length=n2} {cells row':List AV},i.toNat<V.length→c+cells.length≤5→fa (ka hF (nth Z.ws i) (nth c9 i)) c cells=row'→(a0 hF Z.ws c9).set i.toNat row'=a0 hF ws2 ids2→s'.bp=s.bp→(∀k,k≠b→s'.get (bD k)=s.get (bD k))→s'.get (bD b)= .kr dB hF ids2→s'.get dC= .gX V2 ids2 n2 hv2→
    s'.cn=s.cn→(K s').den R→ @Fits ⟨ws2,Z.bs⟩ s'→s'.tT cf.n=s.tT cf.n→(cU (s.aJ cf.n).H[b]? fun blk=>blk.bF=dB∧cU blk.rows[i.toNat]? fun row=>c+cells.length≤row.length∧Kp (s.aJ cf.n).L ((s.aJ cf.n).H.set b {blk with rows:=blk.rows.set i.toNat (fa row c cells)})):=by
   intro s' ws2 ids2 V2 n2 hv2 cells row' hi hc wm kX wg mN n4 Wt bY VV hf cq
   refine ed aR ⟨rfl,ed (dF G.ok.len (by omega)) ⟨hc,?_⟩⟩
   have:=hK s' ⟨ws2,Z.bs⟩ VV hf cq
   rw[bY,aeA (Z:=Z) (Z':=⟨ws2,Z.bs⟩) hb wg mN n4 hw hk Wt] at this
   rw[VT,List.set_append_left _ _ (by rw[m4];exact hb),wm]
   show Kp s.cn (s.gg.set b ⟨dB,5,(a0 hF Z.ws c9).set i.toNat row'⟩++_)
   rw[kX];exact this
  split at h
  ·split at h
   ·rename_i ei aJ ih go id m k hq pz oV
    split at h
    ·rename_i gm xs wh
     obtain⟨h1,h2,be,ci,cK,gC,nV,h⟩:=h
     subst h1;subst be;subst ci;subst cK
     cases h2
     obtain⟨oa,n2,pB⟩:=kx _ _ wh
     obtain⟨nG,dP⟩:=G.Zj (i:=i.toNat) (id:=gm) (x:=ae.mk aJ go xs hq.den oV) (by omega) oa n2 pB
     refine fin (s':=s.add [(dC,.gX (V.set i.toNat (ae.mk aJ go xs hq.den oV)) (c9.set i.toNat gm) bT ((List.length_set ..).trans kA)),(bD b,.kr dB m (c9.set i.toNat gm)),(fV,.u)] s.vs s.bp) (ws2:=Z.ws.set i.toNat (ae.mk aJ go xs hq.den oV)) (V2:=V.set i.toNat (ae.mk aJ go xs hq.den oV)) (n2:=bT) (hv2:=(List.length_set ..).trans kA) (ids2:=c9.set i.toNat gm) (row':=ka m (ae.mk aJ go xs hq.den oV) gm) nV (Nat.le_refl 5) ?_ (vY G.ok.len) rfl (fun k hk=> ?_) ?_ ?_ gC h ?_ (zA aH ?_)
     ·rfl
     ·rw[TS.iK,gD,if_neg (by unfold dC bD;omega),gD,if_neg (by unfold bD;omega),gD,if_neg (by unfold fV bD;omega)];rfl
     ·rw[TS.iK,gD,if_neg (by unfold dC bD;omega),gD,if_pos rfl]
     ·rw[TS.iK,gD,if_pos rfl]
     ·intro V3 Bp pB A_ aN
      rw[TS.iK,gD,if_pos rfl] at aN
      cases aN
      refine⟨nG,by rw[←e];exact dP,fun id xs hx=> ?_⟩
      rw[TS.iK,gD,if_neg (by unfold dC fV;omega),gD,if_neg (by unfold bD fV;omega),gD,if_pos rfl] at hx
      cases hx
     ·intro p aI
      simp only[List.mem_cons,List.not_mem_nil,or_false] at aI
      rcases aI with rfl | rfl | rfl
      ·exact Nat.le_refl _
      ·show 1000000≤bD b;unfold bD;omega
      ·show 1000000≤fV;unfold fV;omega
    ·exact h.elim
   ·exact h.elim
  ·have afi:i.toNat<V.length∨ ¬i.toNat<V.length:=by omega
   by_cases hi:i.toNat<V.length
   ·have hv:=CF G.ok (i:=i) (by rw[e];exact hi)
    rw[e] at hv
    rw[hv] at h
    obtain⟨x,aG,h,bq,dU⟩:=Ph h
    obtain⟨gC,nV,h⟩:=h
    have F:=(G.ow (j:=i) (by omega)).qP x (by rw[aG];have:=(G.ow (j:=i) (by omega)).p3;exact this)
    have jS:(nth (view Z.ws c9 Z.bs) i).ac=Z.bs.getD (nth c9 i) []:=by rw[e,hv]
    rw[jS,e] at F
    refine fin (s':=s.add [(dC,.gX (V.set i.toNat {x with ac:=Z.bs.getD (nth c9 i) []}) c9 bT ((List.length_set ..).trans kA))] s.vs s.bp) (ws2:=Z.ws.set i.toNat x) (ids2:=c9) (V2:=V.set i.toNat {x with ac:=Z.bs.getD (nth c9 i) []}) (n2:=bT) (hv2:=(List.length_set ..).trans kA) nV dU (bq hF (nth c9 i)) (kb G.ok.len (by omega)) rfl (fun k hk=> ?_) ?_ ?_ gC h ?_ (zA aH ?_)
    ·rw[TS.iK,gD,if_neg (by unfold dC bD;omega)];rfl
    ·rw[TS.iK,gD,if_neg (by unfold dC bD;omega)];exact hg
    ·rw[TS.iK,gD,if_pos rfl]
    ·intro V3 Bp pB A_ aN
     rw[TS.iK,gD,if_pos rfl] at aN
     cases aN
     refine⟨F.G,F.gS,fun id xs hx=> ?_⟩
     rw[TS.iK,gD,if_neg (by unfold dC fV;omega)] at hx
     exact kx id xs hx
    ·intro p aI
     rw[List.mem_singleton.1 aI];exact Nat.le_refl _
   ·obtain⟨x,aG,h,_⟩:=Ph (w:=nth V i) (b:=(nth V i).ac) h
    exact absurd h.2.1 hi
 ·exact h.elim
def zC (P:Program) (t:TypeId) (w:Int) (ids:List Nat) (m:Nat) (j:Int) (v:TV) (s:TS) (K:TS→aV):aV:=match s.get dC with
 | .gX V c9 bT hv=> .eq c9 ids (.eq m s.bp (.eq (u1 P t v.bE) true (match v with
  | .b x=>
   let s':=s.add [(dC,.gX (V.set w.toNat {nth V w with ac:=(nth V w).ac.set j.toNat x.den}) ids bT ((List.length_set ..).trans hv))] s.vs s.bp
   .eq s'.cn s.cn (.p (w.toNat<V.length∧j.toNat<(nth V w).ac.length) (K s'))
  | _=> .no)))
 | _=> .no
theorem aeh (aH:cf.n≤1000000) {t:TypeId} {m:Nat} {ids:List Nat} {w j:Int} {v:TV} {K:TS→aV} {Kp:List (Nat×List AV)→List Blk→Prop} (aP:Fits s)
  (hK: ∀s' (Z':FZ),(K s').den R→ @Fits Z' s'→s'.tT cf.n=s.tT cf.n→Kp s'.cn (@TS.aJ Z' cf.n s').H) (h:(zC P t w ids m j v s K).den R):
  l4 P t (.ptr (nth ids w+m) 0 j.toNat 0) v.bE (s.aJ cf.n).L (s.aJ cf.n).H Kp:=by
 unfold zC at h
 split at h
 ·rename_i V c9 bT kA hk
  obtain⟨h1,h2,aN,h⟩:=h
  subst h1;subst h2
  have hs:=Cs aN
  unfold l4
  rw[if_pos hs]
  split at h
  ·rename_i x
   obtain⟨be,ci,h⟩:=h
   obtain⟨G,e,kx⟩:=aP V c9 _ _ hk
   have pr:=i_ G.ok
   rw[e] at pr
   have hv:=CF G.ok (i:=w) (by rw[e];exact ci.1)
   rw[e] at hv
   have dn:=G.ow (j:=w) (by omega)
   have F:=dn.Hn ((nth V w).ac.set j.toNat x.den) (by rw[List.length_set,e])
   rw[e] at F
   have gL:=G.ok.lt w.toNat _ (gO (xs:=c9) (i:=w) (by have:=G.ok.len;omega))
   refine ed (D3 aP hk ci.1) ⟨rfl,ed (xT ci.2) ⟨Nat.le_refl 1,?_⟩⟩
   have cq:=zA (n:=cf.n) (s:=s) (l:=[(dC,TV.gX (V.set w.toNat {nth V w with ac:=(nth V w).ac.set j.toNat x.den}) c9 bT ((List.length_set ..).trans kA))]) aH (fun p aI=>by rw[List.mem_singleton.1 aI];exact Nat.le_refl _)
   have n0: @Fits ⟨Z.ws,Z.bs.set (nth c9 w) ((nth V w).ac.set j.toNat x.den)⟩ (s.add [(dC,TV.gX (V.set w.toNat {nth V w with ac:=(nth V w).ac.set j.toNat x.den}) c9 bT ((List.length_set ..).trans kA))] s.vs s.bp):=by
    intro V3 Bp pB A_ aN
    rw[TS.iK,gD,if_pos rfl] at aN
    cases aN
    refine⟨F.G,F.gS,fun id xs hx=> ?_⟩
    rw[TS.iK,gD,if_neg (by unfold dC fV;omega)] at hx
    obtain⟨oa,n2,pB⟩:=kx id xs hx
    refine⟨by show id<(Z.bs.set (nth c9 w) ((nth V w).ac.set j.toNat x.den)).length;rw[List.length_set];exact oa,?_,pB⟩
    show(Z.bs.set (nth c9 w) ((nth V w).ac.set j.toNat x.den)).getD id []=xs
    have ck:nth c9 w≠id:=fun q=>pB w.toNat (by rw[gO (xs:=c9) (i:=w) (by have:=G.ok.len;omega),q])
    rw[List.getD_eq_getElem?_getD,List.getElem?_set,if_neg ck,←List.getD_eq_getElem?_getD];exact n2
   have:=hK _ ⟨Z.ws,Z.bs.set (nth c9 w) ((nth V w).ac.set j.toNat x.den)⟩ h n0 cq
   rw[be] at this
   have AP:(s.aJ cf.n).H=s.gg++List.map bk Z.bs:=rk hk
   have mJ: ∀Z':FZ,Z'.ws=Z.ws→ @TS.gg Z' (s.add [(dC,TV.gX (V.set w.toNat {nth V w with ac:=(nth V w).ac.set j.toNat x.den}) c9 bT ((List.length_set ..).trans kA))] s.vs s.bp)= @TS.gg Z s:=fun Z' hw=>by
    show(List.range s.bp).map _=(List.range s.bp).map _
    refine List.map_congr_left fun b _=> ?_
    rw[TS.iK,gD,if_neg (by unfold dC bD;omega)]
    show @TV.ea Z' (s.get (bD b))= @TV.ea Z (s.get (bD b))
    cases s.get (bD b)<;>first | rfl | (simp only[TV.ea,hw])
   have Em:= @rk ⟨Z.ws,Z.bs.set (nth c9 w) ((nth V w).ac.set j.toNat x.den)⟩ cf.n (s.add [(dC,TV.gX (V.set w.toNat {nth V w with ac:=(nth V w).ac.set j.toNat x.den}) c9 bT ((List.length_set ..).trans kA))] s.vs s.bp) (V.set w.toNat {nth V w with ac:=(nth V w).ac.set j.toNat x.den}) c9 bT ((List.length_set ..).trans kA) (by rw[TS.iK,gD,if_pos rfl])
   rw[Em,mJ ⟨Z.ws,Z.bs.set (nth c9 w) ((nth V w).ac.set j.toNat x.den)⟩ rfl] at this
   rw[AP,List.set_append_right _ _ (by rw[m4];omega),m4,Nat.add_sub_cancel]
   have ig:({bk (nth V w).ac with rows:=(bk (nth V w).ac).rows.set j.toNat (fa (aX (nth (nth V w).ac j)) 0 (e8 (TV.b x).bE))}:Blk)=bk ((nth V w).ac.set j.toNat x.den):=by
    show(⟨0,1,(List.map aX (nth V w).ac).set j.toNat (aX x.den)⟩:Blk)=⟨0,1,_⟩
    rw[C5]
   show Kp s.cn (s.gg++(List.map bk Z.bs).set (nth c9 w) {bk (nth V w).ac with rows:=(bk (nth V w).ac).rows.set j.toNat (fa (aX (nth (nth V w).ac j)) 0 (e8 (TV.b x).bE))})
   rw[ig,D4]
   exact this
  ·exact h.elim
 ·exact h.elim
def Gq (P:Program) (t:TypeId) (l c:TV) (s:TS) (K:TV→TS→aV):aV:=match l with
 | .i _ l=>(match c with
  | .i _ c=>(match s.get dC with
   | .gX V ids _ _=> .all Nat fun id=>
    let s':=s.add [(fV,.new id (List.replicate l.toNat false))] s.vs s.bp
    .eq (BC P t) (some ([AV.bool false],p_ P t)) (.eq l c (.eq s'.cn s.cn (.p (0≤l∧(p_ P t:Int)*l≤140737488355328∧l≤1048576) (K (.yZ id s.bp (List.replicate l.toNat false).length) s'))))
   | _=> .no)
  | _=> .no)
 | _=> .no
theorem ZR (aH:cf.n≤1000000) (aP:Fits s) {t:TypeId} {l c:TV} {K:TV→TS→aV} {Kp:AV→List (Nat×List AV)→List Blk→Prop} (hK:vo cf s R K Kp) (h:(Gq P t l c s K).den R):wH P t l.bE c.bE (s.aJ cf.n).L (s.aJ cf.n).H Kp:=by
 unfold Gq at h
 split at h
 ·split at h
  ·split at h
   ·rename_i BB lW l oy Za c afF V ids bT kA hk
    obtain⟨h1,h2,aN,be,bX⟩:=h Z.bs.length
    subst h2
    obtain⟨nA,z,q1,q2,q3,q4,cH,cV⟩:=NI h1
    refine ed q1 (ed q2 ?_)
    rw[if_pos ⟨q3,q4⟩]
    refine⟨be.1,Int.le_refl _,by rw[←cV];exact be.2.1,by have:=be.2.2;omega,?_⟩
    obtain⟨G,e,kx⟩:=aP V ids _ _ hk
    have qq:(List.replicate l.toNat false).length≤1048576:=by rw[List.length_replicate];have:=be.2.2;omega
    obtain⟨nG,dP⟩:=G.snoc qq
    have cq:=zA (n:=cf.n) (s:=s) (l:=[(fV,TV.new Z.bs.length (List.replicate l.toNat false))]) aH (fun p aI=>by rw[List.mem_singleton.1 aI];show 1000000≤fV;unfold fV;omega)
    have Lm:(s.add [(fV,TV.new Z.bs.length (List.replicate l.toNat false))] s.vs s.bp).get dC= .gX V ids bT kA:=by rw[TS.iK,gD,if_neg (by unfold dC fV;omega)];exact hk
    have n0: @Fits ⟨Z.ws,Z.bs++[List.replicate l.toNat false]⟩ (s.add [(fV,TV.new Z.bs.length (List.replicate l.toNat false))] s.vs s.bp):=by
     intro V3 Bp pB A_ aN
     rw[Lm] at aN
     cases aN
     refine⟨nG,dP.trans e,fun id xs hx=> ?_⟩
     rw[TS.iK,gD,if_pos rfl] at hx
     cases hx
     refine⟨by show Z.bs.length<(Z.bs++[List.replicate l.toNat false]).length;rw[List.length_append];simp,by show(Z.bs++[List.replicate l.toNat false]).getD Z.bs.length []=_;rw[List.getD_eq_getElem?_getD,List.getElem?_append_right (Nat.le_refl _)];simp,fun j aM=> ?_⟩
     have:=G.ok.lt j _ aM;omega
    have:=hK _ _ ⟨Z.ws,Z.bs++[List.replicate l.toNat false]⟩ bX n0 cq
    rw[aN] at this
    have AP:(s.aJ cf.n).H=s.gg++List.map bk Z.bs:=rk hk
    have Em:= @rk ⟨Z.ws,Z.bs++[List.replicate l.toNat false]⟩ cf.n _ V ids bT kA Lm
    have mJ: @TS.gg ⟨Z.ws,Z.bs++[List.replicate l.toNat false]⟩ (s.add [(fV,TV.new Z.bs.length (List.replicate l.toNat false))] s.vs s.bp)= @TS.gg Z s:=by
     show(List.range s.bp).map _=(List.range s.bp).map _
     refine List.map_congr_left fun b _=> ?_
     rw[TS.iK,gD,if_neg (by unfold fV bD;omega)]
     show @TV.ea _ (s.get (bD b))= @TV.ea Z (s.get (bD b))
     cases s.get (bD b)<;>rfl
    rw[Em,mJ] at this
    have hlen:(s.aJ cf.n).H.length=Z.bs.length+s.bp:=by rw[AP,List.length_append,m4,List.length_map];omega
    have uh:z.length=1:=by have:=congrArg List.length cH;simpa using this.symm
    rw[hlen,uh,←cH,AP]
    show Kp (.ref (Z.bs.length+s.bp) 0 0 l.toNat false) s.cn (s.gg++List.map bk Z.bs++[⟨0,1,List.replicate l.toNat [AV.bool false]⟩])
    rw[show List.replicate l.toNat [AV.bool false]=List.map aX (List.replicate l.toNat false) by rw[List.map_replicate];rfl,List.append_assoc,rl]
    have T6:(List.replicate l.toNat false).length=l.toNat:=List.length_replicate
    rw[T6] at this
    exact this
   ·exact h.elim
  ·exact h.elim
 ·exact h.elim
def RL (P:Program) (t:TypeId) (b g:Nat) (i:Int) (c:Nat) (v:TV) (s:TS) (dB:Nat) (a7:List TV) (K:TS→aV):aV:=
 let dx:=a7.take c++p7 v++a7.drop (c+(p7 v).length)
 let s':=s.gJ b s.bp (.et g dx)
 .eq dB g (.eq i 0 (.eq (Nat.blt b s.bp&&wP v&&u1 P t v.bE&&Nat.ble (c+(e8 v.bE).length) a7.length) true (.eq (fa (cJ a7) c (e8 v.bE)) (cJ dx) (.eq dx.length a7.length (.eq s'.cn s.cn (K s'))))))
theorem aek (aH:cf.n≤1000000) {t:TypeId} {b g c dB:Nat} {a7:List TV} {i:Int} {v:TV} {K:TS→aV} {Kp:List (Nat×List AV)→List Blk→Prop} (aP:Fits s) (hg:s.get (bD b)= .et dB a7)
  (hK: ∀s' (Z':FZ),(K s').den R→ @Fits Z' s'→s'.tT cf.n=s.tT cf.n→Kp s'.cn (@TS.aJ Z' cf.n s').H) (h:(RL P t b g i c v s dB a7 K).den R):
  l4 P t (.ptr b g i.toNat c) v.bE (s.aJ cf.n).L (s.aJ cf.n).H Kp:=by
 obtain⟨h1,h2,aN,be,ci,cK,h⟩:=h
 subst h1;subst h2
 simp only[Bool.and_eq_true] at aN
 obtain⟨⟨⟨hb,_⟩,bm⟩,hle⟩:=aN
 have hb:b<s.bp:=by rw[←Nat.blt_eq];exact hb
 have hs:=Cs bm
 unfold l4
 rw[if_pos hs]
 refine ed (by rw[qV hb,hg]) ⟨rfl,ed (a:=cJ a7) rfl ⟨by rw[nJ,List.length_map];exact Nat.le_of_ble_eq_true hle,?_⟩⟩
 have:=hK _ Z h (p5 aP) (p4 aH)
 rw[tz hb,cK] at this
 show Kp s.cn ((s.aJ cf.n).H.set b ⟨dB,a7.length,[fa (cJ a7) c (e8 v.bE)]⟩)
 rw[be,←ci]
 exact this
end
inductive nH where
 | v (e:bI)
 | fr
 | w
def nH.es:List nH→List bI
 | []=>[]
 | .v e::r=>e::nH.es r
 | .fr::r=>nH.es r
 | .w::r=> .int::nH.es r
def x0 (hg:Nat):(l:List nH)→cX (nH.es l)→List AV
 | [],_=>[]
 | .v e::r,x=>nP e x.1::x0 hg r x.2
 | .fr::r,x=> .ptr 0 hg 0 0::x0 hg r x
 | .w::r,x=> .ptr 3 0 (show Int from x.1).toNat 0::x0 hg r x.2
def Cg (F:Frame):List TV:=[.b (.v F.ok),.ref 1 0 F.aw.length false,.ref 2 0 F.au.length false,.ref 3 0 F.O.length false]
def D_ [Z:FZ] (hg:Nat) (ids:List Nat) (F:Frame):List Blk:=
 [⟨hg,4,[cJ (Cg F)]⟩,⟨0,1,F.aw.map (b6 true .bool)⟩,⟨0,2,F.au.map (b6 true .g3)⟩,⟨0,5,a0 4 Z.ws ids⟩]++Z.bs.map bk
def CQ [Z:FZ] (ids:List Nat) (F:Frame):Prop:=gk Z.ws ids Z.bs∧view Z.ws ids Z.bs=F.O
def Sw (P:Program) (f:FuncId) (hg:Nat) (args:List AV) (F:Frame) (I5:Frame) (v:AV):Prop:=
 ∀(Z:FZ) (ids:List Nat),@CQ Z ids F→dz P f args (@D_ Z hg ids F) fun r H'=>r=v∧ ∃(Z':FZ) (c9:List Nat),@CQ Z' c9 I5∧H'= @D_ Z' hg c9 I5
def wG (hg:Nat) (ids:List Nat) (F:Frame):List (Nat×TV):=
 [(bD 0,.et hg (Cg F)),(bD 1,.blk 0 .bool F.aw F.aw.length rfl),(bD 2,.blk 0 .g3 F.au F.au.length rfl),(bD 3,.kr 0 4 ids),(dC,.gX F.O ids F.O.length rfl)]
def D9 (s:TS) (K:Nat→Frame→List Nat→aV):aV:=match s.get (bD 0) with
 | .et g a7=>(match a7 with
  | [.b k,.ref jb aQ oa f1,.ref db a1 n2 f2,.ref pZ bS pB f3]=>(match s.get (bD 1) with
   | .blk h1 bB o aU _=>if q1:bB=bI.bool then(match s.get (bD 2) with
    | .blk h2 e2 q bu _=>if q2:e2=bI.g3 then(match s.get (bD 3) with
     | .kr aN hF ids=>(match s.get dC with
      | .gX V c9 bT _=> .eq s.bp 4 (.eq (jb,aQ,oa,f1) (1,0,aU,false) (.eq (db,a1,n2,f2) (2,0,bu,false) (.eq (pZ,bS,pB,f3) (3,0,bT,false) (.eq (h1,h2,aN,hF) (0,0,0,4)
       (.eq c9 ids (K g ⟨k.den,lN q1 o,lN q2 q,V⟩ ids))))))
      | _=> .no)
     | _=> .no) else .no
    | _=> .no) else .no
   | _=> .no)
  | _=> .no)
 | _=> .no
theorem Vd [Z:FZ] {n:Nat} {s:TS} {K:Nat→Frame→List Nat→aV} {R:Exit→TS→Prop} (aP:Fits s) (h:(D9 s K).den R): ∃g F ids,(K g F ids).den R∧CQ ids F∧(s.aJ n).H=D_ g ids F∧s.bp=4∧s.get dC= .gX F.O ids F.O.length rfl:=by
 unfold D9 at h
 split at h
 ·rename_i g a7 pn
  split at h
  ·split at h
   ·rename_i h1 bB o aU Wz lT
    split at h
    ·rename_i q1
     subst q1
     split at h
     ·rename_i h2 e2 q bu ql yo
      split at h
      ·rename_i q2
       subst q2
       split at h
       ·rename_i aN hF ids Wo
        split at h
        ·rename_i V c9 bT kA hk
         obtain⟨ba,ei,ih,pz,Y9,F6,h⟩:=h
         cases ei;cases ih;cases pz;cases Y9;subst F6;subst Wz;subst ql;subst kA
         obtain⟨G,e,_⟩:=aP V c9 _ _ hk
         refine⟨_,_,_,h,⟨G,e⟩,?_,ba,hk⟩
         rw[rk hk]
         have iM:s.gg=[(s.get (bD 0)).ea,(s.get (bD 1)).ea,(s.get (bD 2)).ea,(s.get (bD 3)).ea]:=by unfold TS.gg;rw[ba];rfl
         rw[iM,pn,lT,yo,Wo];rfl
        ·exact h.elim
       ·exact h.elim
      ·exact h.elim
     ·exact h.elim
    ·exact h.elim
   ·exact h.elim
  ·exact h.elim
 ·exact h.elim
structure r9 (P:Program) where
 f:FuncId
 jj:List nH
 rs:List bI
 pre:cX (nH.es jj)→Frame→Prop
 fn:cX (nH.es jj)→Frame→Frame
 aF:cX (nH.es jj)→Frame→cX rs
 ok: ∀hg x F,pre x F→Sw P f hg (x0 hg jj x) F (fn x F) (kS rs (aF x F))
def lK:(l:List nH)→List TV→cX (nH.es l)
 | [],_=>()
 | .v e::r,v::vs=>(Vk e v,lK r vs)
 | .fr::r,_::vs=>lK r vs
 | .w::r,v::vs=>((match v with
  | .ptr _ _ i _ _=>i
  | _=>(0:Int)),lK r vs)
 | .v e::r,[]=>(e.um.default,lK r [])
 | .fr::r,[]=>lK r []
 | .w::r,[]=>((0:Int),lK r [])
def AJ {P:Program}:List (r9 P)→FuncId→(r9 P→aV)→aV→aV
 | [],_,_,t=>t
 | c::r,f,K,t=>match Nat.beq c.f f with
  | true=>K c
  | false=>AJ r f K t
def Dd {P:Program} (c:r9 P) (args:List TV) (s:TS) (K:TV→TS→aV):aV:=D9 s fun g F ids=>
 .eq (cJ args) (x0 g c.jj (lK c.jj args)) (.eq ((cJ args).all eQ&&(cJ args).all jX) true (.p (c.pre (lK c.jj args) F) (.all (List Nat) fun c9=>
  let s':=s.add ((fV,.u)::wG g c9 (c.fn (lK c.jj args) F)) s.vs s.bp
  .eq s'.cn s.cn (.eq (wM (kS c.rs (c.aF (lK c.jj args) F))) true (K (Ce c.rs (c.aF (lK c.jj args) F)) s')))))
theorem ZN (hg:Nat) (ids:List Nat) (F:Frame) (s:TS):let s':=s.add ((fV,.u)::wG hg ids F) s.vs s.bp
  s'.get (bD 0)= .et hg (Cg F)∧s'.get (bD 1)= .blk 0 .bool F.aw F.aw.length rfl∧s'.get (bD 2)= .blk 0 .g3 F.au F.au.length rfl∧s'.get (bD 3)= .kr 0 4 ids∧s'.get dC= .gX F.O ids F.O.length rfl∧s'.get fV= .u:=by
 intro s'
 have aT:fV≠bD 0∧fV≠bD 1∧fV≠bD 2∧fV≠bD 3∧fV≠dC:=by unfold fV bD dC;omega
 have e: ∀k,s'.get k=fN ((fV,.u)::wG hg ids F) k (s.get k):=fun k=>TS.iK ..
 refine⟨?_,?_,?_,?_,?_,?_⟩<;>rw[e]<;>rfl
theorem Tx [Z:FZ] {P:Program} {n:Nat} (aH:n≤1000000) {c:r9 P} {args:List TV} {s:TS} {K:TV→TS→aV} {R:Exit→TS→Prop} {Kp:AV→List (Nat×List AV)→List Blk→Prop} (aP:Fits s)
  (hK: ∀v s' (Z':FZ),(K v s').den R→ @Fits Z' s'→s'.tT n=s.tT n→Kp v.bE s'.cn (@TS.aJ Z' n s').H) (h:(Dd c args s K).den R):lf P c.f (cJ args) (s.aJ n).L (s.aJ n).H Kp:=by
 unfold Dd at h
 obtain⟨g,F,ids,bX,h1,h2,aN,_⟩:=Vd (n:=n) aP h
 obtain⟨ei,ih,pz,hk⟩:=bX
 simp only[Bool.and_eq_true] at ih
 refine .inr (.inr (.inl ⟨ih.1,ih.2,?_⟩))
 rw[h2,ei]
 refine(c.ok g _ F pz Z ids h1).mono fun r H' ak=> ?_
 obtain⟨rfl,Z',c9,q1,rfl⟩:=ak
 obtain⟨F6,Y_,hk⟩:=hk c9
 refine⟨Y_,?_⟩
 obtain⟨aB,aU,bu,cc,dq,iS⟩:=ZN g c9 (c.fn (lK c.jj args) F) s
 have n0: @Fits Z' (s.add ((fV,.u)::wG g c9 (c.fn (lK c.jj args) F)) s.vs s.bp):=by
  intro V3 Bp pB A_ aN
  rw[dq] at aN
  cases aN
  refine⟨q1.1,q1.2,fun id xs hx=> ?_⟩
  rw[iS] at hx;cases hx
 have:=hK _ _ Z' hk n0 (zA aH fun p aI=>by
  simp only[wG,List.mem_cons,List.not_mem_nil,or_false] at aI
  rcases aI with rfl | rfl | rfl | rfl | rfl | rfl
  ·show 1000000≤fV;unfold fV;omega
  ·show 1000000≤bD 0;unfold bD;omega
  ·show 1000000≤bD 1;unfold bD;omega
  ·show 1000000≤bD 2;unfold bD;omega
  ·show 1000000≤bD 3;unfold bD;omega
  ·exact Nat.le_refl _)
 rw[F6,Hb,@rk Z' n _ _ _ _ _ dq] at this
 have iM: @TS.gg Z' (s.add ((fV,.u)::wG g c9 (c.fn (lK c.jj args) F)) s.vs s.bp)=[@TV.ea Z' (.et g (Cg (c.fn (lK c.jj args) F))),@TV.ea Z' (.blk 0 .bool (c.fn (lK c.jj args) F).aw _ rfl),@TV.ea Z' (.blk 0 .g3 (c.fn (lK c.jj args) F).au _ rfl),@TV.ea Z' (.kr 0 4 c9)]:=by
  rw[←aB,←aU,←bu,←cc]
  show(List.range s.bp).map _=_
  rw[aN];rfl
 rw[iM] at this
 exact this
inductive fH where
 | v (e:bI)
 | p
def fH.es:List fH→List bI
 | []=>[]
 | .v e::r=>e::fH.es r
 | .p::r=>fH.es r
def jP (g:Nat):(l:List fH)→cX (fH.es l)→List AV
 | [],_=>[]
 | .v e::r,x=>nP e x.1::jP g r x.2
 | .p::r,x=> .ptr 0 g 0 0::jP g r x
structure lc (P:Program) where
 f:FuncId
 ce:bI
 jj:List fH
 rs:List bI
 pre:cX (fH.es jj)→ce.T→Prop
 fn:cX (fH.es jj)→ce.T→ce.T
 aF:cX (fH.es jj)→ce.T→cX rs
 ok: ∀g x c,pre x c→iI P f g (jP g jj x) (b6 false ce c) (b6 false ce (fn x c)) (kS rs (aF x c))
def Ou:List fH→List TV→TV
 | .p::_,v::_=>v
 | .v _::r,_::vs=>Ou r vs
 | _,_=> .u
def Et:List fH→Bool
 | []=>false
 | .p::_=>true
 | .v _::r=>Et r
def Hi:TS:=⟨[],[],[],0⟩
def Ai (p:AV):(l:List fH)→List TV→(cX (fH.es l)→List Prop→aV)→aV
 | [],[],K=>K () []
 | .v e::r,v::vs,K=>conv Hi e v fun x o=>Ai p r vs fun y lq=>K (x,y) (o++lq)
 | .p::r,v::vs,K=> .eq v.bE p (Ai p r vs K)
 | _,_,_=> .no
def Z1 (e:bI):Bool:=e.oN
def Dk {P:Program} (c:lc P) (args:List TV) (p:AV) (cells:List TV) (K:TV→c.ce.T→aV):aV:=
 .eq (cJ cells) (b6 false c.ce (c.ce.mk (oA c.ce.kF cells))) (.eq (Et c.jj&&Z1 c.ce&&(cJ args).all eQ) true (Ai p c.jj args fun x o=>
  BP (o++[c.pre x (c.ce.mk (oA c.ce.kF cells))]) (K (Ce c.rs (c.aF x (c.ce.mk (oA c.ce.kF cells)))) (c.fn x (c.ce.mk (oA c.ce.kF cells))))))
def Dl {P:Program} (c:lc P) (args:List TV) (s:TS) (K:TV→TS→aV):aV:=match Ou c.jj args with
 | .ptr b g _ _ _=>(match s.get (bD b) with
  | .et dB cells=>(match Nat.blt b s.bp with
   | true=> .eq dB g (Dk c args (.ptr b g 0 0) cells fun v y=>
     let s':=s.gJ b s.bp (.et g (gA false c.ce y))
     .eq s'.cn s.cn (K v s'))
   | false=> .no)
  | _=> .no)
 | .lp v _=>(match kH s.vs v with
  | some m=>Dk c args (.fx v 0) (hL s v 0 m) fun w y=>
    let s':=s.add (tD v 0 (gA false c.ce y)) s.vs s.bp
    .eq s'.cn (k7 s.cn v (b6 false c.ce y)) (.eq (o6 (tD v 0 (gA false c.ce y))) true (K w s'))
  | none=> .no)
 | _=> .no
def AK {P:Program}:List (lc P)→FuncId→(lc P→aV)→aV→aV
 | [],_,_,t=>t
 | c::r,f,K,t=>match Nat.beq c.f f with
  | true=>K c
  | false=>AK r f K t
theorem Kx {P:Program} {f:FuncId} {K:lc P→aV} {t:aV} {R:Exit→TS→Prop}: ∀{pP:List (lc P)},(AK pP f K t).den R→(∃m,m.f=f∧(K m).den R)∨t.den R
 | [],h=> .inr h
 | c::r,h=>by
  unfold AK at h
  split at h
  ·rename_i hf;exact .inl ⟨c,Nat.eq_of_beq_eq_true hf,h⟩
  ·exact Kx h
theorem Au {e:bI} (h:e.oN=true) (x:e.T):(b6 false e x).all uo=true∧(b6 false e x).all jv=true:=by cases e<;>first | exact⟨rfl,rfl⟩ | cases h
theorem Dj {p:AV} {g:Nat} {R:Exit→TS→Prop}: ∀{l:List fH} {vs:List TV} {K:cX (fH.es l)→List Prop→aV},(Ai p l vs K).den R→ ∃x o,(K x o).den R∧((∀φ∈o,φ)→aD (tm p (.ptr 0 g 0 0)) (cJ vs) (jP g l x))∧(Et l=true→p∈cJ vs)
 | [],[],K,h=>⟨(),[],h,fun _=>aD.nil,fun h=>by cases h⟩
 | .v e::r,v::vs,K,h=>by
  letI Z:FZ:=⟨[],[]⟩
  obtain⟨x,o,h,ei⟩:=Di (n:=0) (Fits.none (s:=Hi) rfl) (show(conv Hi e v _).den R from h)
  obtain⟨y,lq,h,ih,pz⟩:=Dj (l:=r) h
  exact⟨(x,y),o++lq,h,fun aC=>aD.cons (.inr (ei fun φ eZ=>aC φ (List.mem_append_left _ eZ))) (ih fun φ eZ=>aC φ (List.mem_append_right _ eZ)),fun aI=>List.mem_cons_of_mem _ (pz aI)⟩
 | .p::r,v::vs,K,h=>by
  obtain⟨e,h⟩:=h
  obtain⟨y,lq,h,ih,pz⟩:=Dj (l:=r) h
  exact⟨y,lq,h,fun aC=>aD.cons (.inl ⟨e,rfl⟩) (ih aC),fun _=>by rw[cJ,e];exact List.mem_cons_self ..⟩
 | [],_::_,K,h=>h.elim
 | .v _::_,[],K,h=>h.elim
 | .p::_,[],K,h=>h.elim
theorem JS {P:Program} {c:lc P} {args:List TV} {p:AV} {cells:List TV} {K:TV→c.ce.T→aV} {R:Exit→TS→Prop} (g:Nat) (h:(Dk c args p cells K).den R):
  ∃eh x y t,(K t y).den R∧(cJ args).all eQ=true∧cJ cells=b6 false c.ce x∧c.ce.oN=true∧p∈cJ args∧aD (tm p (.ptr 0 g 0 0)) (cJ args) eh∧iI P c.f g eh (b6 false c.ce x) (b6 false c.ce y) t.bE:=by
 obtain⟨h1,h2,h⟩:=h
 simp only[Bool.and_eq_true] at h2
 obtain⟨x,o,h,ih,pz⟩:=Dj (g:=g) h
 obtain⟨aC,h⟩:=N1 h
 refine⟨_,_,_,_,h,h2.2,h1,h2.1.2,pz h2.1.1,ih fun φ eZ=>aC φ (List.mem_append_left _ eZ),?_⟩
 rw[Hb]
 exact c.ok g x _ (aC _ (List.mem_append_right _ (List.mem_singleton.2 rfl)))
theorem B_ {c:List TV} {e:bI} {x:e.T} (h:cJ c=b6 false e x):c.length=(b6 false e x).length:=by rw[←h,nJ,List.length_map]
theorem TD [Z:FZ] {P:Program} {n:Nat} (aH:n≤1000000) {c:lc P} {args:List TV} {s:TS} {K:TV→TS→aV} {R:Exit→TS→Prop} {Kp:AV→List (Nat×List AV)→List Blk→Prop} (aP:Fits s)
  (hK: ∀v s' (Z':FZ),(K v s').den R→ @Fits Z' s'→s'.tT n=s.tT n→Kp v.bE s'.cn (@TS.aJ Z' n s').H) (h:(Dl c args s K).den R):lf P c.f (cJ args) (s.aJ n).L (s.aJ n).H Kp:=by
 unfold Dl at h
 split at h
 ·rename_i b g i m col aI
  split at h
  ·rename_i dB cells hg
   split at h
   ·rename_i hb
    have hb:b<s.bp:=by rw[←Nat.blt_eq];exact hb
    obtain⟨e,h⟩:=h
    subst e
    obtain⟨eh,x,y,t,bX,h1,h2,aN,be,ci,cK⟩:=JS dB h
    obtain⟨bY,bX⟩:=bX
    refine .inr (.inr (.inr ⟨h1,eh,b6 false c.ce x,b6 false c.ce y,t.bE,(Au aN x).1,(Au aN y).2,.inl ⟨b,dB,?_,be,ci,cK,?_⟩⟩))
    ·rw[qV hb,hg]
     show some (Blk.mk dB cells.length [cJ cells])=_
     rw[B_ h2,h2]
    ·have:=hK _ _ Z bX (p5 aP) (p4 aH)
     rw[bY,tz hb] at this
     have bB:TV.ea (.et dB (gA false c.ce y))=Blk.mk dB (b6 false c.ce x).length [b6 false c.ce y]:=by
      show Blk.mk dB (gA false c.ce y).length [cJ (gA false c.ce y)]=_
      rw[B_ (vB false c.ce y),vB,rh,rh]
     rw[bB] at this
     exact this
   ·exact h.elim
  ·exact h.elim
 ·rename_i v col aI
  split at h
  ·rename_i m hm
   obtain⟨eh,x,y,t,bX,h1,h2,aN,be,ci,cK⟩:=JS 0 h
   obtain⟨bY,hb,bX⟩:=bX
   refine .inr (.inr (.inr ⟨h1,eh,b6 false c.ce x,b6 false c.ce y,t.bE,(Au aN x).1,(Au aN y).2,.inr ⟨v,?_,be,ci,cK,?_⟩⟩))
   ·rw[u2,hm,←h2];rfl
   ·have:=hK _ _ Z bX (xL hb aP) (xK aH hb)
    rw[bY,xJ hb] at this
    exact this
  ·exact h.elim
 ·exact h.elim
structure pU (P:Program) where
 len:List Nat
 oV:List (r9 P)
 CB:List (lc P)
def IA (P:Program) (n:Nat) (t:TypeId) (b g:Nat) (i:Int) (m c:Nat) (v:TV) (s:TS) (w:TV) (K:TS→aV):aV:=match w with
 | .kr dB hF ids=>(match wP v with
  | true=>IB P t b g i c v s dB hF ids K
  | false=> .no)
 | .et dB a7=>RL P t b g i c v s dB a7 K
 | _=>Ix P n t b g i m c v s K
section
variable {P:Program} (cf:g8 P) (s:TS)
def CG (ej:pU P) (o:Oper) (K:TV→TS→aV):aV:=match o.op with
 | .store t a v=>(match cF cf.n s a with
  | .lp x c=>pb (cF cf.n s v) fun w=>x9 cf s o (.tup []) (tD x c (p7 w)) s.vs K
  | .ptr b g i m c=>pb (cF cf.n s v) fun w=>IA P cf.n t b g i m c w s (s.get (bD b)) fun s'=>K (.tup []) s'
  | .vT w ids m j=>pb (cF cf.n s v) fun x=>zC P t w ids m j x s fun s'=>K (.tup []) s'
  | _=> .no)
 | .alloc e=>(match o.dst with
  | some d=>x9 cf s o (.lp d 0) (tD d 0 (zQ P e)) ((d,(zQ P e).length)::s.vs) K
  | none=> .no)
 | .box _ x=>(match o.dst with
  | some d=>pb (cF cf.n s x) fun w=>x9 cf s o (.lp d 0) (tD d 0 (p7 w)) ((d,(p7 w).length)::s.vs) K
  | none=> .no)
 | .makeSlice t l c=>(match ii s with
  | true=>wF cf.xZ t fun e=>Gr P cf.n t e (cF cf.n s l) (cF cf.n s c) s K
  | false=>Gq P t (cF cf.n s l) (cF cf.n s c) s K)
 | .buildSlice t m ps=>wF cf.xZ t fun e=>Bz s e (ps.toList.map fun p=>cF cf.n s p.2) fun xs=>ru (fun H Q=>jQ P o (fun x=>(cF cf.n s x).bE) s.cn H Q) (fun v=>K v s) (.v (Ny e xs (ps.toList.map fun p=>cF cf.n s p.2)))
 | .binOp op t x y _=>(match cF cf.n s x with
  | .l e xs _ _=>(match op with
   | .eql=> .eq (qw y&&(jf P t).isSome) true (.two (.jV (xs≠[]) (K (.b .f) s)) (.jV (xs=[]) (.all Bool fun b=>K (.b (.v b)) s)))
   | _=> .no)
  | _=>r0 cf s o fun v=>K v s)
 | .call c=>(match c.callee with
  | .builtin b=>(match b with
   | .len=>(match c.args.toList,c.argTypes.toList with
    | [x],[t]=>(match cF cf.n s x with
     | .l e xs en fr=>(match o.dst with
      | some d=>(match ej.len.any (Nat.beq d) with
       | true=>r0 cf s o fun v=>K v s
       | false=> .eq (jW P t (TV.l e xs en fr).bE) true (.jV (xs.length≤4611686018427387904) (K (.i .i64 xs.length) s)))
      | none=> .no)
     | _=>r0 cf s o fun v=>K v s)
    | _,_=> .no)
   | .append=>(match c.args.toList,c.argTypes.toList with
    | [x,y],[t,t2]=>CW P cf.n t t2 (cF cf.n s x) (cF cf.n s y) s K
    | _,_=> .no)
   | _=> .no)
  | .value f=>(match cF cf.n s f with
   | .fn g caps=>AJ ej.oV g (fun m=>Dd m (c.args.toList.map (cF cf.n s)++caps) s K) (AK ej.CB g (fun m=>Dl m (c.args.toList.map (cF cf.n s)++caps) s K) (r0 cf s o fun v=>K v s))
   | _=> .no)
  | _=> .no)
 | _=>r0 cf s o fun v=>K v s
end
section
variable {P:Program} {cf:g8 P} {s:TS} {R:Exit→TS→Prop}
variable {K:TV→TS→aV} {Kp:AV→List (Nat×List AV)→List Blk→Prop}
theorem aeg {t:TypeId} {m:Nat} {ids:List Nat} {w j:Int} {v:TV} {K:TS→aV} (h:(zC P t w ids m j v s K).den R):eQ v.bE=true:=by
 unfold zC at h
 split at h
 ·obtain⟨_,_,_,h⟩:=h
  split at h
  ·rfl
  ·exact h.elim
 ·exact h.elim
end
section
variable {P:Program} {cf:g8 P} {s:TS} {R:Exit→TS→Prop}
variable {K:TV→TS→aV} {Kp:AV→List (Nat×List AV)→List Blk→Prop}
theorem Kw {f:FuncId} {K:r9 P→aV} {t:aV}: ∀{pP:List (r9 P)},(AJ pP f K t).den R→(∃m,m.f=f∧(K m).den R)∨t.den R
 | [],h=> .inr h
 | c::r,h=>by
  unfold AJ at h
  split at h
  ·rename_i hf;exact .inl ⟨c,Nat.eq_of_beq_eq_true hf,h⟩
  ·exact Kw h
end
section
variable [Z:FZ] {P:Program} {cf:g8 P} {s:TS} {R:Exit→TS→Prop}
variable {K:TV→TS→aV} {Kp:AV→List (Nat×List AV)→List Blk→Prop}
theorem aej (aH:cf.n≤1000000) (aP:Fits s) {t:TypeId} {b g m c:Nat} {i:Int} {v:TV} {K:TS→aV} {Kp:List (Nat×List AV)→List Blk→Prop} (hK: ∀s' (Z':FZ),(K s').den R→ @Fits Z' s'→s'.tT cf.n=s.tT cf.n→Kp s'.cn (@TS.aJ Z' cf.n s').H)
  (h:(IA P cf.n t b g i m c v s (s.get (bD b)) K).den R):eR (eQ v.bE) (l4 P t (.ptr b g i.toNat c) v.bE (s.aJ cf.n).L (s.aJ cf.n).H Kp):=by
 unfold IA at h
 split at h
 ·rename_i dB hF ids hg
  split at h
  ·rename_i hv
   exact BL (BK hv) (ael aH aP hg hK h)
  ·exact h.elim
 ·rename_i dB a7 hg
  have aN:(Nat.blt b s.bp&&wP v&&u1 P t v.bE&&Nat.ble (c+(e8 v.bE).length) a7.length)=true:=h.2.2.1
  simp only[Bool.and_eq_true] at aN
  exact BL (BK aN.1.1.2) (aek aH aP hg hK h)
 ·exact aea aH aP hK h
theorem R7 (aH:cf.n≤1000000) (aP:Fits s) {ej:pU P} {o:Oper} (hK:vo cf s R K Kp) (h:(CG cf s ej o K).den R):j9 P [] o (cm (s.aJ cf.n).T) (s.aJ cf.n).L (s.aJ cf.n).H Kp:=by
 have zg: ∀v,(K v s).den R→Kp v.bE (s.aJ cf.n).L (s.aJ cf.n).H:=fun v hv=>hK v s Z hv aP rfl
 have rd:(r0 cf s o fun v=>K v s).den R→jQ P o (cm (s.aJ cf.n).T) (s.aJ cf.n).L (s.aJ cf.n).H fun r=>Kp r (s.aJ cf.n).L (s.aJ cf.n).H:=fun h=>OO aP (Kp:=fun r=>Kp r (s.aJ cf.n).L (s.aJ cf.n).H) zg h
 unfold CG at h
 split at h
 ·rename_i t a v fL
  split at h
  ·rw[qc] at h;exact Ej aH aP hK h
  ·rename_i b g i m c a3
   rw[qc] at h
   obtain⟨dst,op,ty,pos,after,guard⟩:=o
   cases fL
   show eR (eQ (cm (s.aJ cf.n).T v)) (l4 P t (cm (s.aJ cf.n).T a) (cm (s.aJ cf.n).T v) _ _ _)
   rw[k0]
   show eR (eQ (cF cf.n s v).bE) (l4 P t (cF cf.n s a).bE (cF cf.n s v).bE _ _ _)
   rw[a3]
   exact aej aH aP (fun s' Z' h1 hf h2=>hK (.tup []) s' Z' h1 hf h2) h
  ·rename_i w ids m j a3
   rw[qc] at h
   obtain⟨dst,op,ty,pos,after,guard⟩:=o
   cases fL
   show eR (eQ (cm (s.aJ cf.n).T v)) (l4 P t (cm (s.aJ cf.n).T a) (cm (s.aJ cf.n).T v) _ _ _)
   rw[k0]
   show eR (eQ (cF cf.n s v).bE) (l4 P t (cF cf.n s a).bE (cF cf.n s v).bE _ _ _)
   rw[a3]
   refine BL ?_ (aeh aH aP (fun s' Z' h1 hf h2=>hK (.tup []) s' Z' h1 hf h2) h)
   exact aeg h
  ·exact h.elim
 ·split at h
  ·exact Ej aH aP hK h
  ·exact h.elim
 ·split at h
  ·rw[qc] at h;exact Ej aH aP hK h
  ·exact h.elim
 ·rename_i t l c fL
  obtain⟨dst,op,ty,pos,after,guard⟩:=o
  cases fL
  show wH P t (cm (s.aJ cf.n).T l) (cm (s.aJ cf.n).T c) _ _ _
  rw[k0]
  split at h
  ·obtain⟨e,h⟩:=Gh h
   exact ZT aH aP hK h
  ·exact ZR aH aP hK h
 ·rename_i t m ps fL
  obtain⟨e,h⟩:=Gh h
  obtain⟨xs,h⟩:=Gg (n:=cf.n) aP h
  refine aaN fL ?_
  rw[k0]
  exact sq (F:=fun H Q=>jQ P o _ _ H Q) (s.aJ cf.n).H (Kp:=fun r=>Kp r (s.aJ cf.n).L (s.aJ cf.n).H) zg h
 ·rename_i op t x y ty2 fL
  split at h
  ·rename_i e xs en fr hx
   split at h
   ·obtain⟨h1,h2,aN⟩:=h
    obtain⟨dst,op,ty,pos,after,guard⟩:=o
    cases fL
    show sf P .eql t (cm (s.aJ cf.n).T x) _ (qw y) _
    rw[k0]
    show sf P .eql t (cF cf.n s x).bE _ (qw y) _
    rw[hx]
    show if qw y=true∧(jf P t).isSome=true then _ else _
    rw[if_pos (by simpa using h1)]
    refine⟨fun ck=> ?_,fun he b=> ?_⟩
    ·exact zg (.b .f) (h2 fun e=>ck (by rw[e];rfl))
    ·exact zg (.b (.v b)) (aN (by simpa using he) b)
   ·exact h.elim
  ·refine OP (rd h) (fun c=>by rw[fL];intro e;cases e) (fun t m ps=>by rw[fL];intro e;cases e)
 ·rename_i c fL
  obtain⟨callee,args,argTypes⟩:=c
  split at h
  ·rename_i b hb
   cases hb
   split at h
   ·split at h
    ·rename_i x t h1 h2
     simp only at h1 h2
     split at h
     ·rename_i e xs en fr hx
      split at h
      ·split at h
       ·exact G9 fL (rd h)
       ·obtain⟨bB,h⟩:=h
        obtain⟨dst,op,ty,pos,after,guard⟩:=o
        cases fL
        show(match args.toList,argTypes.toList with
         | [x],[t]=>eR (jW P t (cm (s.aJ cf.n).T x)) (rO (cm (s.aJ cf.n).T x) fun r=>Kp r _ _)
         | _,_=>False)
        simp only[h1,h2]
        rw[k0]
        show eR (jW P t (cF cf.n s x).bE) (rO (cF cf.n s x).bE _)
        rw[hx,bB]
        show(List.map _ _).length≤_→Kp (.int .i64 ((List.map _ _).length:Nat)) _ _
        rw[List.length_map]
        exact fun aL=>zg _ (h aL)
      ·exact h.elim
     ·exact G9 fL (rd h)
    ·exact h.elim
   ·split at h
    ·rename_i x y t t2 h1 h2
     simp only at h1 h2
     obtain⟨dst,op,ty,pos,after,guard⟩:=o
     cases fL
     show(match args.toList,argTypes.toList with
      | [s',x],[t,t2]=>eQ (cm (s.aJ cf.n).T s')=true∧eQ (cm (s.aJ cf.n).T x)=true∧tw P t t2 (cm (s.aJ cf.n).T s') (cm (s.aJ cf.n).T x) _ _ _
      | _,_=>False)
     simp only[h1,h2]
     rw[k0]
     exact SK aH aP hK h
    ·exact h.elim
   ·exact h.elim
  ·rename_i f hf
   cases hf
   split at h
   ·rename_i g caps hc
    rcases Kw h with⟨m,e,hm⟩ | hm
    ·subst e
     obtain⟨dst,op,ty,pos,after,guard⟩:=o
     cases fL
     show lM (cm (s.aJ cf.n).T f) fun g caps=>lf P g (args.toList.map (cm (s.aJ cf.n).T)++caps) _ _ Kp
     rw[k0]
     show lM (cF cf.n s f).bE fun g caps=>lf P g (args.toList.map (fun x=>(cF cf.n s x).bE)++caps) _ _ Kp
     rw[hc]
     have:=Tx (n:=cf.n) aH aP (fun v s' Z' h1 h2 aN=>hK v s' Z' h1 h2 aN) hm
     rw[nJ,List.map_append,List.map_map] at this
     show lf P m.f (_++cJ caps) _ _ Kp
     rw[nJ];exact this
    ·rcases Kx hm with⟨m,e,aI⟩ | hm
     ·subst e
      obtain⟨dst,op,ty,pos,after,guard⟩:=o
      cases fL
      show lM (cm (s.aJ cf.n).T f) fun g caps=>lf P g (args.toList.map (cm (s.aJ cf.n).T)++caps) _ _ Kp
      rw[k0]
      show lM (cF cf.n s f).bE fun g caps=>lf P g (args.toList.map (fun x=>(cF cf.n s x).bE)++caps) _ _ Kp
      rw[hc]
      have:=TD (n:=cf.n) (Kp:=Kp) aH aP (fun v s' Z' h1 h2 aN=>hK v s' Z' h1 h2 aN) aI
      rw[nJ,List.map_append,List.map_map] at this
      show lf P m.f (_++cJ caps) _ _ Kp
      rw[nJ];exact this
     ·exact G9 fL (rd hm)
   ·exact h.elim
  ·exact h.elim
 ·rename_i h1 h2 aN be ci cK gC
  exact OP (rd h) (fun c=>gC c) (fun t m ps=>ci t m ps)
end
def uv (b:Bool):TV:= .b (match b with
 | true=> .t
 | false=> .f)
theorem Nz (b:Bool):(uv b).bE= .bool b:=by cases b<;>rfl
def Cq (x:ew) (s:TS) (K:Bool→TS→aV):aV:=match x with
 | .t=>K true s
 | .f=>K false s
 | x=> .iP x s (K true ⟨[],s.T++s.B,s.vs,s.bp⟩) (K false ⟨[],s.T++s.B,s.vs,s.bp⟩)
def Cz (d:Nat) (v:TV):TV:=match v with
 | .b x=>(match x with
  | .v p=> .b (.at d p)
  | x=> .b x)
 | v=>v
theorem aep (d:Nat) (v:TV):(Cz d v).bE=v.bE:=by
 unfold Cz
 split
 ·split<;>rfl
 ·rfl
def kl (n:Nat) (s:TS) (d:Option Nat) (v:TV):TS:=match d with
 | none=>s
 | some d=>match Nat.blt d n with
  | true=>s.put d (Cz d v)
  | false=>s
theorem ad9 [FZ] {n:Nat} {s s':TS} (hv:s'.vs=s.vs) (hb:s'.bp=s.bp) (h: ∀k,s'.get k=s.get k):s'.aJ n=s.aJ n:=by
 have hc: ∀v c m,hL s' v c m=hL s v c m:=by
  intro v c m
  induction m generalizing c with
  | zero=>rfl
  | succ m bR=>rw[hL,hL,h _,bR]
 have aR:=Iw (n:=n) hb (fun b=>h _) (h dC)
 have cq:s'.tT n=s.tT n:=by unfold TS.tT;simp only[h]
 have bY:s'.cn=s.cn:=by unfold TS.cn;simp only[hv,hc]
 show(⟨s'.tT n,s'.cn,(s'.aJ n).H⟩:St)=_
 rw[cq,bY,aR];rfl
theorem RC (s:TS) (k:Nat):TS.get ⟨[],s.T++s.B,s.vs,s.bp⟩ k=s.get k:=by unfold TS.get;simp only;rw[rR];rfl
theorem ad6 [FZ] {n:Nat} (s:TS):TS.aJ n ⟨[],s.T++s.B,s.vs,s.bp⟩=s.aJ n:=ad9 rfl rfl (RC s)
theorem Iv [FZ] {n:Nat} {x:ew} {s:TS} {K:Bool→TS→aV} {R:Exit→TS→Prop} (h:(Cq x s K).den R): ∃s',s'.aJ n=s.aJ n∧(∀k,s'.get k=s.get k)∧(K x.den s').den R:=by
 have key:(aV.iP x s (K true ⟨[],s.T++s.B,s.vs,s.bp⟩) (K false ⟨[],s.T++s.B,s.vs,s.bp⟩)).den R→ ∃s',s'.aJ n=s.aJ n∧(∀k,s'.get k=s.get k)∧(K x.den s').den R:=fun h=>by
  refine⟨_,ad6 s,RC s,?_⟩
  ·cases hx:x.den with
   | true=>exact h.1 hx
   | false=>exact h.2 hx
 cases x with
 | t=>exact⟨s,rfl,fun _=>rfl,h⟩
 | f=>exact⟨s,rfl,fun _=>rfl,h⟩
 | _=>exact key h
theorem B2 {s:TS} {d k:Nat} {v:TV} (h:d<1000000) (hk:1000000≤k):(s.put d v).get k=s.get k:=by rw[TS.Eg,if_neg (by omega)]
theorem GS [FZ] {s:TS} {d:Nat} {v:TV} (h:d<1000000) (f:Fits s):Fits (s.put d v):=f.congr fun k h1 _=>B2 h h1
theorem Ox {s:TS} {d:Nat} {v:TV} (h:d<1000000):(s.put d v).cn=s.cn:=by
 have hc: ∀eW c m,hL (s.put d v) eW c m=hL s eW c m:=by
  intro eW c m
  induction m generalizing c with
  | zero=>rfl
  | succ m bR=>rw[hL,hL,B2 h (by unfold e6;omega),bR]
 show s.vs.map _=s.vs.map _
 simp only[hc]
theorem Ow [FZ] {n:Nat} {s:TS} {d:Nat} {v:TV} (h:d<1000000):((s.put d v).aJ n).H=(s.aJ n).H:=Iw rfl (fun b=>B2 h (by unfold bD;omega)) (B2 h (by unfold dC;omega))
theorem y_ [FZ] {n:Nat} (aH:n≤1000000) (s:TS) (d:Option Nat) (v:TV):(kl n s d v).aJ n=⟨putA (s.aJ n).T d v.bE,(s.aJ n).L,(s.aJ n).H⟩:=by
 cases d with
 | none=>rfl
 | some d=>
  unfold kl
  simp only
  split
  ·rename_i bi
   have bi:d<n:=by rw[←Nat.blt_eq];exact bi
   rw[←aep d v]
   generalize Cz d v=v
   have cq:(s.put d v).tT n=(s.tT n).set d v.bE:=by
    apply List.ext_getElem?
    intro t
    show((List.range n).map fun t=>((s.put d v).get t).bE)[t]?=(((List.range n).map fun t=>(s.get t).bE).set d v.bE)[t]?
    rw[List.getElem?_set]
    simp only[List.getElem?_map,List.length_map,List.length_range]
    rcases Nat.lt_or_ge t n with h | h
    ·rw[List.getElem?_range h]
     simp only[Option.map_some]
     rw[TS.Eg]
     by_cases e:d=t
     ·simp[e,h]
     ·simp[e]
    ·rw[List.getElem?_eq_none (l:=List.range n) (by simpa using h)]
     by_cases e:d=t
     ·omega
     ·simp[e]
   have bY:=Ox (s:=s) (v:=v) (show d<1000000 by omega)
   have aR:=Ow (n:=n) (s:=s) (v:=v) (show d<1000000 by omega)
   show(⟨(s.put d v).tT n,(s.put d v).cn,((s.put d v).aJ n).H⟩:St)=_
   rw[cq,bY,aR];rfl
  ·rename_i bi
   have bi: ¬d<n:=fun h=>by rw[←Nat.blt_eq] at h;rw[h] at bi;cases bi
   show s.aJ n=⟨(s.aJ n).T.set d v.bE,_,_⟩
   rw[List.set_eq_of_length_le]
   show((List.range n).map _).length≤d
   simp;omega
theorem y9 [FZ] {n:Nat} (aH:n≤1000000) {s:TS} {d:Option Nat} {v:TV} (f:Fits s):Fits (kl n s d v):=by
 unfold kl
 split
 ·exact f
 ·split
  ·rename_i bi
   exact GS (by rw[Nat.blt_eq] at bi;omega) f
  ·exact f
theorem OA [FZ] {n:Nat} {s:TS} {t:Nat} {v:TV} (br:t<1000000) (h:(s.get t).bE=v.bE):(s.put t v).aJ n=s.aJ n:=by
 have cq:(s.put t v).tT n=s.tT n:=by
  unfold TS.tT
  refine List.map_congr_left fun k _=> ?_
  rw[TS.Eg];split
  ·rename_i e;subst e;exact h.symm
  ·rfl
 have bY:=Ox (s:=s) (v:=v) br
 have aR:=Ow (n:=n) (s:=s) (v:=v) br
 show(⟨(s.put t v).tT n,(s.put t v).cn,((s.put t v).aJ n).H⟩:St)=_
 rw[cq,bY,aR];rfl
section
variable {P:Program} (cf:g8 P)
def BV (c x y:Operand) (s:TS) (K:TV→TS→aV):aV:=match cF cf.n s c with
 | .b z=>Cq z s fun b s=>
  let s:=match c with
   | .tmp t=>s.put t (uv b)
   | _=>s
  pb (cF cf.n s (bif b then x else y)) fun v=>K v s
 | _=> .no
def AM (ops:Array Oper) (o:Oper) (s:TS) (run skip:TS→aV):aV:=match o.guard with
 | none=>run s
 | some g=>match(ops[g.1]?).bind (·.dst) with
  | none=> .no
  | some t=>match cF cf.n s (.tmp t) with
   | .b z=>Cq z s fun b s=>bif b==g.2 then run (s.put t (uv b)) else skip (s.put t (uv b))
   | .tup c=>match c with
    | []=>skip s
    | _=> .no
   | _=> .no
def stepT (ej:pU P) (o:Oper) (s:TS) (K:TV→TS→aV):aV:=match o.op with
 | .pick c x y=>BV cf c x y s K
 | _=>CG cf s ej o K
def Cf (ej:pU P) (ops:Array Oper):List Oper→TS→(TS→aV)→aV
 | [],s,K=>K s
 | o::r,s,K=>AM cf ops o s (fun s=>stepT cf ej o s fun v s=>Cf ej ops r (kl cf.n s o.dst v) K) (fun s=>Cf ej ops r (kl cf.n s o.dst (.tup [])) K)
def D8 (ops:Array Oper) (s:TS):List Nat→aV→aV
 | [],k=>k
 | i::r,k=> .eq ((opI ops i).guard.isNone&&(opI ops i).dst.isSome) true (.eq (fun(Z:FZ) H Q=>lg P (opI ops i) (fun x=>(cF cf.n s x).bE) s.cn (@TS.gg Z s++H) Q) (fun _ _ Q=>Q (match(opI ops i).dst with
  | some d=>(cF cf.n s (.tmp d)).bE
  | none=> .undef)) (D8 ops s r k))
def s6 (ej:pU P) (ops:Array Oper):List Item→TS→(TS→aV)→aV
 | [],s,K=>K s
 | x::r,s,K=>AM cf ops (opI ops x.i) s
   (fun s=>match x.q with
    | true=>(match px (opI ops x.i) with
     | true=>(match(opI ops x.i).dst with
      | some d=> .eq (fun H Q=>lg P (opI ops x.i) (fun x=>(cF cf.n s x).bE) s.cn H Q) (fun _ Q=>Q (.fx d 0)) (s6 ej ops r (kl cf.n s (opI ops x.i).dst (.lp d 0)) K)
      | none=> .no)
     | false=>(match(opI ops x.i).op with
      | .pick c a b=>BV cf c a b s fun v s=>s6 ej ops r (kl cf.n s (opI ops x.i).dst v) K
      | _=>r0 cf s (opI ops x.i) fun v=>s6 ej ops r (kl cf.n s (opI ops x.i).dst v) K))
    | false=>(match(opI ops x.i).op with
     | .pick _ _ _=> .no
     | _=>CG cf s ej (opI ops x.i) fun v s=>D8 cf ops s x.jx (s6 ej ops r (kl cf.n s (opI ops x.i).dst v) K)))
   (fun s=>s6 ej ops r (kl cf.n s (opI ops x.i).dst (.tup [])) K)
def zR (P:Program) (ops:Array Oper):List Item→List (Nat×List TV)
 | []=>[]
 | x::r=>match x.q with
  | true=>(match(opI ops x.i).op with
   | .alloc e=>(match(opI ops x.i).dst with
    | some d=>(d,zQ P e)::zR P ops r
    | none=>zR P ops r)
   | _=>zR P ops r)
  | false=>zR P ops r
def I3:List (Nat×List TV)→List (Nat×TV)
 | []=>[]
 | (d,c)::r=>tD d 0 c++I3 r
def Dz (ej:pU P) (ops:Array Oper) (ord:List Item) (j6:List (List Nat)) (s:TS) (K:TS→aV):aV:=
 let iu:=zR P ops ord
 let s':=s.add (I3 iu) (iu.map (fun p=>(p.1,p.2.length))++s.vs) s.bp
 match o6 (I3 iu) with
 | false=> .no
 | true=> .eq (P.follows .mixedOrders) true (.eq j6.length ops.size (.eq (vD ops ord (xM j6)) true (.eq (ord.all (·.lit)) true (.eq s'.cn (iu.map (fun p=>(p.1,cJ p.2))++s.cn)
  (.eq (tG (iu.map fun p=>(p.1,cJ p.2)) s.cn) true (.eq (tv ops s.cn ord) true (s6 cf ej ops ord s' K)))))))
end
section
variable {P:Program} {cf:g8 P} {R:Exit→TS→Prop}
theorem Gl {n t:Nat} {s:TS} {v:TV} (h:cF n s (.tmp t)=v) (hv:v≠ .u):t<n∧s.get t=v:=by
 have h:(match Nat.blt t n with
  | true=>s.get t
  | false=>TV.u)=v:=h
 split at h
 ·rename_i hb;exact⟨by rw[←Nat.blt_eq];exact hb,h⟩
 ·exact absurd h.symm hv
end
section
variable {P:Program} {cf:g8 P} {R:Exit→TS→Prop}
theorem abj {T:List AV} {t:Nat} {a:AV} (h:T.getD t .undef=a):T.set t a=T∨a= .undef:=by
 by_cases aL:t<T.length
 ·left
  rw[List.getD_eq_getElem?_getD,List.getElem?_eq_getElem aL] at h
  have h:T[t]=a:=h
  rw[←h];exact List.set_getElem_self ..
 ·right;rw[←h,List.getD_eq_getElem?_getD,List.getElem?_eq_none (by omega)];rfl
end
section
variable {P:Program} {cf:g8 P} {R:Exit→TS→Prop}
theorem aah {o:Oper} {T:List AV} {K:AV→Prop} {As:Prop} (h: ∀c x y,o.op≠ .pick c x y):uK true o T K As=As:=by
 unfold uK
 split
 ·rename_i c x y e;exact absurd e (h c x y)
 ·rfl
end
section
variable [Z:FZ] {P:Program} {cf:g8 P} {R:Exit→TS→Prop}
theorem KM (aH:cf.n≤1000000) {ops:Array Oper} {o:Oper} {s:TS} {run skip:TS→aV} {x y:List AV→Prop} (aP:Fits s) (hx: ∀s',Fits s'→s'.aJ cf.n=s.aJ cf.n→(run s').den R→x (s.aJ cf.n).T) (bt: ∀s',Fits s'→s'.aJ cf.n=s.aJ cf.n→(skip s').den R→y (s.aJ cf.n).T)
  (h:(AM cf ops o s run skip).den R):nS ops true o (s.aJ cf.n).T x y:=by
 unfold AM at h
 unfold nS
 split at h
 ·rename_i hg;rw[hg];exact hx s aP rfl h
 ·rename_i g hg
  obtain⟨j,cy⟩:=g
  rw[hg]
  simp only at h ⊢
  split at h
  ·exact h.elim
  ·rename_i t br
   rw[br]
   simp only
   have cq:(s.aJ cf.n).T.getD t .undef=(cF cf.n s (.tmp t)).bE:=by
    have:=congrFun (k0 cf.n s) (.tmp t);exact this
   split at h
   ·rename_i z qs
    rw[qs] at cq
    rw[cq]
    show o7 true z.den _ _
    obtain⟨aL,g_⟩:=Gl qs (fun e=>by cases e)
    obtain⟨s',bB,e2,h⟩:=Iv (n:=cf.n) h
    have n1:Fits (s'.put t (uv z.den)):=GS (by omega) (aP.congr fun k _ _=>e2 k)
    have rH:(s'.put t (uv z.den)).aJ cf.n=s.aJ cf.n:=by
     rw[OA (by omega) (by rw[e2,g_,Nz];rfl),bB]
    have kX: ∀b,z.den=b→(s.aJ cf.n).T.set t (.bool b)=(s.aJ cf.n).T:=fun b hb=>by
     rcases abj (show(s.aJ cf.n).T.getD t .undef= .bool b by rw[cq,←hb];rfl) with q | q
     ·exact q
     ·cases q
    cases pu:z.den with
    | true=>
     rw[pu] at h rH n1
     show if cy=true then _ else _
     rw[kX true pu]
     cases cy with
     | true=>rw[if_pos rfl];exact hx _ n1 rH h
     | false=>rw[if_neg (by simp)];exact bt _ n1 rH h
    | false=>
     rw[pu] at h rH n1
     show if cy=true then _ else _
     rw[kX false pu]
     cases cy with
     | true=>rw[if_pos rfl];exact bt _ n1 rH h
     | false=>rw[if_neg (by simp)];exact hx _ n1 rH h
   ·rename_i c qs
    rw[qs] at cq
    split at h
    ·rw[cq];exact bt s aP rfl h
    ·exact h.elim
   ·exact h.elim
theorem Od (aH:cf.n≤1000000) {c x y:Operand} {s:TS} {K:TV→TS→aV} {Kp:AV→Prop} (aP:Fits s) (hK: ∀v s',Fits s'→s'.aJ cf.n=s.aJ cf.n→(K v s').den R→Kp v.bE) (h:(BV cf c x y s K).den R):
  ov (cm (s.aJ cf.n).T c) fun z=>o7 true z (Kp (cm (s.aJ cf.n).T x)) (Kp (cm (s.aJ cf.n).T y)):=by
 unfold BV at h
 split at h
 ·rename_i z qs
  obtain⟨s',bB,e2,h⟩:=Iv (n:=cf.n) h
  simp only at h
  rw[qc] at h
  generalize Bd:(match c with
   | .tmp t=>s'.put t (uv z.den)
   | _=>s')=s2 at h
  have dK:s2.aJ cf.n=s.aJ cf.n:=by
   rw[←Bd,←bB]
   split
   ·rename_i t
    obtain⟨aL,g_⟩:=Gl qs (fun e=>by cases e)
    exact OA (by omega) (by rw[e2,g_,Nz];rfl)
   ·rfl
  have hf2:Fits s2:=by
   rw[←Bd]
   split
   ·rename_i t
    obtain⟨aL,g_⟩:=Gl qs (fun e=>by cases e)
    exact GS (by omega) (aP.congr fun k _ _=>e2 k)
   ·exact aP.congr fun k _ _=>e2 k
  have:=hK _ _ hf2 dK h
  have aC: ∀o,(cF cf.n s2 o).bE=cm (s.aJ cf.n).T o:=fun o=>by rw[←dK,k0]
  rw[aC] at this
  have hc:cm (s.aJ cf.n).T c= .bool z.den:=by
   have:=congrFun (k0 cf.n s) c
   rw[this]
   show(cF cf.n s c).bE=_
   rw[qs];rfl
  rw[hc]
  show o7 true z.den _ _
  cases pu:z.den with
  | true=>rw[pu] at this;exact this
  | false=>rw[pu] at this;exact this
 ·exact h.elim
theorem aed (aH:cf.n≤1000000) {ej:pU P} {o:Oper} {s:TS} {K:TV→TS→aV} {Kp:AV→List (Nat×List AV)→List Blk→Prop} (aP:Fits s) (hK:vo cf s R K Kp) (h:(stepT cf ej o s K).den R):
  uK true o (s.aJ cf.n).T (fun v=>Kp v (s.aJ cf.n).L (s.aJ cf.n).H) (j9 P [] o (cm (s.aJ cf.n).T) (s.aJ cf.n).L (s.aJ cf.n).H Kp):=by
 unfold stepT at h
 split at h
 ·rename_i c x y fL
  unfold uK
  rw[fL]
  exact Od aH (Kp:=fun v=>Kp v (s.aJ cf.n).L (s.aJ cf.n).H) aP (fun v s' hf e hv=>by
   have eT:s'.tT cf.n=s.tT cf.n:=congrArg St.T e
   have iN:s'.cn=s.cn:=congrArg St.L e
   have:=hK v s' Z hv hf eT
   rw[iN,e] at this;exact this) h
 ·rename_i ck
  rw[aah fun c x y=>ck c x y]
  exact R7 aH aP hK h
end
section
variable {P:Program} {cf:g8 P} {R:Exit→TS→Prop}
theorem Hd (aH:cf.n≤1000000) {ej:pU P} {ops:Array Oper} {K:TS→aV} {Kp:List AV→List (Nat×List AV)→List Blk→Prop} (hK: ∀s (Z:FZ),(K s).den R→ @Fits Z s→Kp (s.tT cf.n) s.cn (@TS.aJ Z cf.n s).H): ∀(l:List Oper) (Z:FZ) (s:TS),@Fits Z s→(Cf cf ej ops l s K).den R→
  evOps P [] ops (l.map fun o=>(o,true)) (s.tT cf.n) s.cn (@TS.aJ Z cf.n s).H Kp
 | [],Z,s,aP,h=>hK s Z h aP
 | o::r,Z,s,aP,h=>by
  refine KM (Z:=Z) aH aP (fun s' hf e h=> ?_) (fun s' hf e h=> ?_) h
  ·have iN:s'.cn=s.cn:=congrArg St.L e
   rw[←e,←iN]
   exact aed (Z:=Z) aH (Kp:=fun v L' H'=>evOps P [] ops (r.map fun o=>(o,true)) (putA (s'.tT cf.n) o.dst v) L' H' Kp) hf (fun v s2 Z2 hv hf2 e2=>by
    have:=Hd aH hK r Z2 _ (@y9 Z2 _ aH _ _ _ hf2) hv
    have dK:= @y_ Z2 cf.n aH s2 o.dst v
    have eT:(kl cf.n s2 o.dst v).tT cf.n=putA (s2.tT cf.n) o.dst v.bE:=congrArg St.T dK
    have DG:(kl cf.n s2 o.dst v).cn=s2.cn:=congrArg St.L dK
    rw[eT,DG,dK] at this
    rw[←e2];exact this) h
  ·have:=Hd aH hK r Z _ (y9 aH hf) h
   have dK:= @y_ Z cf.n aH s' o.dst (.tup [])
   have eT:(kl cf.n s' o.dst (.tup [])).tT cf.n=putA (s'.tT cf.n) o.dst (.tup []):=congrArg St.T dK
   have DG:(kl cf.n s' o.dst (.tup [])).cn=s'.cn:=congrArg St.L dK
   rw[eT,DG,dK] at this
   have iM:s'.tT cf.n=s.tT cf.n:=congrArg St.T e
   have ig:s'.cn=s.cn:=congrArg St.L e
   rw[iM,ig,e] at this
   exact this
end
section
variable [Z:FZ] {P:Program} {cf:g8 P} {R:Exit→TS→Prop}
theorem KB {ops:Array Oper} {s:TS} {k:aV}: ∀{jx:List Nat},(D8 cf ops s jx k).den R→rn P ops jx (s.aJ cf.n).T (s.aJ cf.n).L (s.aJ cf.n).H∧k.den R
 | [],h=>⟨trivial,h⟩
 | i::r,h=>by
  obtain⟨h1,h2,aN⟩:=h
  simp only[Bool.and_eq_true] at h1
  obtain⟨q1,q2⟩:=KB aN
  refine⟨⟨⟨h1.1,h1.2,?_⟩,q1⟩,q2⟩
  rw[k0]
  have:=congrFun (congrFun (congrFun h2 Z) (gY s)) (fun v=>v=sj (opI ops i) (s.aJ cf.n).T)
  have this:lg P (opI ops i) (fun x=>(cF cf.n s x).bE) (s.aJ cf.n).L (s.aJ cf.n).H (fun v=>v=sj (opI ops i) (s.aJ cf.n).T)=_:=this
  rw[this]
  unfold sj
  cases(opI ops i).dst with
  | none=>rfl
  | some d=>
   have:=congrFun (k0 cf.n s) (.tmp d)
   exact this.symm
end
section
variable {P:Program} {cf:g8 P} {R:Exit→TS→Prop}
theorem aav (Z:FZ) (aH:cf.n≤1000000) (s:TS) (d:Option Nat) (v:TV):(kl cf.n s d v).tT cf.n=putA (s.tT cf.n) d v.bE∧(kl cf.n s d v).cn=s.cn∧(@TS.aJ Z cf.n (kl cf.n s d v)).H=(@TS.aJ Z cf.n s).H:=by
 have dK:= @y_ Z cf.n aH s d v
 exact⟨congrArg St.T dK,congrArg St.L dK,by rw[dK]⟩
theorem OY (aH:cf.n≤1000000) {ej:pU P} {ops:Array Oper} {K:TS→aV} {Kp:List AV→List (Nat×List AV)→List Blk→Prop} (hK: ∀s (Z:FZ),(K s).den R→ @Fits Z s→Kp (s.tT cf.n) s.cn (@TS.aJ Z cf.n s).H): ∀(l:List Item) (Z:FZ) (s:TS),@Fits Z s→l.all (·.lit)=true→(s6 cf ej ops l s K).den R→
  j_ P [] ops l (s.tT cf.n) s.cn (@TS.aJ Z cf.n s).H Kp
 | [],Z,s,aP,_,h=>hK s Z h aP
 | x::r,Z,s,aP,aL,h=>by
  simp only[List.all_cons,Bool.and_eq_true] at aL
  show nS ops x.lit (opI ops x.i) _ _ _
  rw[aL.1]
  have next: ∀(s' s2:TS) (Z2:FZ) (v:TV),@Fits Z2 s2→s2.tT cf.n=s'.tT cf.n→(s6 cf ej ops r (kl cf.n s2 (opI ops x.i).dst v) K).den R→j_ P [] ops r (putA (s'.tT cf.n) (opI ops x.i).dst v.bE) s2.cn (@TS.aJ Z2 cf.n s2).H Kp:=fun s' s2 Z2 v hf e hv=>by
   have:=OY aH hK r Z2 _ (@y9 Z2 _ aH _ _ _ hf) aL.2 hv
   obtain⟨q1,q2,q3⟩:=aav (cf:=cf) Z2 aH s2 (opI ops x.i).dst v
   rw[q1,q2,q3] at this
   rw[←e];exact this
  refine KM (Z:=Z) aH aP (fun s' hf e h=> ?_) (fun s' hf e h=> ?_) h
  ·have iN:s'.cn=s.cn:=congrArg St.L e
   rw[←e,←iN]
   cases ak:x.q with
   | true=>
    rw[ak] at h
    show lg P (opI ops x.i) (cm (s'.aJ cf.n).T) (s'.aJ cf.n).L (s'.aJ cf.n).H _
    cases a3:px (opI ops x.i) with
    | true=>
     rw[a3] at h
     simp only at h
     split at h
     ·rename_i d bi
      obtain⟨h1,h2⟩:=h
      rw[k0]
      have:=congrFun (congrFun h1 (s'.aJ cf.n).H) (fun v=>j_ P [] ops r (putA (s'.aJ cf.n).T (opI ops x.i).dst v) (s'.aJ cf.n).L (s'.aJ cf.n).H Kp)
      have this:lg P (opI ops x.i) (fun x=>(cF cf.n s' x).bE) (s'.aJ cf.n).L (s'.aJ cf.n).H (fun v=>j_ P [] ops r (putA (s'.aJ cf.n).T (opI ops x.i).dst v) (s'.aJ cf.n).L (s'.aJ cf.n).H Kp)=_:=this
      refine Eq.mpr this ?_
      exact next s' s' Z (.lp d 0) hf rfl h2
     ·exact h.elim
    | false=>
     rw[a3] at h
     rw[vL a3]
     simp only at h
     split at h
     ·rename_i c a b fL
      have:=Od (Z:=Z) aH (Kp:=fun v=>j_ P [] ops r (putA (s'.aJ cf.n).T (opI ops x.i).dst v) (s'.aJ cf.n).L (s'.aJ cf.n).H Kp) hf (fun v s2 hf2 e2 hv=>by
       have:=next s' s2 Z v hf2 (congrArg St.T e2) hv
       have dK:s2.cn=s'.cn:=congrArg St.L e2
       rw[dK,e2] at this;exact this) h
      unfold jQ
      rw[fL];exact this
     ·exact OO hf (Kp:=fun v=>j_ P [] ops r (putA (s'.aJ cf.n).T (opI ops x.i).dst v) (s'.aJ cf.n).L (s'.aJ cf.n).H Kp) (fun v hv=>next s' s' Z v hf rfl hv) h
   | false=>
    rw[ak] at h
    simp only at h
    split at h
    ·exact h.elim
    ·exact R7 (Z:=Z) aH hf (Kp:=fun v L' H'=>rn P ops x.jx (s'.tT cf.n) L' H'∧j_ P [] ops r (putA (s'.tT cf.n) (opI ops x.i).dst v) L' H' Kp) (fun v s2 Z2 hv hf2 e2=>by
      obtain⟨q1,q2⟩:=KB (Z:=Z2) hv
      have q1:rn P ops x.jx (s2.tT cf.n) s2.cn (@TS.aJ Z2 cf.n s2).H:=q1
      rw[e2] at q1
      exact⟨q1,next s' s2 Z2 v hf2 e2 q2⟩) h
  ·have:=next s' s' Z (.tup []) hf rfl h
   have iM:s'.tT cf.n=s.tT cf.n:=congrArg St.T e
   have ig:s'.cn=s.cn:=congrArg St.L e
   rw[iM,ig,e] at this
   exact this
end
end Go.Proofs.Ytglpfccgmfhkdaa.Fw
