/- The machine, part A: kinds of values, values told by their kinds, trees of conditions. -/
import Derived.Test.YtglpfccgmfhkdaaM2
set_option linter.unusedVariables false
namespace Go.Proofs.Ytglpfccgmfhkdaa.Fw
open Go
inductive bN where
 | int | u64 | u8 | bool | str | bx | km | dW | iS | g6 | held | frame | done | fault | stays | kX | unit | nat
 | l (e:bN)
 | ptr (e:bN)
 | hZ (f:Nat) (e:bN)
 deriving DecidableEq,Inhabited
@[reducible] def bN.T:bN→Type
 | .int=>Int
 | .u64=>Int
 | .u8=>UInt8
 | .bool=>Bool
 | .str=>ByteArray
 | .bx=>ch
 | .km=>Way
 | .dW=>aB
 | .iS=>Event
 | .g6=>aN
 | .held=>aa
 | .frame=>Frame
 | .done=>cP
 | .fault=>ij
 | .stays=>l7
 | .kX=>zW
 | .unit=>Unit
 | .nat=>Nat
 | .l e=>List e.T
 | .ptr e=>e.T
 | .hZ _ e=>e.T
@[reducible] def bN.sd:(e:bN)→Inhabited e.T
 | .int=>inferInstanceAs (Inhabited Int)
 | .u64=>inferInstanceAs (Inhabited Int)
 | .u8=>inferInstanceAs (Inhabited UInt8)
 | .bool=>inferInstanceAs (Inhabited Bool)
 | .str=>inferInstanceAs (Inhabited ByteArray)
 | .bx=>inferInstanceAs (Inhabited ch)
 | .km=>inferInstanceAs (Inhabited Way)
 | .dW=>inferInstanceAs (Inhabited aB)
 | .iS=>inferInstanceAs (Inhabited Event)
 | .g6=>inferInstanceAs (Inhabited aN)
 | .held=>inferInstanceAs (Inhabited aa)
 | .frame=>inferInstanceAs (Inhabited Frame)
 | .done=>inferInstanceAs (Inhabited cP)
 | .fault=>inferInstanceAs (Inhabited ij)
 | .stays=>inferInstanceAs (Inhabited l7)
 | .kX=>inferInstanceAs (Inhabited zW)
 | .unit=>inferInstanceAs (Inhabited Unit)
 | .nat=>inferInstanceAs (Inhabited Nat)
 | .l e=>inferInstanceAs (Inhabited (List e.T))
 | .ptr e=>e.sd
 | .hZ _ e=>e.sd
def qU (e:bN) (xs:List e.T) (i:Int):e.T:= @nth e.T e.sd xs i
def dr:List bN→Type
 | []=>Unit
 | e::r=>e.T×dr r
def bN.lu:bN→List bN
 | .bx=>[.int,.int]
 | .km=>[.l .int,.l .bx,.l .bx,.l .int,.l .int]
 | .dW=>[.int,.l .int,.l .km,.l (.l .bool),.int]
 | .iS=>[.int,.int,.int]
 | .g6=>[.int,.int]
 | .held=>[.int,.int,.l .bool,.bool,.int]
 | .frame=>[.bool,.l .bool,.l .g6,.l .held]
 | .done=>[.int,.bool,.l .bool,.l .g6,.l .held]
 | .fault=>[.int,.int]
 | .stays=>[.l .int,.l .int,.l .int]
 | .kX=>[.l .u8,.int,.u64]
 | e=>[e]
def bN.isS:bN→Bool
 | .bx | .km | .dW | .iS | .g6 | .held | .frame | .done | .fault | .stays | .kX=>true
 | _=>false
def bN.mk:(e:bN)→dr e.lu→e.T
 | .bx,(a,b,_)=>⟨a,b⟩
 | .km,(a,b,c,d,e,_)=>⟨a,b,c,d,e⟩
 | .dW,(a,b,c,d,e,_)=>⟨a,b,c,d,e⟩
 | .iS,(a,b,c,_)=>⟨a,b,c⟩
 | .g6,(a,b,_)=>⟨a,b⟩
 | .held,(a,b,c,d,e,_)=>⟨a,b,c,d,e⟩
 | .frame,(a,b,c,d,_)=>⟨a,b,c,d⟩
 | .done,(a,b,c,d,e,_)=>⟨a,⟨b,c,d,e⟩⟩
 | .fault,(a,b,_)=>⟨a,b⟩
 | .stays,(a,b,c,_)=>⟨a,b,c⟩
 | .kX,(a,b,c,_)=>⟨a,b,c⟩
 | .int,(a,_)=>a
 | .u64,(a,_)=>a
 | .u8,(a,_)=>a
 | .bool,(a,_)=>a
 | .str,(a,_)=>a
 | .unit,(a,_)=>a
 | .nat,(a,_)=>a
 | .l _,(a,_)=>a
 | .ptr _,(a,_)=>a
 | .hZ _ _,(a,_)=>a
def bN.un:(e:bN)→e.T→dr e.lu
 | .bx,x=>(x.bb,x.bx,())
 | .km,x=>(x.ai,x.aZ,x.br,x.cw,x.ct,())
 | .dW,x=>(x.ai,x.bh,x.ways,x.bars,x.hold,())
 | .iS,x=>(x.op,x.ag,x.bx,())
 | .g6,x=>(x.want,x.aZ,())
 | .held,x=>(x.state,x.gone,x.been,x.shown,x.timer,())
 | .frame,x=>(x.ok,x.al,x.ak,x.ways,())
 | .done,x=>(x.code,x.frame.ok,x.frame.al,x.frame.ak,x.frame.ways,())
 | .fault,x=>(x.code,x.pos,())
 | .stays,x=>(x.ways,x.ai,x.ak,())
 | .kX,x=>(x.code,x.pos,x.L8,())
 | .int,x=>(x,())
 | .u64,x=>(x,())
 | .u8,x=>(x,())
 | .bool,x=>(x,())
 | .str,x=>(x,())
 | .unit,x=>(x,())
 | .nat,x=>(x,())
 | .l _,x=>(x,())
 | .ptr _,x=>(x,())
 | .hZ _ _,x=>(x,())
theorem bN.NY (e:bN) (x:dr e.lu):e.un (e.mk x)=x:=by cases e<;>rfl
def c_ (fr:Bool):(e:bN)→e.T→List AV
 | .int,x=>bW x
 | .u64,x=>[.int .u64 x]
 | .u8,x=>jg x
 | .bool,x=>aH x
 | .str,x=>AP x
 | .bx,x=>cD x
 | .km,x=>c9 fr x
 | .dW,x=>a8 fr x
 | .iS,x=>eE x
 | .g6,x=>a1 x
 | .held,x=>cd fr x
 | .frame,x=>bS fr x
 | .done,x=>fT fr x
 | .fault,x=>AM x
 | .stays,x=>AO fr x
 | .kX,x=>P3 fr x
 | .l e,x=>[.be (x.map (c_ false e)) false fr]
 | .unit,_ | .nat,_ | .ptr _,_ | .hZ _ _,_=>[.undef]
def nL (fr:Bool):(e:bN)→e.T→AV
 | .int,x=> .int .i64 x
 | .u64,x=> .int .u64 x
 | .u8,x=> .int .u8 x.toNat
 | .bool,x=> .bool x
 | .str,x=> .str x
 | .l e,x=> .be (x.map (c_ false e)) false fr
 | _,_=> .undef
def mI (fr:Bool):(es:List bN)→dr es→List AV
 | [],_=>[]
 | e::r,x=>nL fr e x.1::mI fr r x.2
theorem qt (fr:Bool) (e:bN) (x:e.T):mI fr e.lu (e.un x)=c_ fr e x:=by
 cases e<;>first | rfl | (simp only[bN.lu,bN.un,mI,nL,c_];rfl)
def bN.k8:bN→Nat
 | .bx=>2
 | .km=>5
 | .dW=>5
 | .iS=>3
 | .g6=>2
 | .held=>5
 | .frame=>4
 | .done=>5
 | .fault=>2
 | .stays=>3
 | .kX=>3
 | _=>1
theorem rJ (fr:Bool) (e:bN) (x:e.T):(c_ fr e x).length=e.k8:=by cases e<;>rfl
def bN.qW:bN→Bool
 | .unit | .nat | .ptr _ | .hZ _ _=>false
 | _=>true
theorem P8 {fr:Bool} {e:bN} (h:e.qW=true) (x:e.T):(c_ fr e x).all ie=true:=by cases e<;>first | rfl | cases h
inductive dY where
 | t | f
 | v (b:Bool)
 | at(i:Nat) (b:Bool)
 | n (x:dY)
 | ao (x y:dY)
 | or (x y:dY)
 | ite (c x y:dY)
 deriving Inhabited
def dY.den:dY→Bool
 | .t=>true
 | .f=>false
 | .v b=>b
 | .at _ b=>b
 | .n x=> !x.den
 | .ao x y=>x.den&&y.den
 | .or x y=>x.den || y.den
 | .ite c x y=>bif c.den then x.den else y.den
def dY.not:dY→dY
 | .t=> .f
 | .f=> .t
 | x=> .n x
def dY.st (b x y:dY):dY:=match x with
 | .t=>(match y with
  | .t=> .t
  | .f=>b
  | y=> .or b y)
 | .f=>(match y with
  | .f=> .f
  | .t=> .n b
  | y=> .ao (.n b) y)
 | x=>(match y with
  | .f=> .ao b x
  | .t=> .or (.n b) x
  | y=> .ite b x y)
theorem dY.wC (b x y:dY):(dY.st b x y).den=bif b.den then x.den else y.den:=by
 cases x<;>cases y<;>simp only[dY.st,dY.den]<;>cases b.den<;>simp
inductive TV where
 | u
 | i (k:IntKind) (n:Int)
 | b (x:dY)
 | s (x:ByteArray)
 | l (e:bN) (xs:List e.T) (full fr:Bool)
 | nil (full fr:Bool)
 | ref (b g n:Nat) (full:Bool)
 | ptr (b g:Nat) (i:Int) (n col:Nat)
 | lp (t col:Nat)
 | cZ (e:bN) (x:e.T) (col:Nat)
 | agg (c:List TV)
 | tup (c:List TV)
 | fn (f:FuncId) (c:List TV)
 | o (a:AV)
 | blk (g:Nat) (e:bN) (xs:List e.T) (n:Nat) (h:xs.length=n)
 | i_ (g:Nat) (c:List TV)
 | kn (g m:Nat) (ids:List Nat)
 | gm (V:List aa) (ids:List Nat) (n:Nat) (h:V.length=n)
 | new (id:Nat) (xs:List Bool)
 | tx (w:Int) (ids:List Nat) (m n:Nat)
 | tw (w:Int) (ids:List Nat) (m:Nat) (j:Int)
 | wv (id m n:Nat)
 deriving Inhabited
class FZ where
 ws:List aa
 bs:List (List Bool)
mutual
def TV.bz:TV→AV
 | .u=> .undef
 | .i k n=> .int k n
 | .b x=> .bool x.den
 | .s x=> .str x
 | .l e xs full fr=> .be (xs.map (c_ false e)) full fr
 | .nil full fr=> .be [] full fr
 | .ref b g n full=> .ref b g 0 n full
 | .ptr b g i _ c=> .ptr b g i.toNat c
 | .lp t c=> .e6 t c
 | .cZ e x c=> .cZ (c_ false e x) c
 | .agg c=> .agg (dd c)
 | .tup c=> .tup (dd c)
 | .fn f c=> .fn f (dd c)
 | .o a=>a
 | .blk _ _ _ _ _=> .undef
 | .i_ _ _=> .undef
 | .kn _ _ _=> .undef
 | .gm _ _ _ _=> .undef
 | .new _ _=> .undef
 | .tx w ids m k=> .ref (nth ids w+m) 0 0 k false
 | .tw w ids m j=> .ptr (nth ids w+m) 0 j.toNat 0
 | .wv id m k=> .ref (id+m) 0 0 k false
def dd:List TV→List AV
 | []=>[]
 | x::r=>x.bz::dd r
end
theorem nH (l:List TV):dd l=l.map TV.bz:=by
 induction l with
 | nil=>rfl
 | cons x r bO=>rw[dd,bO];rfl
def TV.dC [Z:FZ]:TV→Blk
 | .blk g e xs _ _=>⟨g,e.k8,xs.map (c_ true e)⟩
 | .i_ g c=>⟨g,c.length,[dd c]⟩
 | .kn g m ids=>⟨g,5,aT m Z.ws ids⟩
 | _=>⟨0,0,[]⟩
def w5 (fr:Bool):(e:bN)→e.T→TV
 | .int,x=> .i .i64 x
 | .u64,x=> .i .u64 x
 | .u8,x=> .i .u8 x.toNat
 | .bool,x=> .b (.v x)
 | .str,x=> .s x
 | .l e,x=> .l e x false fr
 | _,_=> .u
def zJ (fr:Bool):(es:List bN)→dr es→List TV
 | [],_=>[]
 | e::r,x=>w5 fr e x.1::zJ fr r x.2
theorem F6 (fr:Bool) (e:bN) (x:e.T):(w5 fr e x).bz=nL fr e x:=by cases e<;>rfl
theorem NT (fr:Bool): ∀(es:List bN) (x:dr es),dd (zJ fr es x)=mI fr es x
 | [],_=>rfl
 | e::r,x=>by rw[zJ,dd,mI,F6,NT fr r]
def lK (fr:Bool) (e:bN) (x:e.T):List TV:=zJ fr e.lu (e.un x)
theorem xE (fr:Bool) (e:bN) (x:e.T):dd (lK fr e x)=c_ fr e x:=by rw[lK,NT,qt]
structure TS where
 T:List (Nat×TV)
 B:List (Nat×TV)
 vs:List (Nat×Nat)
 bB:Nat
 deriving Inhabited
def hj:List (Nat×TV)→Nat→TV→TV
 | [],_,d=>d
 | (k,v)::r,t,d=>match Nat.beq k t with
  | true=>v
  | false=>hj r t d
def fB (v c:Nat):Nat:=1000010+(1000*v+c)
def dE:Nat:=1000000
def fs:Nat:=1000001
def bY (b:Nat):Nat:=1000000000000+b
def TS.get (s:TS) (k:Nat):TV:=hj s.T k (hj s.B k .u)
def TS.put (s:TS) (k:Nat) (v:TV):TS:=⟨(k,v)::s.T,s.B,s.vs,s.bB⟩
def hN (s:TS) (v:Nat):Nat→Nat→List TV
 | _,0=>[]
 | c,m+1=>s.get (fB v c)::hN s v (c+1) m
def TS.tT (n:Nat) (s:TS):List AV:=(List.range n).map fun t=>(s.get t).bz
def TS.cy (s:TS):List (Nat×List AV):=s.vs.map fun p=>(p.1,dd (hN s p.1 0 p.2))
def iX (s:TS):Bool:=match s.get dE with
 | .gm _ _ _ _=>false
 | _=>true
def h3 [Z:FZ] (s:TS):List Blk:=match iX s with
 | true=>[]
 | false=>Z.bs.map bc
def TS.gi [FZ] (s:TS):List Blk:=(List.range s.bB).map fun b=>(s.get (bY b)).dC
def TS.aD [FZ] (n:Nat) (s:TS):St:=⟨s.tT n,s.cy,s.gi++h3 s⟩
def Fits [Z:FZ] (s:TS):Prop:=
 (∀V ids n h,s.get dE= .gm V ids n h→fL Z.ws ids Z.bs∧view Z.ws ids Z.bs=V∧ ∀id xs,s.get fs= .new id xs→id<Z.bs.length∧Z.bs.getD id []=xs∧ ∀j:Nat,ids[j]?≠some id)
theorem Fits.congr [FZ] {s s':TS} (h:Fits s) (e: ∀k,1000000≤k→k<1000010→s'.get k=s.get k):Fits s':=fun V ids n h' ln=>by
 rw[e dE (by unfold dE;omega) (by unfold dE;omega)] at ln
 obtain⟨h1,h2,bt⟩:=h V ids n h' ln
 refine⟨h1,h2,fun id xs hi=>bt id xs ?_⟩
 rw[←hi,e fs (by unfold fs;omega) (by unfold fs;omega)]
theorem Fits.none [FZ] {s:TS} (h:iX s=true):Fits s:=fun V ids n h' ln=>by
 unfold iX at h;rw[ln] at h;cases h
theorem gJ (k:Nat) (v:TV) (r:List (Nat×TV)) (t:Nat) (d:TV):hj ((k,v)::r) t d=if k=t then v else hj r t d:=by
 show(match Nat.beq k t with
  | true=>v
  | false=>hj r t d)=_
 by_cases h:k=t
 ·subst h;rw[Nat.beq_refl,if_pos rfl]
 ·rw[if_neg h]
  cases hb:Nat.beq k t with
  | true=>exact absurd (Nat.eq_of_beq_eq_true hb) h
  | false=>rfl
theorem uk (A B:List (Nat×TV)) (t:Nat) (d:TV):hj (A++B) t d=hj A t (hj B t d):=by
 induction A with
 | nil=>rfl
 | cons p r bO=>obtain⟨k,v⟩:=p;rw[List.cons_append,gJ,gJ,bO]
theorem sk {A:List (Nat×TV)} {t:Nat} {d:TV} (h: ∀v,(t,v) ∉ A):hj A t d=d:=by
 induction A with
 | nil=>rfl
 | cons p r bO=>
  obtain⟨k,v⟩:=p
  rw[gJ,if_neg,bO fun w hw=>h w (List.mem_cons_of_mem _ hw)]
  rintro rfl;exact h v (List.mem_cons_self ..)
theorem TS.Bi (s:TS) (k:Nat) (v:TV) (t:Nat):(s.put k v).get t=if k=t then v else s.get t:=gJ ..
inductive aU:Type 1 where
 | jP (ex:Exit) (s:TS)
 | gW
 | no
 | p (φ:Prop) (t:aU)
 | iV (φ:Prop) (t:aU)
 | h5 (b:dY) (s:TS) (x y:aU)
 | two (x y:aU)
 | g3 (x:aU) (eY:List Prop) (b:dY) (y:aU)
 | all (α:Type) (f:α→aU)
 | eq {α:Type} (a b:α) (t:aU)
def oy:List Prop→Prop
 | []=>True
 | φ::r=>match r with
  | []=>φ
  | r=>φ∧oy r
theorem G4: ∀{l:List Prop},(∀φ∈l,φ)→oy l
 | [],_=>trivial
 | [φ],h=>h φ (by simp)
 | φ::ψ::r,h=>⟨h φ (by simp),G4 (l:=ψ::r) fun x hx=>h x (List.mem_cons_of_mem _ hx)⟩
def tr (eY:List Prop):dY→List Prop
 | .t=>eY
 | b=>eY++[b.den=true]
def vx (eY:List Prop) (b:dY):Prop:=oy (tr eY b)
theorem Qk {eY:List Prop} {b:dY} (h: ∀φ∈eY,φ) (hb:b.den=true):vx eY b:=by
 unfold vx
 refine G4 fun φ en=> ?_
 unfold tr at en
 split at en
 ·exact h φ en
 ·rcases List.mem_append.1 en with q | q
  ·exact h φ q
  ·rw[List.mem_singleton.1 q];exact hb
def aU.den:aU→(Exit→TS→Prop)→Prop
 | .jP ex s,R=>R ex s
 | .gW,_=>True
 | .no,_=>False
 | .p φ t,R=>φ∧t.den R
 | .iV φ t,R=>φ→t.den R
 | .h5 b _ x y,R=>(b.den=true→x.den R)∧(b.den=false→y.den R)
 | .two x y,R=>x.den R∧y.den R
 | .g3 x eY b y,R=>x.den R∧(vx eY b→y.den R)
 | .all _ f,R=> ∀a,(f a).den R
 | .eq a b t,R=>a=b∧t.den R
def aU.bind:aU→(Exit→TS→aU)→aU
 | .jP ex s,K=>K ex s
 | .gW,_=> .gW
 | .no,_=> .no
 | .p φ t,K=> .p φ (t.bind K)
 | .iV φ t,K=> .iV φ (t.bind K)
 | .h5 b s x y,K=> .h5 b s (x.bind K) (y.bind K)
 | .two x y,K=> .two (x.bind K) (y.bind K)
 | .g3 x eY b y,K=> .g3 (x.bind K) eY b (y.bind K)
 | .all α f,K=> .all α fun a=>(f a).bind K
 | .eq a b t,K=> .eq a b (t.bind K)
theorem aU.OX (t:aU) (K:Exit→TS→aU) (R:Exit→TS→Prop):(t.bind K).den R=t.den fun ex s=>(K ex s).den R:=by
 induction t with
 | jP ex s=>rfl
 | gW=>rfl
 | no=>rfl
 | p φ t bO=>simp only[aU.bind,aU.den,bO]
 | iV φ t bO=>simp only[aU.bind,aU.den,bO]
 | h5 b s x y g1 gS=>simp only[aU.bind,aU.den,g1,gS]
 | two x y g1 gS=>simp only[aU.bind,aU.den,g1,gS]
 | g3 x eY b y g1 gS=>simp only[aU.bind,aU.den,g1,gS]
 | all α f bO=>simp only[aU.bind,aU.den,bO]
 | eq a b t bO=>simp only[aU.bind,aU.den,bO]
theorem aU.pv {t:aU} {R vi:Exit→TS→Prop} (h:t.den R) (k: ∀ex s,R ex s→vi ex s):t.den vi:=by
 induction t with
 | jP ex s=>exact k _ _ h
 | gW=>trivial
 | no=>exact h
 | p φ t bO=>exact⟨h.1,bO h.2⟩
 | iV φ t bO=>exact fun q=>bO (h q)
 | h5 b s x y g1 gS=>exact⟨fun q=>g1 (h.1 q),fun q=>gS (h.2 q)⟩
 | two x y g1 gS=>exact⟨g1 h.1,gS h.2⟩
 | g3 x eY b y g1 gS=>exact⟨g1 h.1,fun q=>gS (h.2 q)⟩
 | all α f bO=>exact fun a=>bO a (h a)
 | eq a b t bO=>exact⟨h.1,bO h.2⟩
inductive fl:Type 1 where
 | gW
 | p (φ:Prop)
 | and (a b:fl)
 | iV (φ:Prop) (c:fl)
 | all (α:Type) (f:α→fl)
def fl.and' (a b:fl):fl:=match a with
 | .gW=>b
 | a=>match b with
  | .gW=>a
  | b=> .and a b
def fl.ud (φ:Prop) (c:fl):fl:=match c with
 | .gW=> .gW
 | c=> .iV φ c
def fl.den:fl→Prop
 | .gW=>True
 | .p φ=>φ
 | .and a b=>a.den∧b.den
 | .iV φ c=>φ→c.den
 | .all _ f=> ∀a,(f a).den
theorem fl.xo (a b:fl):(fl.and' a b).den↔a.den∧b.den:=by
 cases a<;>cases b<;>simp[fl.and',fl.den]
theorem fl.yK (φ:Prop) (c:fl):(fl.ud φ c).den↔(φ→c.den):=by
 cases c<;>simp[fl.ud,fl.den]
def fl.fact (eY:List Prop) (b:dY) (c:fl):fl:=match tr eY b with
 | []=>c
 | φ::r=> .ud (oy (φ::r)) c
theorem fl.Ql (eY:List Prop) (b:dY) (c:fl):(fl.fact eY b c).den↔(vx eY b→c.den):=by
 unfold fl.fact vx
 split
 ·rename_i h;rw[h];simp[oy]
 ·rename_i h;rw[h];exact fl.yK _ _
def aU.nb:aU→fl
 | .jP _ _=> .gW
 | .gW=> .gW
 | .no=> .p False
 | .p φ t=> .and' (.p φ) t.nb
 | .iV φ t=> .ud φ t.nb
 | .h5 b _ x y=> .and' (.ud (b.den=true) x.nb) (.ud (b.den=false) y.nb)
 | .two x y=> .and' x.nb y.nb
 | .g3 x eY b y=> .and' x.nb (.fact eY b y.nb)
 | .all α f=> .all α fun a=>(f a).nb
 | .eq _ _ t=>t.nb
inductive pn:Type 1 where
 | u
 | v {α:Type} (a:α) (t:pn)
 | n (a b:pn)
 | f {α:Type} (g:α→pn)
def aU.lhs:aU→pn
 | .jP _ _ | .gW | .no=> .u
 | .p _ t | .iV _ t=>t.lhs
 | .h5 _ _ x y | .two x y | .g3 x _ _ y=> .n x.lhs y.lhs
 | .all _ f=> .f fun a=>(f a).lhs
 | .eq a _ t=> .v a t.lhs
def aU.rhs:aU→pn
 | .jP _ _ | .gW | .no=> .u
 | .p _ t | .iV _ t=>t.rhs
 | .h5 _ _ x y | .two x y | .g3 x _ _ y=> .n x.rhs y.rhs
 | .all _ f=> .f fun a=>(f a).rhs
 | .eq _ b t=> .v b t.rhs
theorem aU.full {t:aU} (h:t.nb.den) (e:t.lhs=t.rhs):t.den fun _ _=>True:=by
 induction t with
 | jP ex s=>trivial
 | gW=>trivial
 | no=>exact h
 | p φ t bO=>
  have h:=(fl.xo _ _).1 h
  exact⟨h.1,bO h.2 e⟩
 | iV φ t bO=>exact fun q=>bO ((fl.yK _ _).1 h q) e
 | h5 b s x y g1 gS=>
  have h:=(fl.xo _ _).1 h
  injection e with bF e2
  exact⟨fun q=>g1 ((fl.yK _ _).1 h.1 q) bF,fun q=>gS ((fl.yK _ _).1 h.2 q) e2⟩
 | two x y g1 gS=>
  have h:=(fl.xo _ _).1 h
  injection e with bF e2
  exact⟨g1 h.1 bF,gS h.2 e2⟩
 | g3 x eY b y g1 gS=>
  have h:=(fl.xo _ _).1 h
  injection e with bF e2
  exact⟨g1 h.1 bF,fun q=>gS ((fl.Ql _ _ _).1 h.2 q) e2⟩
 | all α f bO=>
  injection e with _ e
  exact fun a=>bO a (h a) (congrFun e a)
 | eq a b t bO=>
  injection e with _ bF e2
  exact⟨bF,bO h e2⟩
end Go.Proofs.Ytglpfccgmfhkdaa.Fw
/- The machine, part B: where ways meet again; what a write does to the state. -/
set_option linter.unusedVariables false
namespace Go.Proofs.Ytglpfccgmfhkdaa.Fw
open Go
def su (b:dY) (x y:TV):TV:=match x with
 | .i k n=>(match y with
  | .i jO m=>if k=jO then .i k (bif b.den then n else m) else .u
  | _=> .u)
 | .b x=>(match y with
  | .b y=> .b (dY.st b x y)
  | _=> .u)
 | _=> .u
def dY.pX:dY→dY→Bool
 | .at i _,.at j _=>Nat.beq i j
 | .t,.t=>true
 | .f,.f=>true
 | .n x,.n y=>x.pX y
 | .ao x y,.ao z w=>x.pX z&&y.pX w
 | .or x y,.or z w=>x.pX z&&y.pX w
 | .ite c x y,.ite d z w=>c.pX d&&x.pX z&&y.pX w
 | _,_=>false
def Dx (x y:TV):Bool:=match x with
 | .b x=>(match y with
  | .b y=>x.pX y
  | _=>false)
 | _=>false
def sm (b:dY) (x y:TV):TV:=match Dx x y with
 | true=>x
 | false=>su b x y
def ui (s s':TS):List (Nat×TV)→List (List (Nat×TV)×List (Nat×TV))
 | []=>[]
 | p::r=>match Dx (s.get p.1) (s'.get p.1) with
  | true=>([(p.1,s.get p.1)],[(p.1,s'.get p.1)])::ui s s' r
  | false=>ui s s' r
inductive po where
 | bad
 | none
 | some (s:TS) (iK:List (List (Nat×TV)×List (Nat×TV)))
def sN:List (Nat×TV)→Bool
 | []=>true
 | (k,_)::r=>match Nat.blt k 1000000 with
  | true=>sN r
  | false=>false
def xU:List (Nat×Nat)→List (Nat×Nat)→Bool
 | [],[]=>true
 | (a,b)::r,(c,d)::q=>Nat.beq a c&&Nat.beq b d&&xU r q
 | _,_=>false
def po.h5 (b:dY) (eu:TS) (x y:po):po:=match x with
 | .bad=> .bad
 | .none=>(match y with
  | .bad=> .bad
  | .none=> .none
  | .some s q=> .some ⟨s.T++eu.T,eu.B,s.vs,s.bB⟩ ((s.B,eu.T++eu.B)::q))
 | .some s q=>(match y with
  | .bad=> .bad
  | .none=> .some ⟨s.T++eu.T,eu.B,s.vs,s.bB⟩ ((s.B,eu.T++eu.B)::q)
  | .some s' q6=>match sN s.T&&sN s'.T&&xU s.vs s'.vs&&Nat.beq s.bB s'.bB with
   | true=> .some ⟨(s.T++s'.T).map (fun p=>(p.1,sm b (s.get p.1) (s'.get p.1)))++eu.T,eu.B,s.vs,s.bB⟩ ((s.B,eu.T++eu.B)::(s'.B,eu.T++eu.B)::(q++(q6++ui s s' (s.T++s'.T))))
   | false=> .bad)
def aU.lU:aU→po
 | .jP ex s=>(match ex with
  | .normal=> .some s []
  | _=> .none)
 | .gW | .no=> .none
 | .p _ t | .iV _ t | .eq _ _ t=>t.lU
 | .h5 b s x y=>po.h5 b s x.lU y.lU
 | .two _ _ | .all _ _=> .bad
 | .g3 x _ _ y=>(match x.lU with
  | .none=>y.lU
  | _=> .bad)
def aU.kt:aU→dY
 | .jP ex _=>(match ex with
  | .normal=> .t
  | _=> .f)
 | .gW | .no=> .f
 | .p _ t | .iV _ t | .eq _ _ t=>t.kt
 | .h5 b _ x y=>dY.st b x.kt y.kt
 | .two _ _ | .all _ _=> .t
 | .g3 _ _ b y=>(match b with
  | .t=>y.kt
  | b=>dY.st b y.kt .f)
def aU.facts:aU→List Prop
 | .jP _ _ | .gW | .no | .two _ _ | .all _ _=>[]
 | .p _ t | .eq _ _ t=>t.facts
 | .iV φ t=>φ::t.facts
 | .h5 _ _ x y=>(match x.kt with
  | .f=>y.facts
  | _=>match y.kt with
   | .f=>x.facts
   | _=>[])
 | .g3 _ eY _ y=>eY++y.facts
structure TS.gB (s S:TS):Prop where
 vs:S.vs=s.vs
 bB:S.bB=s.bB
 get: ∀k,S.get k=s.get k∨(k<1000000∧((S.get k).bz=(s.get k).bz∨(S.get k).bz= .undef))
theorem TS.gB.refl (s:TS):s.gB s:=⟨rfl,rfl,fun _=> .inl rfl⟩
theorem TS.gB.trans {a b c:TS} (h:a.gB b) (k:b.gB c):a.gB c:=⟨k.vs.trans h.vs,k.bB.trans h.bB,fun t=>by
 rcases k.get t with e | ⟨aI,e⟩
 ·rw[e];exact h.get t
 ·refine .inr ⟨aI,?_⟩
  rcases e with e | e
  ·rcases h.get t with q | ⟨_,q⟩
   ·rw[e,q];exact .inl rfl
   ·rw[e];exact q
  ·exact .inr e⟩
theorem Mp {l:List (Nat×TV)} (h:sN l=true) {k:Nat} (hk: ¬k<1000000): ∀v,(k,v) ∉ l:=by
 induction l with
 | nil=>intro v hv;cases hv
 | cons p r bO=>
  obtain⟨a,w⟩:=p
  unfold sN at h
  split at h
  ·rename_i a6
   intro v hv
   rcases List.mem_cons.1 hv with e | hv
   ·cases e;exact hk (by rw[←Nat.blt_eq];exact a6)
   ·exact bO h v hv
  ·cases h
theorem Hl: ∀{l m:List (Nat×Nat)},xU l m=true→l=m
 | [],[],_=>rfl
 | [],_::_,h=>by cases h
 | _::_,[],h=>by cases h
 | (a,b)::r,(c,d)::q,h=>by
  simp only[xU,Bool.and_eq_true] at h
  rw[Nat.eq_of_beq_eq_true h.1.1,Nat.eq_of_beq_eq_true h.1.2,Hl h.2]
theorem V1 {b:dY} {x y:TV} (h:b.den=true):(su b x y).bz=x.bz∨(su b x y).bz= .undef:=by
 unfold su
 split
 ·split
  ·split
   ·left;simp[TV.bz,h]
   ·exact .inr rfl
  ·exact .inr rfl
 ·split
  ·left;simp[TV.bz,dY.wC,h]
  ·exact .inr rfl
 ·exact .inr rfl
theorem V0 {b:dY} {x y:TV} (h:b.den=false):(su b x y).bz=y.bz∨(su b x y).bz= .undef:=by
 unfold su
 split
 ·split
  ·split
   ·rename_i e;left;subst e;simp[TV.bz,h]
   ·exact .inr rfl
  ·exact .inr rfl
 ·split
  ·left;simp[TV.bz,dY.wC,h]
  ·exact .inr rfl
 ·exact .inr rfl
theorem Wm {s eu:TS} (h:s.B=eu.T++eu.B) (vs:List (Nat×Nat)) (bB k:Nat):TS.get ⟨s.T++eu.T,eu.B,vs,bB⟩ k=s.get k:=by
 unfold TS.get
 simp only
 rw[h,uk,uk]
theorem Vj {l:List (Nat×TV)} {f:Nat→TV} {k:Nat} {d:TV}:((∃v,(k,v)∈l)∧hj (l.map fun p=>(p.1,f p.1)) k d=f k)∨((∀v,(k,v) ∉ l)∧hj (l.map fun p=>(p.1,f p.1)) k d=d):=by
 induction l with
 | nil=>exact .inr ⟨(fun v h=>by cases h),rfl⟩
 | cons p r bO=>
  obtain⟨a,w⟩:=p
  rw[List.map_cons,gJ]
  by_cases e:a=k
  ·subst e;exact .inl ⟨⟨w,List.mem_cons_self ..⟩,if_pos rfl⟩
  ·rw[if_neg e]
   rcases bO with⟨⟨v,q⟩,h⟩ | ⟨q,h⟩
   ·exact .inl ⟨⟨v,List.mem_cons_of_mem _ q⟩,h⟩
   ·refine .inr ⟨fun v hv=> ?_,h⟩
    rcases List.mem_cons.1 hv with hv | hv
    ·cases hv;exact e rfl
    ·exact q v hv
theorem Kz {s s':TS}: ∀{l:List (Nat×TV)},(∀p∈ui s s' l,p.1=p.2)→ ∀k v,(k,v)∈l→Dx (s.get k) (s'.get k)=true→s.get k=s'.get k
 | [],_,k,v,h,_=>by cases h
 | p::r,aj,k,v,h,aI=>by
  unfold ui at aj
  rcases List.mem_cons.1 h with e | h
  ·cases e
   rw[aI] at aj
   have:=aj _ (List.mem_cons_self ..)
   injection this with bF _
   exact(Prod.mk.inj bF).2
  ·refine Kz (fun q hm=>aj q ?_) k v h aI
   split
   ·exact List.mem_cons_of_mem _ hm
   ·exact hm
theorem Vt {b:dY} {eu s s':TS} (h1:s.B=eu.T++eu.B) (h2:s'.B=eu.T++eu.B) (eo:sN s.T=true) (hD:sN s'.T=true) (hv:s.vs=s'.vs) (aC:s.bB=s'.bB) (aj: ∀p∈ui s s' (s.T++s'.T),p.1=p.2):
  let S:TS:=⟨(s.T++s'.T).map (fun p=>(p.1,sm b (s.get p.1) (s'.get p.1)))++eu.T,eu.B,s.vs,s.bB⟩
  (b.den=true→s.gB S)∧(b.den=false→s'.gB S):=by
 intro S
 have gR: ∀k,((∃v,(k,v)∈s.T++s'.T)∧S.get k=sm b (s.get k) (s'.get k))∨((∀v,(k,v) ∉ s.T++s'.T)∧S.get k=hj eu.T k (hj eu.B k .u)):=fun k=>by
  have e:S.get k=hj (List.map (fun p=>(p.1,(fun k=>sm b (s.get k) (s'.get k)) p.1)) (s.T++s'.T)) k (hj eu.T k (hj eu.B k .u)):=by
   show hj (_++eu.T) k _=_
   rw[uk]
  rw[e];exact Vj (f:=fun k=>sm b (s.get k) (s'.get k))
 have base: ∀(x:TS),x.B=eu.T++eu.B→ ∀k,(∀v,(k,v) ∉ x.T)→x.get k=hj eu.T k (hj eu.B k .u):=fun x hx k hk=>by
  unfold TS.get;rw[sk hk,hx,uk]
 have s_: ∀k v,(k,v)∈s.T++s'.T→k<1000000:=fun k v hk=>by
  by_cases q:k<1000000
  ·exact q
  ·rcases List.mem_append.1 hk with h | h
   ·exact absurd h (Mp eo q v)
   ·exact absurd h (Mp hD q v)
 refine⟨fun hb=>⟨rfl,rfl,fun k=> ?_⟩,fun hb=>⟨hv,aC,fun k=> ?_⟩⟩
 ·rcases gR k with⟨⟨v,q⟩,h⟩ | ⟨q,h⟩
  ·rw[h];refine .inr ⟨s_ k v q,?_⟩
   unfold sm
   split
   ·exact .inl rfl
   ·exact V1 hb
  ·rw[h];exact .inl (base s h1 k fun v hv=>q v (List.mem_append_left _ hv)).symm
 ·rcases gR k with⟨⟨v,q⟩,h⟩ | ⟨q,h⟩
  ·rw[h];refine .inr ⟨s_ k v q,?_⟩
   unfold sm
   split
   ·rename_i aI;rw[Kz aj k v q aI];exact .inl rfl
   ·exact V0 hb
  ·rw[h];exact .inl (base s' h2 k fun v hv=>q v (List.mem_append_right _ hv)).symm
theorem aU.KJ: ∀{t:aU} {R:Exit→TS→Prop},t.lU= .none→t.den R→t.den fun ex s=>R ex s∧ex≠ .normal:=by
 intro t
 induction t with
 | jP ex s=>
  intro R h d
  refine⟨d,?_⟩
  rintro rfl;cases h
 | gW=>intros;trivial
 | no=>intro R h d;exact d
 | p φ t bO=>intro R h d;exact⟨d.1,bO h d.2⟩
 | iV φ t bO=>intro R h d;exact fun q=>bO h (d q)
 | eq a b t bO=>intro R h d;exact⟨d.1,bO h d.2⟩
 | two x y g1 gS=>intro R h;cases h
 | all α f bO=>intro R h;cases h
 | g3 x eY b y g1 gS=>
  intro R h d
  unfold aU.lU at h
  split at h
  ·rename_i hx;exact⟨g1 hx d.1,fun q=>gS h (d.2 q)⟩
  ·cases h
 | h5 b s x y g1 gS=>
  intro R h d
  have h:po.h5 b s x.lU y.lU= .none:=h
  unfold po.h5 at h
  split at h
  ·cases h
  ·rename_i hx
   split at h
   ·cases h
   ·rename_i bA;exact⟨fun q=>g1 hx (d.1 q),fun q=>gS bA (d.2 q)⟩
   ·cases h
  ·split at h
   ·cases h
   ·cases h
   ·split at h<;>cases h
theorem aU.Vw: ∀{t:aU} {R:Exit→TS→Prop} {S:TS} {iK:List (List (Nat×TV)×List (Nat×TV))},t.lU= .some S iK→(∀p∈iK,p.1=p.2)→t.den R→
  t.den fun ex s=>R ex s∧(ex= .normal→s.gB S∧t.kt.den=true∧ ∀φ∈t.facts,φ):=by
 intro t
 induction t with
 | jP ex s=>
  intro R S iK h aj d
  refine⟨d,?_⟩
  rintro rfl
  cases h
  exact⟨.refl s,rfl,fun φ h=>by cases h⟩
 | gW=>intros;trivial
 | no=>intro R S iK h aj d;exact d
 | p φ t bO=>intro R S iK h aj d;exact⟨d.1,bO h aj d.2⟩
 | iV φ t bO=>
  intro R S iK h aj d q
  refine aU.pv (bO h aj (d q)) fun ex s hs=>⟨hs.1,fun e=>⟨(hs.2 e).1,(hs.2 e).2.1,fun ψ B7=> ?_⟩⟩
  rcases List.mem_cons.1 B7 with rfl | B7
  ·exact q
  ·exact(hs.2 e).2.2 ψ B7
 | eq a b t bO=>intro R S iK h aj d;exact⟨d.1,bO h aj d.2⟩
 | two x y g1 gS=>intro R S iK h;cases h
 | all α f bO=>intro R S iK h;cases h
 | g3 x eY b y g1 gS=>
  intro R S iK h aj d
  unfold aU.lU at h
  split at h
  ·rename_i hx
   refine⟨aU.pv (aU.KJ hx d.1) fun ex s hs=>⟨hs.1,fun e=>absurd e hs.2⟩,fun q=>aU.pv (gS h aj (d.2 q)) fun ex s hs=>⟨hs.1,fun e=> ?_⟩⟩
   obtain⟨h1,h2,aS⟩:=hs.2 e
   have dZ: ∀(l:List Prop),oy l→ ∀φ∈l,φ:=by
    intro l
    induction l with
    | nil=>intro _ φ en;cases en
    | cons a r bO=>
     intro hc φ en
     cases r with
     | nil=>rw[List.mem_singleton.1 en];exact hc
     | cons hp zl=>
      have hc:a∧oy (hp::zl):=hc
      rcases List.mem_cons.1 en with rfl | en
      ·exact hc.1
      ·exact bO hc.2 φ en
   have dZ:=dZ _ q
   refine⟨h1,?_,fun φ en=> ?_⟩
   ·unfold aU.kt
    split
    ·exact h2
    ·rename_i cO
     have hb:b.den=true:=dZ _ (by
      unfold tr
      split
      ·exact absurd rfl cO
      ·simp)
     rw[dY.wC,hb,h2];rfl
   ·rcases List.mem_append.1 en with en | en
    ·have hm: ∀b:dY,φ∈tr eY b:=fun b=>by
      unfold tr
      split
      ·exact en
      ·exact List.mem_append_left _ en
     exact dZ φ (hm b)
    ·exact aS φ en
  ·cases h
 | h5 b eu x y g1 gS=>
  intro R S iK h aj d
  have h:po.h5 b eu x.lU y.lU= .some S iK:=h
  have KY: ∀{z:aU} {R:Exit→TS→Prop},z.lU= .none→z.den R→z.den fun ex s=>R ex s∧(ex= .normal→False):=fun aQ P1=>aU.KJ aQ P1
  have HW:b.den=true→x.kt.den=true→(dY.st b x.kt y.kt).den=true:=fun h1 h2=>by rw[dY.wC,h1,h2];rfl
  have HX:b.den=false→y.kt.den=true→(dY.st b x.kt y.kt).den=true:=fun h1 h2=>by rw[dY.wC,h1,h2];rfl
  have H8:x.kt.den=true→(∀φ∈x.facts,φ)→ ∀φ∈(aU.h5 b eu x y).facts,φ:=fun h1 h2 φ en=>by
   unfold aU.facts at en
   split at en
   ·rename_i e;rw[e] at h1;cases h1
   ·split at en
    ·exact h2 φ en
    ·cases en
  have H9:y.kt.den=true→(∀φ∈y.facts,φ)→ ∀φ∈(aU.h5 b eu x y).facts,φ:=fun h1 h2 φ en=>by
   unfold aU.facts at en
   split at en
   ·exact h2 φ en
   ·split at en
    ·rename_i e;rw[e] at h1;cases h1
    ·cases en
  have i_: ∀{s:TS},s.B=eu.T++eu.B→s.gB ⟨s.T++eu.T,eu.B,s.vs,s.bB⟩:=fun eO=>⟨rfl,rfl,fun k=> .inl (Wm eO _ _ k)⟩
  unfold po.h5 at h
  split at h
  ·cases h
  ·rename_i hx
   split at h
   ·cases h
   ·cases h
   ·rename_i s q bA
    cases h
    have eO:=aj _ (List.mem_cons_self ..)
    refine⟨fun hb=>aU.pv (KY hx (d.1 hb)) fun ex z aQ=>⟨aQ.1,fun e=>(aQ.2 e).elim⟩,fun hb=>aU.pv (gS bA (fun p aF=>aj p (List.mem_cons_of_mem _ aF)) (d.2 hb)) fun ex z aQ=>⟨aQ.1,fun e=> ?_⟩⟩
    obtain⟨h1,h2,aS⟩:=aQ.2 e
    exact⟨h1.trans (i_ eO),HX hb h2,H9 h2 aS⟩
  ·rename_i s q hx
   split at h
   ·cases h
   ·rename_i bA
    cases h
    have eO:=aj _ (List.mem_cons_self ..)
    refine⟨fun hb=>aU.pv (g1 hx (fun p aF=>aj p (List.mem_cons_of_mem _ aF)) (d.1 hb)) fun ex z aQ=>⟨aQ.1,fun e=> ?_⟩,fun hb=>aU.pv (KY bA (d.2 hb)) fun ex z aQ=>⟨aQ.1,fun e=>(aQ.2 e).elim⟩⟩
    obtain⟨h1,h2,aS⟩:=aQ.2 e
    exact⟨h1.trans (i_ eO),HW hb h2,H8 h2 aS⟩
   ·rename_i s' q6 bA
    split at h
    ·rename_i hc
     cases h
     simp only[Bool.and_eq_true] at hc
     obtain⟨⟨⟨nK,j3⟩,Af⟩,Ag⟩:=hc
     have RD:=aj _ (List.mem_cons_self ..)
     have RE:=aj _ (List.mem_cons_of_mem _ (List.mem_cons_self ..))
     obtain⟨aX,bE⟩:=Vt (b:=b) RD RE nK j3 (Hl Af) (Nat.eq_of_beq_eq_true Ag) (fun p aF=>aj p (List.mem_cons_of_mem _ (List.mem_cons_of_mem _ (List.mem_append_right _ (List.mem_append_right _ aF)))))
     refine⟨fun hb=>aU.pv (g1 hx (fun p aF=>aj p (List.mem_cons_of_mem _ (List.mem_cons_of_mem _ (List.mem_append_left _ aF)))) (d.1 hb)) fun ex z aQ=>⟨aQ.1,fun e=> ?_⟩,
      fun hb=>aU.pv (gS bA (fun p aF=>aj p (List.mem_cons_of_mem _ (List.mem_cons_of_mem _ (List.mem_append_right _ (List.mem_append_left _ aF))))) (d.2 hb)) fun ex z aQ=>⟨aQ.1,fun e=> ?_⟩⟩
     ·obtain⟨h1,h2,aS⟩:=aQ.2 e
      exact⟨h1.trans (aX hb),HW hb h2,H8 h2 aS⟩
     ·obtain⟨h1,h2,aS⟩:=aQ.2 e
      exact⟨h1.trans (bE hb),HX hb h2,H9 h2 aS⟩
    ·cases h
end Go.Proofs.Ytglpfccgmfhkdaa.Fw
/- The machine, part C: what is handed over; contracts of functions; operations that only read. -/
set_option linter.unusedVariables false
namespace Go.Proofs.Ytglpfccgmfhkdaa.Fw
open Go
def kA:List (Nat×Nat)→Nat→Option Nat
 | [],_=>none
 | (k,m)::r,t=>match Nat.beq k t with
  | true=>some m
  | false=>kA r t
section
variable [FZ] {n:Nat} {s:TS}
theorem FO (t:Nat):(s.aD n).T.getD t .undef=if t<n then(s.get t).bz else .undef:=by
 show((List.range n).map fun t=>(s.get t).bz).getD t .undef=_
 rw[List.getD_eq_getElem?_getD,List.getElem?_map]
 by_cases h:t<n
 ·rw[List.getElem?_range h,if_pos h];rfl
 ·rw[List.getElem?_eq_none (by simpa using h),if_neg h];rfl
theorem w0 (v:Nat):ew (s.aD n).L v=(kA s.vs v).map fun m=>dd (hN s v 0 m):=by
 show ew (s.vs.map fun p=>(p.1,dd (hN s p.1 0 p.2))) v=_
 induction s.vs with
 | nil=>rfl
 | cons p r bO=>
  obtain⟨k,m⟩:=p
  rw[List.map_cons]
  unfold ew kA
  by_cases h:v=k
  ·subst h;simp
  ·have:Nat.beq k v=false:=by
    cases hb:Nat.beq k v with
    | true=>exact absurd (Nat.eq_of_beq_eq_true hb).symm h
    | false=>rfl
   simp only[h,if_false,this];exact bO
theorem qa (b:Nat):s.gi[b]?=if b<s.bB then some (s.get (bY b)).dC else none:=by
 show((List.range s.bB).map fun b=>(s.get (bY b)).dC)[b]?=_
 rw[List.getElem?_map]
 by_cases h:b<s.bB
 ·rw[List.getElem?_range h,if_pos h];rfl
 ·rw[List.getElem?_eq_none (by simpa using h),if_neg h];rfl
theorem l1:s.gi.length=s.bB:=by show((List.range s.bB).map _).length=_;simp
theorem p9 {b:Nat} (h:b<s.bB):(s.aD n).H[b]?=some (s.get (bY b)).dC:=by
 show(s.gi++h3 s)[b]?=_
 rw[List.getElem?_append_left (by rw[l1];exact h),qa,if_pos h]
theorem zC (h:iX s=true):(s.aD n).H.length=s.bB:=by
 show(s.gi++h3 s).length=_
 unfold h3;rw[h];simp[l1]
end
def xK:Value→TV
 | .int k n=> .i k n
 | .bool b=> .b (match b with
  | true=> .t
  | false=> .f)
 | .string x=> .s x
 | .slice none 0 0=> .nil true true
 | .pointer none=> .o .fu
 | .nilIface=> .o .fP
 | _=> .u
theorem PN (v:Value):(xK v).bz=nc v:=by
 unfold xK nc
 split
 ·rfl
 ·rename_i b;cases b<;>rfl
 ·rfl
 ·rfl
 ·rfl
 ·rfl
 ·rename_i h1 h2 aS bt cb cE
  split
  ·exact absurd rfl (h1 _ _)
  ·exact absurd rfl (h2 _)
  ·exact absurd rfl (aS _)
  ·exact absurd rfl bt
  ·exact absurd rfl cb
  ·exact absurd rfl cE
  ·rfl
def cv (n:Nat) (s:TS):Operand→TV
 | .tmp t=>(match Nat.blt t n with
  | true=>s.get t
  | false=> .u)
 | .const v=>xK v
 | .func f=> .fn f []
 | .global _=> .u
theorem kb [FZ] (n:Nat) (s:TS):cc (s.aD n).T=fun x=>(cv n s x).bz:=by
 funext x
 cases x with
 | tmp t=>
  show(s.aD n).T.getD t .undef=_
  rw[FO]
  unfold cv
  by_cases h:t<n
  ·have hb:Nat.blt t n=true:=by rw[Nat.blt_eq];exact h
   simp only[if_pos h,hb]
  ·have hb:Nat.blt t n=false:=by
    cases hb:Nat.blt t n with
    | true=>rw[Nat.blt_eq] at hb;exact absurd hb h
    | false=>rfl
   simp only[if_neg h,hb];rfl
 | const v=>exact(PN v).symm
 | func f=>rfl
 | global g=>rfl
def HQ (x:dY) (K:dY→aU):aU:=match x with
 | .t=>K .t
 | .f=>K .f
 | .v p=>K (.v p)
 | .at i p=>K (.at i p)
 | .n p=>K (.n p)
 | .ao p q=>K (.ao p q)
 | .or p q=>K (.or p q)
 | .ite p q r=>K (.ite p q r)
theorem Q5 (x:dY) (K:dY→aU):HQ x K=K x:=by cases x<;>rfl
def nQ (v:TV) (K:TV→aU):aU:=match v with
 | .u=>K .u
 | .i k m=>K (.i k m)
 | .b x=>HQ x fun x=>K (.b x)
 | .s x=>K (.s x)
 | .l e xs f r=>K (.l e xs f r)
 | .nil f r=>K (.nil f r)
 | .ref p g m f=>K (.ref p g m f)
 | .ptr p g j m c=>K (.ptr p g j m c)
 | .lp t c=>K (.lp t c)
 | .cZ e x c=>K (.cZ e x c)
 | .agg c=>K (.agg c)
 | .tup c=>K (.tup c)
 | .fn f c=>K (.fn f c)
 | .o a=>K (.o a)
 | .blk g e xs m h=>K (.blk g e xs m h)
 | .i_ g c=>K (.i_ g c)
 | .kn g m ids=>K (.kn g m ids)
 | .gm V ids n h=>K (.gm V ids n h)
 | .new id xs=>K (.new id xs)
 | .tx w ids m n=>K (.tx w ids m n)
 | .tw w ids m j=>K (.tw w ids m j)
 | .wv id m n=>K (.wv id m n)
theorem oC (v:TV) (K:TV→aU):nQ v K=K v:=by
 cases v with
 | b x=>exact Q5 x fun x=>K (.b x)
 | _=>rfl
def mJ:(e:bN)→e.T→AV
 | .ptr e,x=> .cZ (c_ false e x) 0
 | .hZ f .unit,_=> .fn f []
 | .hZ f e,x=> .fn f [mJ e x]
 | e,x=>match e.isS with
  | true=> .agg (c_ false e x)
  | false=>nL false e x
def mK:(es:List bN)→dr es→List AV
 | [],_=>[]
 | e::r,x=>mJ e x.1::mK r x.2
def tm (e:bN) (x:e.T):AV:=match e.isS with
 | true=> .agg (c_ true e x)
 | false=>nL true e x
def nM:(es:List bN)→dr es→List AV
 | [],_=>[]
 | e::r,x=>tm e x.1::nM r x.2
def qu:(es:List bN)→dr es→AV
 | [e],x=>tm e x.1
 | es,x=> .tup (nM es x)
def zo (e:bN) (x:e.T):TV:=match e.isS with
 | true=> .agg (lK true e x)
 | false=>w5 true e x
def zp:(es:List bN)→dr es→List TV
 | [],_=>[]
 | e::r,x=>zo e x.1::zp r x.2
def zq:(es:List bN)→dr es→TV
 | [e],x=>zo e x.1
 | es,x=> .tup (zp es x)
theorem LS (e:bN) (x:e.T):(zo e x).bz=tm e x:=by
 unfold zo tm
 cases e.isS with
 | true=>show AV.agg (dd _)=_;rw[xE]
 | false=>exact F6 true e x
theorem LU: ∀(es:List bN) (x:dr es),dd (zp es x)=nM es x
 | [],_=>rfl
 | e::r,x=>by rw[zp,dd,nM,LS,LU r]
theorem Ed (es:List bN) (x:dr es):(zq es x).bz=qu es x:=by
 match es,x with
 | [],x=>rfl
 | [e],x=>exact LS e x.1
 | e::dI::r,x=>show AV.tup (dd _)=_;rw[LU];rfl
structure ev (P:Program) where
 f:FuncId
 ps:List bN
 rs:List bN
 pre:Option (dr ps→Prop)
 fn:dr ps→dr rs
 ok: ∀x,(match pre with
  | none=>True
  | some p=>p x)→b3 P f (mK ps x) (qu rs (fn x))
def lm {e dI:bN} (h:dI=e) (xs:List dI.T):List e.T:=h▸xs
def Pp {e dI:bN} (h:dI=e) (x:dI.T):e.T:=h▸x
def xJ (bf:IntKind) (v:TV) (K:Int→List Prop→aU):aU:=match v with
 | .i k n=>if k=bf then K n [] else .no
 | _=> .no
def Ay (v:TV) (K:Bool→List Prop→aU):aU:=match v with
 | .b x=>K x.den []
 | _=> .no
def AC (v:TV) (K:ByteArray→List Prop→aU):aU:=match v with
 | .s x=>K x []
 | _=> .no
def Ax (e:bN) (g n:Nat) (v:TV) (K:List e.T→List Prop→aU):aU:=match v with
 | .blk dy dI xs n8 _=>if h:dI=e then .eq dy g (.eq n8 n (K (lm h xs) [xs.length≤4611686018427387904])) else .no
 | _=> .no
def AD (s:TS) (e:bN) (g n:Nat) (v:TV) (K:List e.T→List Prop→aU):aU:=match v with
 | .kn dy m ids=>(match s.get dE with
  | .gm V cX bK _=>if h:bN.held=e then .eq cX ids (.eq dy 0 (.eq g 0 (.eq n bK (.eq m s.bB (K (lm h V) [V.length≤4611686018427387904]))))) else .no
  | _=> .no)
 | v=>Ax e g n v K
def AA (s:TS) (e:bN) (v:TV) (K:List e.T→List Prop→aU):aU:=match v with
 | .l dI xs _ _=>if h:dI=e then K (lm h xs) [] else .no
 | .nil _ _=>K [] []
 | .ref b g n _=>(match Nat.blt b s.bB with
  | true=>AD s e g n (s.get (bY b)) K
  | false=> .no)
 | _=> .no
def mF (s:TS):(e:bN)→TV→(e.T→List Prop→aU)→aU
 | .int,v,K=>xJ .i64 v K
 | .u64,v,K=>xJ .u64 v K
 | .bool,v,K=>Ay v K
 | .str,v,K=>AC v K
 | .l e,v,K=>AA s e v K
 | _,_,_=> .no
def vv (s:TS):(es:List bN)→List TV→(dr es→List Prop→aU)→aU
 | [],[],K=>K () []
 | e::r,v::vs,K=>mF s e v fun x o=>vv s r vs fun y kB=>K (x,y) (o++kB)
 | _,_,_=> .no
def mG (s:TS) (e:bN) (v:TV) (K:e.T→List Prop→aU):aU:=match e.isS with
 | true=>(match v with
  | .agg c=>vv s e.lu c fun x o=>K (e.mk x) o
  | _=> .no)
 | false=>mF s e v K
def AB (s:TS) (e:bN) (v:TV) (K:e.T→List Prop→aU):aU:=match v with
 | .lp t c=>(match Nat.beq c 0 with
  | true=>(match kA s.vs t with
   | some m=>vv s e.lu (hN s t 0 m) fun x o=>K (e.mk x) o
   | none=> .no)
  | false=> .no)
 | .cZ dI x c=>(match Nat.beq c 0 with
  | true=>if h:dI=e then K (Pp h x) [] else .no
  | false=> .no)
 | _=> .no
def Az (f:Nat) (v:TV) (K:Unit→List Prop→aU):aU:=match v with
 | .fn g c=>(match Nat.beq f g with
  | true=>(match c with
   | []=>K () []
   | _=> .no)
  | false=> .no)
 | _=> .no
def xI (f:Nat) (v:TV) (K:TV→aU):aU:=match v with
 | .fn g c=>(match Nat.beq f g with
  | true=>(match c with
   | [w]=>K w
   | _=> .no)
  | false=> .no)
 | _=> .no
def conv (s:TS):(e:bN)→TV→(e.T→List Prop→aU)→aU
 | .ptr e,v,K=>AB s e v K
 | .hZ f .unit,v,K=>Az f v K
 | .hZ f e,v,K=>xI f v fun w=>match e.isS with
  | true=> .no
  | false=>conv s e w K
 | .bx,v,K=>mG s .bx v K
 | .km,v,K=>mG s .km v K
 | .dW,v,K=>mG s .dW v K
 | .iS,v,K=>mG s .iS v K
 | .g6,v,K=>mG s .g6 v K
 | .held,v,K=>mG s .held v K
 | .frame,v,K=>mG s .frame v K
 | .done,v,K=>mG s .done v K
 | .fault,v,K=>mG s .fault v K
 | .stays,v,K=>mG s .stays v K
 | .kX,v,K=>mG s .kX v K
 | .int,v,K=>mF s .int v K
 | .u64,v,K=>mF s .u64 v K
 | .u8,v,K=>mF s .u8 v K
 | .bool,v,K=>mF s .bool v K
 | .str,v,K=>mF s .str v K
 | .unit,v,K=>mF s .unit v K
 | .nat,v,K=>mF s .nat v K
 | .l e,v,K=>mF s (.l e) v K
def Ar (s:TS):(es:List bN)→List TV→(dr es→List Prop→aU)→aU
 | [],[],K=>K () []
 | e::r,v::vs,K=>conv s e v fun x o=>Ar s r vs fun y kB=>K (x,y) (o++kB)
 | _,_,_=> .no
section
variable {n:Nat} {s:TS} {R:Exit→TS→Prop}
theorem Ps {L:List (Nat×List AV)} {H:List Blk} (e:bN) (x:e.T):mA L H (c_ true e x) (c_ false e x):=by
 rw[←qt,←qt]
 have key: ∀(es:List bN) (y:dr es),mA L H (mI true es y) (mI false es y):=by
  intro es
  induction es with
  | nil=>intro y;exact .nil
  | cons e r bO=>
   intro y
   refine .cons ?_ (bO y.2)
   cases e<;>first | exact .int _ _ | exact .bool _ | exact .str _ | exact b7 | exact .undef _
 exact key _ _
end
section
variable {n:Nat} {s:TS} {R:Exit→TS→Prop}
theorem Ha {k:IntKind} {v:TV} {K:Int→List Prop→aU} (h:(xJ k v K).den R): ∃m,v= .i k m∧(K m []).den R:=by
 unfold xJ at h
 split at h
 ·split at h
  ·rename_i e;subst e;exact⟨_,rfl,h⟩
  ·exact h.elim
 ·exact h.elim
end
section
variable {n:Nat} {s:TS} {R:Exit→TS→Prop}
theorem PH {v:TV} {K:Bool→List Prop→aU} (h:(Ay v K).den R): ∃x,v= .b x∧(K x.den []).den R:=by
 unfold Ay at h
 split at h
 ·exact⟨_,rfl,h⟩
 ·exact h.elim
end
section
variable {n:Nat} {s:TS} {R:Exit→TS→Prop}
theorem PM {v:TV} {K:ByteArray→List Prop→aU} (h:(AC v K).den R): ∃x,v= .s x∧(K x []).den R:=by
 unfold AC at h
 split at h
 ·exact⟨_,rfl,h⟩
 ·exact h.elim
end
section
variable {n:Nat} {s:TS} {R:Exit→TS→Prop}
theorem PG {e:bN} {g m:Nat} {v:TV} {K:List e.T→List Prop→aU} (h:(Ax e g m v K).den R): ∃xs,∃hx:xs.length=m,v= .blk g e xs m hx∧(K xs [xs.length≤4611686018427387904]).den R:=by
 unfold Ax at h
 split at h
 ·rename_i dy dI xs n8 hx
  split at h
  ·rename_i bV
   subst bV
   obtain⟨h1,h2,h⟩:=h
   subst h1;subst h2
   exact⟨xs,hx,rfl,h⟩
  ·exact h.elim
 ·exact h.elim
end
section
variable {n:Nat} {s:TS} {R:Exit→TS→Prop}
theorem Xi {L:List (Nat×List AV)} {H:List Blk} {a b:AV} (h:ck L H a b) (hb: ∀l,b≠ .agg l):fo L H a b:=by
 rcases h with⟨l,eR,_,e,_⟩ | h
 ·exact absurd e (hb eR)
 ·exact h
end
section
variable {n:Nat} {s:TS} {R:Exit→TS→Prop}
theorem P7 (fr:Bool) (e:bN) (x:e.T): ∀l,nL fr e x≠ .agg l:=by
 intro l h;cases e<;>cases h
end
section
variable {n:Nat} {s:TS} {R:Exit→TS→Prop}
theorem PI {f:Nat} {v:TV} {K:Unit→List Prop→aU} (h:(Az f v K).den R):v= .fn f []∧(K () []).den R:=by
 unfold Az at h
 split at h
 ·split at h
  ·rename_i hf
   obtain rfl:=Nat.eq_of_beq_eq_true hf
   split at h
   ·exact⟨rfl,h⟩
   ·exact h.elim
  ·exact h.elim
 ·exact h.elim
end
section
variable {n:Nat} {s:TS} {R:Exit→TS→Prop}
theorem PJ {f:Nat} {v:TV} {K:TV→aU} (h:(xI f v K).den R): ∃w,v= .fn f [w]∧(K w).den R:=by
 unfold xI at h
 split at h
 ·split at h
  ·rename_i hf
   obtain rfl:=Nat.eq_of_beq_eq_true hf
   split at h
   ·exact⟨_,rfl,h⟩
   ·exact h.elim
  ·exact h.elim
 ·exact h.elim
end
section
variable {n:Nat} {s:TS} {R:Exit→TS→Prop}
theorem P9 {e:bN} (h:e.isS=false) (x:e.T): ∀l,mJ e x≠ .agg l:=by
 intro l
 cases e with
 | hZ f e=>cases e<;>(intro h;cases h)
 | ptr e=>intro h;cases h
 | _=>first | (cases h;done) | exact P7 false _ x l
end
section
variable [FZ] {n:Nat} {s:TS} {R:Exit→TS→Prop}
theorem px {V:List aa} {ids:List Nat} {bK:Nat} {hv:V.length=bK} (hk:s.get dE= .gm V ids bK hv):(s.aD n).H=s.gi++List.map bc ‹FZ›.bs:=by
 show s.gi++h3 s=_
 unfold h3 iX
 rw[hk]
theorem HB {V:List aa} {ids:List Nat} {bK:Nat} {hv:V.length=bK} (hk:s.get dE= .gm V ids bK hv) {id:Nat} {k:Blk} (h:(List.map bc ‹FZ›.bs)[id]?=some k):(s.aD n).H[id+s.bB]?=some k:=by
 rw[px hk,List.getElem?_append_right (by rw[l1];omega),l1,Nat.add_sub_cancel];exact h
variable (aQ:Fits s)
include aQ in
theorem PO {e:bN} {b g m:Nat} {ei:Bool} {K:List e.T→List Prop→aU} (hb:b<s.bB) (h:(AD s e g m (s.get (bY b)) K).den R): ∃x o,(K x o).den R∧((∀φ∈o,φ)→fo (s.aD n).L (s.aD n).H (.ref b g 0 m ei) (.be (List.map (c_ false e) x) false false)):=by
 unfold AD at h
 split at h
 ·rename_i dy ir ids aO
  split at h
  ·rename_i V cX bK jM hk
   split at h
   ·rename_i he
    subst he
    obtain⟨h1,h2,aS,bt,cb,h⟩:=h
    subst h1;subst h2;subst aS;subst bt;subst cb;subst jM
    refine⟨_,_,h,fun ax=> ?_⟩
    have aI:=ax _ (List.mem_singleton.2 rfl)
    obtain⟨q1,q2,q3⟩:=aQ V cX _ _ hk
    have n1:V.length= ‹FZ›.ws.length:=by rw[←q2];exact ii q1.ok
    have:=rf (L:=(s.aD n).L) (H:=(s.aD n).H) (b:=b) (s:=s.bB) (n:=V.length) (full:=ei) (ws:= ‹FZ›.ws) (ids:=cX) (bs:= ‹FZ›.bs) n1 (by rw[p9 hb,aO];rfl) (fun id k iF=>HB hk iF) q1.ok (by omega) (fun x hx=>by have:=q1.len x hx;omega)
    rw[q2] at this
    exact this
   ·exact h.elim
  ·exact h.elim
 ·obtain⟨xs,hx,aO,h'⟩:=PG h
  subst hx
  refine⟨_,_,h',fun ax=> ?_⟩
  have aI:=ax _ (List.mem_singleton.2 rfl)
  exact L6 (eT:=c_ true e) (by rw[p9 hb,aO];rfl) (fun x=>Ps e x) aI
include aQ in
theorem PK {e:bN} {v:TV} {K:List e.T→List Prop→aU} (h:(AA s e v K).den R): ∃x o,(K x o).den R∧((∀φ∈o,φ)→fo (s.aD n).L (s.aD n).H v.bz (.be (List.map (c_ false e) x) false false)):=by
 unfold AA at h
 split at h
 ·split at h
  ·rename_i bV;subst bV;exact⟨_,_,h,fun _=>b7⟩
  ·exact h.elim
 ·exact⟨_,_,h,fun _=>by rw[List.map_nil];exact b7⟩
 ·rename_i b g mY ei
  split at h
  ·rename_i hb
   exact PO aQ (by rw[←Nat.blt_eq];exact hb) h
  ·exact h.elim
 ·exact h.elim
include aQ in
theorem Aq {e:bN} {v:TV} {K:e.T→List Prop→aU} (h:(mF s e v K).den R): ∃x o,(K x o).den R∧((∀φ∈o,φ)→fo (s.aD n).L (s.aD n).H v.bz (nL false e x)):=by
 cases e with
 | int=>obtain⟨m,rfl,h⟩:=Ha h;exact⟨m,_,h,fun _=> .int _ _⟩
 | u64=>obtain⟨m,rfl,h⟩:=Ha h;exact⟨m,_,h,fun _=> .int _ _⟩
 | bool=>obtain⟨x,rfl,h⟩:=PH h;exact⟨_,_,h,fun _=> .bool _⟩
 | str=>obtain⟨x,rfl,h⟩:=PM h;exact⟨_,_,h,fun _=> .str _⟩
 | l e=>exact PK aQ h
 | _=>exact h.elim
include aQ in
theorem xG: ∀{es:List bN} {vs:List TV} {K:dr es→List Prop→aU},(vv s es vs K).den R→ ∃x o,(K x o).den R∧((∀φ∈o,φ)→av (fo (s.aD n).L (s.aD n).H) (dd vs) (mI false es x))
 | [],[],K,h=>⟨(),[],h,fun _=>av.nil⟩
 | e::r,v::vs,K,h=>by
  obtain⟨x,o,h,eo⟩:=Aq aQ (n:=n) (show(mF s e v _).den R from h)
  obtain⟨y,kB,h,hD⟩:=xG h
  exact⟨(x,y),o++kB,h,fun ax=>av.cons (eo fun φ en=>ax φ (List.mem_append_left _ en)) (hD fun φ en=>ax φ (List.mem_append_right _ en))⟩
 | [],_::_,K,h=>h.elim
 | _::_,[],K,h=>h.elim
include aQ in
theorem PD {e:bN} {v:TV} {K:e.T→List Prop→aU} (h:(mG s e v K).den R): ∃x o,(K x o).den R∧((∀φ∈o,φ)→ck (s.aD n).L (s.aD n).H v.bz (match e.isS with
  | true=> .agg (c_ false e x)
  | false=>nL false e x)):=by
 unfold mG at h
 cases mQ:e.isS with
 | true=>
  rw[mQ] at h
  simp only at h
  split at h
  ·rename_i c
   obtain⟨x,o,h,k⟩:=xG aQ (n:=n) h
   refine⟨_,o,h,fun ax=> ?_⟩
   show ck _ _ (.agg (dd c)) (.agg (c_ false e (e.mk x)))
   rw[←qt,bN.NY]
   exact ck.agg (k ax)
  ·exact h.elim
 | false=>
  rw[mQ] at h
  obtain⟨x,o,h,k⟩:=Aq aQ (n:=n) (show(mF s e v K).den R from h)
  exact⟨x,o,h,fun ax=> .inr (k ax)⟩
include aQ in
theorem PL {e:bN} {v:TV} {K:e.T→List Prop→aU} (h:(AB s e v K).den R): ∃x o,(K x o).den R∧((∀φ∈o,φ)→ck (s.aD n).L (s.aD n).H v.bz (.cZ (c_ false e x) 0)):=by
 unfold AB at h
 split at h
 ·rename_i t c
  split at h
  ·rename_i hc
   obtain rfl:=Nat.eq_of_beq_eq_true hc
   split at h
   ·rename_i m hm
    obtain⟨x,o,h,k⟩:=xG aQ (n:=n) h
    refine⟨_,o,h,fun ax=> .inr ?_⟩
    have k:=k ax
    show fo _ _ (.e6 t 0) (.cZ (c_ false e (e.mk x)) 0)
    rw[←qt,bN.NY]
    exact .e6 (cells:=dd (hN s t 0 m)) (by rw[w0,hm];rfl) k.1 k.2
   ·exact h.elim
  ·exact h.elim
 ·rename_i dI x c
  split at h
  ·rename_i hc
   obtain rfl:=Nat.eq_of_beq_eq_true hc
   split at h
   ·rename_i bV;subst bV;exact⟨_,_,h,fun _=> .inr (.cZ _ _)⟩
   ·exact h.elim
  ·exact h.elim
 ·exact h.elim
include aQ in
theorem As: ∀{e:bN} {v:TV} {K:e.T→List Prop→aU},(conv s e v K).den R→ ∃x o,(K x o).den R∧((∀φ∈o,φ)→ck (s.aD n).L (s.aD n).H v.bz (mJ e x)):=by
 intro e
 induction e with
 | ptr e bO=>intro v K h;exact PL aQ h
 | hZ f e bO=>
  intro v K h
  have key:(∀x,mJ (.hZ f e) x= .fn f [mJ e x])→(xI f v fun w=>match e.isS with
   | true=> .no
   | false=>conv s e w K).den R→ ∃x o,(K x o).den R∧((∀φ∈o,φ)→ck (s.aD n).L (s.aD n).H v.bz (mJ (.hZ f e) x)):=by
   intro he h
   obtain⟨w,rfl,h'⟩:=PJ h
   cases mQ:e.isS with
   | true=>rw[mQ] at h';exact h'.elim
   | false=>
    rw[mQ] at h'
    obtain⟨x,o,h2,k⟩:=bO h'
    refine⟨x,o,h2,fun ax=> .inr ?_⟩
    rw[he]
    refine fo.fn (caps:=[w.bz]) rfl fun j a b h1 h2=> ?_
    cases j with
    | zero=>cases h1;cases h2;exact Xi (k ax) (P9 mQ x)
    | succ j=>cases h1
  cases e with
  | unit=>
   obtain⟨rfl,h'⟩:=PI h
   exact⟨(),[],h',fun _=> .inr (fo.fn (caps:=[]) rfl fun j a b h1 _=>by cases h1)⟩
  | _=>exact key (fun x=>rfl) h
 | _=>
  intro v K h
  first
  | exact PD aQ (n:=n) h
  | (obtain⟨x,o,h,k⟩:=Aq aQ (n:=n) h;exact⟨x,o,h,fun ax=> .inr (k ax)⟩)
include aQ in
theorem G6: ∀{es:List bN} {vs:List TV} {K:dr es→List Prop→aU},(Ar s es vs K).den R→ ∃x o,(K x o).den R∧((∀φ∈o,φ)→av (ck (s.aD n).L (s.aD n).H) (dd vs) (mK es x))
 | [],[],K,h=>⟨(),[],h,fun _=>av.nil⟩
 | e::r,v::vs,K,h=>by
  obtain⟨x,o,h,eo⟩:=As aQ (n:=n) (show(conv s e v _).den R from h)
  obtain⟨y,kB,h,hD⟩:=G6 h
  exact⟨(x,y),o++kB,h,fun ax=>av.cons (eo fun φ en=>ax φ (List.mem_append_left _ en)) (hD fun φ en=>ax φ (List.mem_append_right _ en))⟩
 | [],_::_,K,h=>h.elim
 | _::_,[],K,h=>h.elim
end
def y6 (l:List Prop) (t:aU):aU:=match l with
 | []=>t
 | l=> .p (oy l) t
theorem G5: ∀{l:List Prop},oy l→ ∀φ∈l,φ
 | [],_,φ,h=>by cases h
 | [a],hc,φ,h=>by rw[List.mem_singleton.1 h];exact hc
 | a::b::r,hc,φ,h=>by
  have hc:a∧oy (b::r):=hc
  rcases List.mem_cons.1 h with rfl | h
  ·exact hc.1
  ·exact G5 hc.2 φ h
theorem K8 {l:List Prop} {t:aU} {R:Exit→TS→Prop} (h:(y6 l t).den R):(∀φ∈l,φ)∧t.den R:=by
 unfold y6 at h
 split at h
 ·exact⟨(fun φ h=>by cases h),h⟩
 ·exact⟨G5 h.1,h.2⟩
def x7 {P:Program}:List (ev P)→FuncId→(ev P→aU)→aU
 | [],_,_=> .no
 | c::r,f,K=>match Nat.beq c.f f with
  | true=>K c
  | false=>x7 r f K
def uv:TV→Bool
 | .tup _=>false
 | .o a=>ed a
 | _=>true
theorem y0 {v:TV} (h:uv v=true):ed v.bz=true:=by cases v<;>first | rfl | exact h | cases h
def DZ {P:Program} (c:ev P) (x:dr c.ps):List Prop:=match c.pre with
 | none=>[]
 | some p=>[p x]
def Aj {P:Program} (oh:List (ev P)) (f:FuncId) (args:List TV) (s:TS) (K:TV→aU):aU:=match args.all uv with
 | false=> .no
 | true=>x7 oh f fun c=>Ar s c.ps args fun x o=>y6 (o++DZ c x) (K (zq c.rs (c.fn x)))
theorem HI {P:Program} {f:FuncId} {K:ev P→aU} {R:Exit→TS→Prop}: ∀{oh:List (ev P)},(x7 oh f K).den R→ ∃c,c.f=f∧(K c).den R
 | [],h=>h.elim
 | c::r,h=>by
  unfold x7 at h
  split at h
  ·rename_i hf;exact⟨c,Nat.eq_of_beq_eq_true hf,h⟩
  ·exact HI h
theorem Pn [FZ] {P:Program} {oh:List (ev P)} {f:FuncId} {args:List TV} {s:TS} {K:TV→aU} {R:Exit→TS→Prop} {n:Nat} {Kp:AV→Prop} (aQ:Fits s) (hK: ∀v,(K v).den R→Kp v.bz) (h:(Aj oh f args s K).den R):
  na P f (dd args) (s.aD n).L (s.aD n).H Kp:=by
 unfold Aj at h
 split at h
 ·exact h.elim
 ·rename_i aC
  obtain⟨c,rfl,h1⟩:=HI h
  obtain⟨x,o,h2,k⟩:=G6 aQ (n:=n) h1
  obtain⟨ax,aS⟩:=K8 h2
  refine⟨?_,_,_,k fun φ en=>ax φ (List.mem_append_left _ en),c.ok x ?_,?_⟩
  ·rw[List.all_eq_true] at aC ⊢
   intro a a6
   rw[nH] at a6
   obtain⟨v,hv,rfl⟩:=List.mem_map.1 a6
   exact y0 (aC v hv)
  ·have aF: ∀φ∈DZ c x,φ:=fun φ en=>ax φ (List.mem_append_right _ en)
   unfold DZ at aF
   revert aF
   cases c.pre with
   | none=>intro _;trivial
   | some p=>intro aF;exact aF _ (List.mem_singleton.2 rfl)
  ·rw[←Ed];exact hK _ aS
end Go.Proofs.Ytglpfccgmfhkdaa.Fw
/- The machine, part D: one operation. -/
set_option linter.unusedVariables false
namespace Go.Proofs.Ytglpfccgmfhkdaa.Fw
open Go
inductive xe:Type 1 where
 | no
 | v (x:TV)
 | c (φ:Prop) (x:TV)
 | j3 (φ ψ:Prop) (x:TV)
def pA (F:List Blk→(AV→Prop)→Prop) (K:TV→aU):xe→aU
 | .no=> .no
 | .v x=> .eq F (fun _ Q=>Q x.bz) (nQ x K)
 | .c φ x=> .eq F (fun _ Q=>φ∧Q x.bz) (.p φ (nQ x K))
 | .j3 φ ψ x=> .eq F (fun _ Q=>φ∧ψ∧Q x.bz) (.p (φ∧ψ) (nQ x K))
theorem qC {F:List Blk→(AV→Prop)→Prop} (H:List Blk) {K:TV→aU} {g:xe} {R:Exit→TS→Prop} {Kp:AV→Prop} (hK: ∀v,(K v).den R→Kp v.bz) (h:(pA F K g).den R):F H Kp:=by
 cases g with
 | no=>exact h.elim
 | v x=>obtain⟨e,h⟩:=h;rw[oC] at h;rw[e];exact hK _ h
 | c φ x=>obtain⟨e,h1,h⟩:=h;rw[oC] at h;rw[e];exact⟨h1,hK _ h⟩
 | j3 φ ψ x=>obtain⟨e,h1,h⟩:=h;rw[oC] at h;rw[e];exact⟨h1.1,h1.2,hK _ h⟩
def ox:TV→List TV
 | .agg c=>c
 | v=>[v]
def sT (P:Program) (t:TypeId) (cells:List TV) (c:Nat):TV:=match uf P t with
 | true=> .agg ((cells.drop c).take (P.cellsOf t))
 | false=>cells.getD c .u
def Rg (op:BinOp) (x y:TV):xe:=match x with
 | .i k a=>(match y with
  | .i _ b=>(match op with
   | .add=> .v (.i k (k.wrap (a+b)))
   | .sub=> .v (.i k (k.wrap (a - b)))
   | .mul=> .v (.i k (k.wrap (a*b)))
   | .quo=> .c (b≠0) (.i k (k.wrap (a.tdiv b)))
   | .rem=> .c (b≠0) (.i k (a.tmod b))
   | .and=> .v (.i k (k.wrap (BitVec.ofInt k.bits a&&&BitVec.ofInt k.bits b).toNat))
   | .shl=> .c (0≤b) (.i k (k.wrap (a*2 ^ (min b.toNat k.bits))))
   | .shr=> .c (0≤b) (.i k (a.fdiv (2 ^ (min b.toNat k.bits))))
   | .eql=> .v (.b (.v (a==b)))
   | .neq=> .v (.b (.v (a !=b)))
   | .lss=> .v (.b (.v (decide (a<b))))
   | .leq=> .v (.b (.v (decide (a≤b))))
   | .gtr=> .v (.b (.v (decide (a>b))))
   | .geq=> .v (.b (.v (decide (a ≥ b))))
   | _=> .no)
  | _=> .no)
 | .b p=>(match y with
  | .b q=>(match op with
   | .eql=> .v (.b (.v (p.den==q.den)))
   | .neq=> .v (.b (.v (p.den !=q.den)))
   | _=> .no)
  | _=> .no)
 | .s p=>(match y with
  | .s q=>(match op with
   | .add=> .c (p.size+q.size≤9223372036854775807) (.s (p++q))
   | .eql=> .v (.b (.v (p.toList==q.toList)))
   | .neq=> .v (.b (.v (!(p.toList==q.toList))))
   | _=> .no)
  | _=> .no)
 | .agg l=>(match y with
  | .agg m=>(match l,m with
   | [.i _ a,.i _ b],[.i _ c,.i _ d]=>(match op with
    | .eql=> .v (.b (.v (a==c&&b==d)))
    | .neq=> .v (.b (.v (!(a==c&&b==d))))
    | _=> .no)
   | _,_=> .no)
  | _=> .no)
 | _=> .no
def xa (P:Program) (t:TypeId):List TV:=match(P.info? t).bind (·.zero) with
 | some z=>z.cells.toList.map xK
 | none=>[]
def HC (pl:List (Nat×Nat)) (cells:List TV):List (Nat×TV)→List TV
 | []=>cells
 | (i,v)::r=>match pl[i]? with
  | some p=>HC pl (cells.take p.1++ox v++cells.drop (p.1+(ox v).length)) r
  | none=>cells
def Bf:(e:bN)→TV→e.T
 | .int,.i _ m=>m
 | .u64,.i _ m=>m
 | .bool,.b x=>x.den
 | .str,.s x=>x
 | .l e,.l dI xs _ _=>if h:dI=e then lm h xs else[]
 | e,_=>e.sd.default
def qz:(es:List bN)→List TV→dr es
 | [],_=>()
 | e::r,v::vs=>(Bf e v,qz r vs)
 | e::r,[]=>(e.sd.default,qz r [])
def Q9 (e:bN) (v:TV):e.T:=match e.isS with
 | true=>e.mk (qz e.lu (ox v))
 | false=>Bf e v
def Q7:TV→Bool
 | .l _ _ _ fr=>fr
 | .nil _ fr=>fr
 | .agg c=>c.all fun v=>match v with
  | .l _ _ _ fr=>fr
  | .nil _ fr=>fr
  | _=>true
 | _=>true
def KB (e:bN) (xs:List e.T) (l:List TV):TV:=match l with
 | []=> .nil true true
 | l=> .l e xs true (l.all Q7)
def yR (s:TS) (e:bN):List TV→(List e.T→aU)→aU
 | [],K=>K []
 | v::r,K=>conv s e v fun x _=>yR s e r fun xs=>K (x::xs)
theorem Dz [FZ] {n:Nat} {s:TS} {e:bN} {R:Exit→TS→Prop} (aQ:Fits s): ∀{l:List TV} {K:List e.T→aU},(yR s e l K).den R→ ∃xs,(K xs).den R
 | [],K,h=>⟨_,h⟩
 | v::r,K,h=>by
  obtain⟨x,o,h,_⟩:=As aQ (n:=n) (show(conv s e v _).den R from h)
  obtain⟨xs,h⟩:=Dz (n:=n) aQ h
  exact⟨_,h⟩
def uj:List (Nat×bN)→Nat→(bN→aU)→aU
 | [],_,_=> .no
 | (k,e)::r,t,K=>match Nat.beq k t with
  | true=>K e
  | false=>uj r t K
structure gO (P:Program) where
 n:Nat
 AQ:List (Nat×bN)
 oh:List (ev P)
section
variable {P:Program} (cf:gO P) (s:TS)
def gs (P:Program) (n:Nat) (s:TS) (op:Op):xe:=match op with
 | .nilCheck x=> .v (cv n s x)
 | .load t a=>(match cv n s a with
  | .lp v c=>(match kA s.vs v with
   | some m=> .v (sT P t (hN s v 0 m) c)
   | none=> .no)
  | .cZ e x c=> .v (sT P t (lK false e x) c)
  | _=> .no)
 | .fieldAddr t x f=>(match x3 P t f with
  | some fd=>(match cv n s x with
   | .lp v c=> .v (.lp v (c+fd.offset))
   | .cZ e x c=> .v (.cZ e x (c+fd.offset))
   | .ptr b g i m c=> .v (.ptr b g i m (c+fd.offset))
   | _=> .no)
  | none=> .no)
 | .unOp op _ x=>(match cv n s x with
  | .b z=>(match op with
   | .not=> .v (.b z.not)
   | _=> .no)
  | .i k m=>(match op with
   | .neg=> .v (.i k (k.wrap (0 - m)))
   | _=> .no)
  | _=> .no)
 | .convert _ d x=>(match cv n s x with
  | .i _ m=>(match ue P d with
   | some k=> .v (.i k (k.wrap m))
   | none=> .no)
  | _=> .no)
 | .binOp op _ x y _=>Rg op (cv n s x) (cv n s y)
 | .build t ps=>(match DV P t with
  | some pl=> .v (.agg (HC pl (xa P t) (ps.toList.map fun p=>(p.1,cv n s p.2))))
  | none=> .no)
 | .index _ x i=>(match cv n s x with
  | .s z=>(match cv n s i with
   | .i _ m=> .j3 (0≤m) (m<z.size) (.i .u8 ((z.data.getD m.toNat 0).toNat))
   | _=> .no)
  | _=> .no)
 | .extract x i=>(match cv n s x with
  | .tup l=> .v (l.getD i .u)
  | _=> .no)
 | .makeFunc fn _ caps=>(match fn with
  | .func f=> .v (.fn f (caps.toList.map (cv n s)))
  | _=> .no)
 | _=> .no
def qM (P:Program) (t:TypeId):Option Nat:=match il P t with
 | some e=>(match(P.info? e).isSome with
  | true=>some (P.cellsOf e)
  | false=>none)
 | none=>none
theorem ub {P:Program} {t:TypeId} {m:Nat} (h:qM P t=some m): ∃e,il P t=some e∧(P.info? e).isSome=true∧P.cellsOf e=m:=by
 unfold qM at h
 split at h
 ·rename_i e he
  split at h
  ·rename_i hi;exact⟨e,he,hi,Option.some.inj h⟩
  ·cases h
 ·cases h
def qp (s:TS) (b g:Nat) (K:(e:bN)→(xs:List e.T)→(m:Nat)→xs.length=m→aU):aU:=match Nat.blt b s.bB with
 | true=>(match s.get (bY b) with
  | .blk dy e xs m h=> .eq dy g (K e xs m h)
  | _=> .no)
 | false=> .no
theorem vr [FZ] {n:Nat} {s:TS} {b g:Nat} {K:(e:bN)→(xs:List e.T)→(m:Nat)→xs.length=m→aU} {R:Exit→TS→Prop} (h:(qp s b g K).den R):
  ∃e xs m hm,(K e xs m hm).den R∧b<s.bB∧(s.aD n).H[b]?=some ⟨g,e.k8,xs.map (c_ true e)⟩:=by
 unfold qp at h
 split at h
 ·rename_i hb
  have hb:b<s.bB:=by rw[←Nat.blt_eq];exact hb
  split at h
  ·rename_i dy e xs m hm aO
   obtain⟨h1,h⟩:=h
   subst h1
   exact⟨e,xs,m,hm,h,hb,by rw[p9 hb,aO];rfl⟩
  ·exact h.elim
 ·exact h.elim
def xF (V:List aa) (ids:List Nat) (m:Nat) (i:Int):List TV:=[.i .i64 (nth V i).state,.i .i64 (nth V i).gone,.tx i ids m (nth V i).been.length,.b (.v (nth V i).shown),.i .i64 (nth V i).timer]
theorem zM {ws:List aa} {ids:List Nat} {bs:List (List Bool)} {i:Int} (ok:iQ ws ids bs) (h:i.toNat<(view ws ids bs).length):nth (view ws ids bs) i={nth ws i with been:=bs.getD (nth ids i) []}:=by
 have aI:=ii ok
 have h1:=gv (xs:=ws) (i:=i) (by omega)
 have h2:=gv (xs:=ids) (i:=i) (by have:=ok.len;omega)
 have:=u7 (bs:=bs) h1 h2
 rw[gv h] at this
 exact Option.some.inj this
theorem Wv [Z:FZ] {V:List aa} {ids:List Nat} {m:Nat} {i:Int} (G:fL Z.ws ids Z.bs) (e:view Z.ws ids Z.bs=V) (h:i.toNat<V.length):(aT m Z.ws ids)[i.toNat]?=some (dd (xF V ids m i)):=by
 subst e
 have aI:=ii G.ok
 have Sj:=G.ok.len
 rw[dq Sj (by omega)]
 have hb:=G.ok.been i.toNat _ _ (gv (xs:=Z.ws) (i:=i) (by omega)) (gv (xs:=ids) (i:=i) (by omega))
 unfold xF
 rw[zM G.ok h]
 show some (jj m (nth Z.ws i) (nth ids i))=some _
 unfold jj
 rw[hb];rfl
def Ca (P:Program) (t:TypeId) (b g m:Nat) (i:Int) (s:TS) (v:TV) (K:TV→aU):aU:=match v with
 | .kn dy _ _=>(match Nat.blt b s.bB with
  | true=> .eq dy g (.eq (qM P t) (some 5) (.p (0≤i∧i.toNat<m) (K (.ptr b g i m 0))))
  | false=> .no)
 | _=>qp s b g fun e _ _ _=> .eq (qM P t) (some e.k8) (.p (0≤i∧i.toNat<m) (K (.ptr b g i m 0)))
def Cb (P:Program) (t:TypeId) (w:Int) (ids:List Nat) (m k:Nat) (i:Int) (s:TS) (K:TV→aU):aU:=match s.get dE with
 | .gm V cX _ _=> .eq cX ids (.eq m s.bB (.eq (qM P t) (some 1) (.p (w.toNat<V.length∧0≤i∧i.toNat<k) (K (.tw w ids m i)))))
 | _=> .no
def Cc (P:Program) (t:TypeId) (x i:TV) (s:TS) (K:TV→aU):aU:=match i with
 | .i _ i=>(match x with
  | .l e xs _ _=> .eq (qM P t) (some e.k8) (.p (0≤i∧i.toNat<xs.length) (K (.cZ e (qU e xs i) 0)))
  | .ref b g m _=>Ca P t b g m i s (s.get (bY b)) K
  | .tx w ids m k=>Cb P t w ids m k i s K
  | _=> .no)
 | _=> .no
def Dt (P:Program) (t:TypeId) (w:Int) (ids:List Nat) (m:Nat) (j:Int) (s:TS) (K:TV→aU):aU:=match s.get dE with
 | .gm V cX _ _=> .eq cX ids (.eq m s.bB (.p (w.toNat<V.length∧j.toNat<(nth V w).been.length) (pA (fun _ Q=>iB P t [AV.bool (nth (nth V w).been j)] 0 Q) K (.v (sT P t [.b (.v (nth (nth V w).been j))] 0)))))
 | _=> .no
def Du (P:Program) (t:TypeId) (b g:Nat) (i:Int) (m c:Nat) (s:TS) (K:TV→aU):aU:=match s.get (bY b) with
 | .kn dy ir ids=>(match Nat.blt b s.bB with
  | true=>(match s.get dE with
   | .gm V cX _ _=> .eq dy g (.eq cX ids (.p (i.toNat<V.length) (pA (fun _ Q=>iB P t (dd (xF V ids ir i)) c Q) K (.v (sT P t (xF V ids ir i) c)))))
   | _=> .no)
  | false=> .no)
 | .i_ dy ba=>(match Nat.blt b s.bB with
  | true=> .eq dy g (.eq i 0 (pA (fun _ Q=>iB P t (dd ba) c Q) K (.v (sT P t ba c))))
  | false=> .no)
 | _=>qp s b g fun e xs ft _=> .eq ft m (.p (i.toNat<m) (pA (fun _ Q=>iB P t (c_ true e (qU e xs i)) c Q) K (.v (sT P t (lK true e (qU e xs i)) c))))
def Ey (P:Program) (t:TypeId) (x:TV) (lo hi:Option TV) (K:TV→aU):aU:=match x with
 | .l e xs _ fr=>(match lo with
  | none=>(match hi with
   | some (.i _ b)=> .eq (qM P t) (some e.k8) (.p (0≤b∧b≤(xs.length:Int)) (K (.l e (xs.take b.toNat) false fr)))
   | _=> .no)
  | some (.i _ a)=>(match hi with
   | none=> .eq (qM P t) (some e.k8) (.p (0≤a∧a≤(xs.length:Int)) (K (.l e (xs.drop a.toNat) false fr)))
   | _=> .no)
  | _=> .no)
 | _=> .no
def Dv (P:Program) (t:TypeId) (x:TV) (K:TV→aU):aU:=match x with
 | .l _ xs _ _=> .eq (iW P t x.bz) true (K (.i .i64 xs.length))
 | .nil _ _=> .eq (iW P t x.bz) true (K (.i .i64 (0:Nat)))
 | .s z=> .eq (iW P t x.bz) true (K (.i .i64 z.size))
 | .ref _ _ m _=> .eq (iW P t x.bz) true (K (.i .i64 m))
 | .tx _ _ _ k=> .eq (iW P t x.bz) true (K (.i .i64 k))
 | _=> .no
def p5 (o:Oper) (K:TV→aU):aU:=match o.op with
 | .move x=>nQ (cv cf.n s x) K
 | .assign x=>nQ (cv cf.n s x) K
 | .indexAddr t x i=>Cc P t (cv cf.n s x) (cv cf.n s i) s K
 | .load t a=>(match cv cf.n s a with
  | .ptr b g i m c=>Du P t b g i m c s K
  | .tw w ids m j=>Dt P t w ids m j s K
  | _=>pA (fun H Q=>iR P o (fun x=>(cv cf.n s x).bz) s.cy H Q) K (gs P cf.n s o.op))
 | .slice t x lo hi mx=>(match mx with
  | none=>Ey P t (cv cf.n s x) (lo.map (cv cf.n s)) (hi.map (cv cf.n s)) K
  | some _=> .no)
 | .call c=>(match c.callee with
  | .builtin b=>(match b with
   | .len=>(match c.args.toList,c.argTypes.toList with
    | [x],[t]=>Dv P t (cv cf.n s x) K
    | _,_=> .no)
   | _=> .no)
  | .value f=>(match cv cf.n s f with
   | .fn g caps=>Aj cf.oh g (c.args.toList.map (cv cf.n s)++caps) s K
   | _=> .no)
  | _=> .no)
 | .buildSlice t m ps=>uj cf.AQ t fun e=>yR s e (ps.toList.map fun p=>cv cf.n s p.2) fun xs=>pA (fun H Q=>iR P o (fun x=>(cv cf.n s x).bz) s.cy H Q) K (.v (KB e xs (ps.toList.map fun p=>cv cf.n s p.2)))
 | op=>pA (fun H Q=>iR P o (fun x=>(cv cf.n s x).bz) s.cy H Q) K (gs P cf.n s op)
end
theorem DN {e:bN} {xs:List e.T} {i:Int} (h:i.toNat<xs.length) (fr:Bool):(xs.map (c_ fr e))[i.toNat]?=some (c_ fr e (qU e xs i)):=by
 rw[List.getElem?_map]
 have:xs[i.toNat]?=some (qU e xs i):=by
  have:= @gv e.T e.sd xs i h
  exact this
 rw[this];rfl
section
variable {P:Program} {cf:gO P} {s:TS} {R:Exit→TS→Prop} {K:TV→aU} {Kp:AV→Prop}
theorem WV {t:TypeId} {x:TV} {lo hi:Option TV} {H:List Blk} (hK: ∀v,(K v).den R→Kp v.bz) (h:(Ey P t x lo hi K).den R):sM P t x.bz (lo.map TV.bz) (hi.map TV.bz) H Kp:=by
 unfold Ey at h
 split at h
 ·rename_i e xs ei fr
  have ek: ∀{m:Nat},m=e.k8→ ∀(i:Nat) (row:List AV),(List.map (c_ false e) xs)[i]?=some row→row.length=m:=fun hm i row aJ=>by
   rw[List.getElem?_map] at aJ
   cases hx:xs[i]? with
   | none=>rw[hx] at aJ;cases aJ
   | some x=>rw[hx] at aJ;cases aJ;rw[rJ,hm]
  split at h
  ·split at h
   ·rename_i k b
    obtain⟨h1,h2,h⟩:=h
    obtain⟨my,q1,q2,q3⟩:=ub h1
    refine dG q1 ?_
    rw[if_pos q2]
    refine⟨h2.1,Nat.zero_le _,by rw[List.length_map];omega,ek q3,?_⟩
    rw[List.drop_zero,Nat.sub_zero,←List.map_take];exact hK _ h
   ·exact h.elim
  ·split at h
   ·rename_i k a
    obtain⟨h1,h2,h⟩:=h
    obtain⟨my,q1,q2,q3⟩:=ub h1
    refine dG q1 ?_
    rw[if_pos q2]
    refine⟨h2.1,by rw[List.length_map];omega,Nat.le_refl _,ek q3,?_⟩
    rw[List.take_of_length_le (by rw[List.length_drop];omega),←List.map_drop];exact hK _ h
   ·exact h.elim
  ·exact h.elim
 ·exact h.elim
end
section
variable {P:Program} {cf:gO P} {s:TS} {R:Exit→TS→Prop} {K:TV→aU} {Kp:AV→Prop}
theorem U6 {t:TypeId} {x:TV} (hK: ∀v,(K v).den R→Kp v.bz) (h:(Dv P t x K).den R):ef (iW P t x.bz) (pW x.bz Kp):=by
 unfold Dv at h
 split at h
 ·obtain⟨h1,h⟩:=h
  rw[h1]
  show Kp (.int .i64 ((List.map _ _).length:Nat))
  rw[List.length_map];exact hK _ h
 ·obtain⟨h1,h⟩:=h;rw[h1];exact hK _ h
 ·obtain⟨h1,h⟩:=h;rw[h1];exact hK _ h
 ·obtain⟨h1,h⟩:=h;rw[h1];exact hK _ h
 ·obtain⟨h1,h⟩:=h;rw[h1];exact hK _ h
 ·exact h.elim
end
section
variable {P:Program} {cf:gO P} {s:TS} {R:Exit→TS→Prop} {K:TV→aU} {Kp:AV→Prop}
theorem DA {l:List (Nat×bN)} {t:Nat} {K:bN→aU} (h:(uj l t K).den R): ∃e,(K e).den R:=by
 induction l with
 | nil=>exact h.elim
 | cons p r bO=>
  obtain⟨k,e⟩:=p
  unfold uj at h
  split at h
  ·exact⟨e,h⟩
  ·exact bO h
end
section
variable [FZ] {P:Program} {cf:gO P} {s:TS} {R:Exit→TS→Prop} {K:TV→aU} {Kp:AV→Prop}
variable (aQ:Fits s)
theorem Ta {t:TypeId} {b g m:Nat} {i:Int} {k:IntKind} {ei:Bool} (hK: ∀v,(K v).den R→Kp v.bz) (h:(Ca P t b g m i s (s.get (bY b)) K).den R):ua P t (.ref b g 0 m ei) (.int k i) (s.aD cf.n).H Kp:=by
 unfold Ca at h
 split at h
 ·rename_i dy ir ids aO
  split at h
  ·rename_i hb
   have hb:b<s.bB:=by rw[←Nat.blt_eq];exact hb
   obtain⟨h1,h2,aS,h⟩:=h
   subst h1
   obtain⟨my,q1,q2,q3⟩:=ub h2
   refine dG q1 ?_
   rw[if_pos q2]
   refine dG (by rw[p9 hb,aO]) ⟨rfl,q3.symm,aS.1,by have:=aS.2;omega,?_⟩
   rw[Nat.zero_add];exact hK _ h
  ·exact h.elim
 ·obtain⟨e,xs,ft,hm,h,hb,aV⟩:=vr (n:=cf.n) h
  obtain⟨h1,h2,h⟩:=h
  obtain⟨my,q1,q2,q3⟩:=ub h1
  refine dG q1 ?_
  rw[if_pos q2]
  refine dG aV ⟨rfl,q3.symm,h2.1,by have:=h2.2;omega,?_⟩
  rw[Nat.zero_add];exact hK _ h
include aQ in
theorem A7 {V:List aa} {ids:List Nat} {w:Int} {bK:Nat} {hv:V.length=bK} (hk:s.get dE= .gm V ids bK hv) (hw:w.toNat<V.length):(s.aD cf.n).H[nth ids w+s.bB]?=some (bc (nth V w).been):=by
 obtain⟨G,e,_⟩:=aQ V ids _ _ hk
 have aI:=ii G.ok
 rw[e] at aI
 have gf:=G.ok.lt w.toNat _ (gv (xs:=ids) (i:=w) (by have:=G.ok.len;omega))
 refine HB hk ?_
 rw[qx gf,←e,zM G.ok (by rw[e];exact hw)]
include aQ in
theorem Tb {t:TypeId} {w:Int} {ids:List Nat} {m c:Nat} {i:Int} {k:IntKind} (hK: ∀v,(K v).den R→Kp v.bz) (h:(Cb P t w ids m c i s K).den R):ua P t (.ref (nth ids w+m) 0 0 c false) (.int k i) (s.aD cf.n).H Kp:=by
 unfold Cb at h
 split at h
 ·rename_i V cX bK jM hk
  obtain⟨h1,h2,aS,bt,h⟩:=h
  subst h1;subst h2
  obtain⟨my,q1,q2,q3⟩:=ub aS
  refine dG q1 ?_
  rw[if_pos q2]
  refine dG (A7 aQ hk bt.1) ⟨rfl,q3.symm,bt.2.1,by have:=bt.2.2;omega,?_⟩
  rw[Nat.zero_add];exact hK _ h
 ·exact h.elim
include aQ in
theorem Te {t:TypeId} {x i:TV} (hK: ∀v,(K v).den R→Kp v.bz) (h:(Cc P t x i s K).den R):ua P t x.bz i.bz (s.aD cf.n).H Kp:=by
 unfold Cc at h
 split at h
 ·split at h
  ·obtain⟨h1,h2,h⟩:=h
   obtain⟨my,q1,q2,q3⟩:=ub h1
   refine dG q1 ?_
   rw[if_pos q2]
   exact⟨h2.1,dG (DN h2.2 false) ⟨by rw[rJ,q3],hK _ h⟩⟩
  ·exact Ta hK h
  ·exact Tb aQ hK h
  ·exact h.elim
 ·exact h.elim
include aQ in
theorem UX {t:TypeId} {w:Int} {ids:List Nat} {m:Nat} {j:Int} (hK: ∀v,(K v).den R→Kp v.bz) (h:(Dt P t w ids m j s K).den R):nm P t (.ptr (nth ids w+m) 0 j.toNat 0) (s.aD cf.n).L (s.aD cf.n).H Kp:=by
 unfold Dt at h
 split at h
 ·rename_i V cX bK jM hk
  obtain⟨h1,h2,aS,h⟩:=h
  subst h1;subst h2
  exact dG (A7 aQ hk aS.1) ⟨rfl,dG (vt aS.2) (qC [] hK h)⟩
 ·exact h.elim
include aQ in
theorem UY {t:TypeId} {b g m c:Nat} {i:Int} (hK: ∀v,(K v).den R→Kp v.bz) (h:(Du P t b g i m c s K).den R):nm P t (.ptr b g i.toNat c) (s.aD cf.n).L (s.aD cf.n).H Kp:=by
 unfold Du at h
 split at h
 ·rename_i dy ir ids aO
  split at h
  ·rename_i hb
   have hb:b<s.bB:=by rw[←Nat.blt_eq];exact hb
   split at h
   ·rename_i V cX bK jM hk
    obtain⟨h1,h2,aS,h⟩:=h
    subst h1;subst h2
    obtain⟨G,e,_⟩:=aQ V cX _ _ hk
    exact dG (by rw[p9 hb,aO]) ⟨rfl,dG (Wv G e aS) (qC [] hK h)⟩
   ·exact h.elim
  ·exact h.elim
 ·rename_i dy ba aO
  split at h
  ·rename_i hb
   have hb:b<s.bB:=by rw[←Nat.blt_eq];exact hb
   obtain⟨h1,h2,h⟩:=h
   subst h1;subst h2
   exact dG (by rw[p9 hb,aO]) ⟨rfl,dG (a:=dd ba) rfl (qC [] hK h)⟩
  ·exact h.elim
 ·obtain⟨e,xs,ft,hm,h,hb,aV⟩:=vr (n:=cf.n) h
  obtain⟨h1,h2,h⟩:=h
  refine dG aV ⟨rfl,dG (DN (by omega) true) ?_⟩
  exact qC [] hK h
include aQ in
theorem LL {o:Oper} (hK: ∀v,(K v).den R→Kp v.bz) (h:(p5 cf s o K).den R):iR P o (cc (s.aD cf.n).T) (s.aD cf.n).L (s.aD cf.n).H Kp:=by
 rw[kb]
 obtain⟨dst,op,ty,pos,after,guard⟩:=o
 unfold p5 at h
 split at h
 ·rename_i x fc;cases fc;rw[oC] at h;exact hK _ h
 ·rename_i x fc;cases fc;rw[oC] at h;exact hK _ h
 ·rename_i t x i fc;cases fc;exact Te aQ hK h
 ·rename_i t a fc
  cases fc
  split at h
  ·rename_i b g i m c a6
   show nm P t (cv cf.n s a).bz _ _ Kp
   rw[a6];exact UY aQ hK h
  ·rename_i w ids m j a6
   show nm P t (cv cf.n s a).bz _ _ Kp
   rw[a6];exact UX aQ hK h
  ·exact qC (F:=fun H Q=>iR P _ _ _ H Q) _ hK h
 ·rename_i t x lo hi mx fc
  cases fc
  split at h
  ·have:=WV (H:=(s.aD cf.n).H) hK h
   show sM P t _ (lo.map _) (hi.map _) _ Kp
   rw[Option.map_map,Option.map_map] at this
   exact this
  ·exact h.elim
 ·rename_i c fc
  cases fc
  obtain⟨callee,args,argTypes⟩:=c
  split at h
  ·rename_i b hb
   cases hb
   split at h
   ·show(match args.toList,argTypes.toList with
     | [x],[t]=>ef (iW P t ((fun x=>(cv cf.n s x).bz) x)) (pW ((fun x=>(cv cf.n s x).bz) x) Kp)
     | _,_=>False)
    split at h
    ·rename_i x t h1 h2
     simp only at h1 h2
     simp only[h1,h2];exact U6 hK h
    ·exact h.elim
   ·exact h.elim
  ·rename_i f hf
   cases hf
   show kW (cv cf.n s f).bz fun g caps=>na P g (args.toList.map (fun x=>(cv cf.n s x).bz)++caps) _ _ Kp
   split at h
   ·rename_i g caps hc
    rw[hc]
    have:=Pn (n:=cf.n) aQ hK h
    rw[nH,List.map_append,List.map_map] at this
    show na P g (_++dd caps) _ _ Kp
    rw[nH];exact this
   ·exact h.elim
  ·exact h.elim
 ·rename_i t m ps fc
  cases fc
  obtain⟨e,h⟩:=DA h
  obtain⟨xs,h⟩:=Dz (n:=cf.n) aQ h
  exact qC (F:=fun H Q=>iR P _ _ _ H Q) _ hK h
 ·exact qC (F:=fun H Q=>iR P _ _ _ H Q) _ hK h
end
end Go.Proofs.Ytglpfccgmfhkdaa.Fw
/- What the functions compute, told in plain Lean: numbers, lists, plans. -/
set_option linter.unusedVariables false
namespace Go.Proofs.Ytglpfccgmfhkdaa.Fw
open Go
theorem gb {n:Int} (h1: -9223372036854775808≤n) (h2:n≤9223372036854775807):IntKind.i64.wrap n=n:=by
 rw[IntKind.wrap_i64];omega
def b1 (x a b:Int):Bool:=decide (a≤x)&&decide (x≤b)
theorem j_ {x a b:Int}:b1 x a b=true↔a≤x∧x≤b:=by simp[b1]
theorem fv {α:Type} [Inhabited α] {xs:List α} {i:Int} (h:i.toNat<xs.length):nth xs i=xs[i.toNat]:=by
 have:=gv h
 rw[List.getElem?_eq_getElem h] at this
 exact(Option.some.inj this).symm
theorem dt {α:Type} [Inhabited α] {xs:List α} {i:Int} (h:i.toNat<xs.length):nth xs i∈xs:=by rw[fv h];exact List.getElem_mem h
theorem iu {α:Type} [Inhabited α] {xs:List α} {i:Nat} (h:i<xs.length):nth xs (i:Int)=xs[i]:=by rw[fv (by simpa using h)];simp
def first {α:Type} (xs:List α) (p:α→Bool):Option Nat:=xs.findIdx? p
theorem Qs {α:Type} {xs:List α} {p:α→Bool} (h: ∀x∈xs,p x=false):first xs p=none:=by
 unfold first;rw[List.findIdx?_eq_none_iff];exact h
theorem Qt {α:Type} [Inhabited α] {xs:List α} {p:α→Bool} {i:Int} (h: ∀x∈xs.take i.toNat,p x=false) (hi:i.toNat<xs.length) (aF:p (nth xs i)=true):first xs p=some i.toNat:=by
 unfold first
 rw[List.findIdx?_eq_some_iff_getElem]
 refine⟨hi,by rw[←fv hi];exact aF,fun j aP=> ?_⟩
 have:=h xs[j] (by rw[List.mem_take_iff_getElem];exact⟨j,by omega,rfl⟩)
 simp[this]
def DQ (o:Option Nat):Int:=match o with
 | some i=>i
 | none=> -1
def mh (xs:List Int) (v:Int):Int:=DQ (first xs (fun x=>v==x))
def fb (xs:List Int) (v:Int):Bool:=xs.contains v
def nU (xs:List Bool) (v:Bool):Bool:=xs.contains v
def U {α:Type} (x:α):α:=x
def meets (a b:List Int):Bool:=a.any fun x=>b.contains x
def dup (l:List Int):Bool:= !decide l.Nodup
def bq (w:Way):List ch:=w.aZ++w.br
def gI (l:List Int) (n:Int):Bool:=decide (l.length≤30)&&l.all (fun x=>b1 x 0 (n - 1))&&decide l.Nodup
def kz (p:aB) (l:List ch):Bool:=decide (l.length≤30)&&l.all (fun x=>b1 x.bb 0 (p.bh.length - 1)&&b1 x.bx 1 2)&&decide (l.map (·.bb)).Nodup
def hd (p:aB) (w:Way):Bool:=
 decide (w.ai≠[])&&gI w.ai p.ai&&gI w.cw p.ai&&gI w.ct p.ai&&kz p w.aZ&&kz p w.br&&
 decide ((bq w).map (·.bb)).Nodup&&w.aZ.all (fun x=>w.ai.contains (nth p.bh x.bb))&& !meets w.ai w.cw
def ql (p:aB) (i k:Nat):Bool:=nth (nth p.bars i) k
def nI (p:aB) (i k:Nat):Bool:=(ql p i k !=ql p k i) || (decide (i≠k)&& !ql p i k&&meets (nth p.ways i).ai (nth p.ways k).ai)
def nq (p:aB):ij:=if p.bars.length=p.ways.length then
  match first p.bars (fun b=>decide (b.length≠p.ways.length)) with
  | some k=>⟨4,k⟩
  | none=>match first (List.range p.ways.length) (fun i=>(List.range p.ways.length).any fun k=>nI p i k) with
   | some k=>⟨5,k⟩
   | none=>⟨0,0⟩
 else⟨4,0⟩
def uD (p:aB):ij:=match first p.ways (fun w=> !hd p w) with
 | some k=>⟨3,k⟩
 | none=>nq p
def uC (p:aB):ij:=match first p.bh (fun s=> !b1 s 0 (p.ai - 1)) with
 | some k=>⟨2,k⟩
 | none=>uD p
def g5 (p:aB):ij:=if b1 p.ai 1 60&&b1 p.hold 1 300&&decide (p.bh.length≤40)&&decide (p.ways.length≤100) then uC p else⟨1,0⟩
def dv (p:aB):Bool:=decide (g5 p=⟨0,0⟩)
def eh (p:aB) (e:Event):Bool:=
 if e.op=1∨e.op=2 then b1 e.ag 0 (p.ways.length - 1)&&decide (e.bx=0)
 else if e.op=3∨e.op=4 then b1 e.ag 0 (p.ai - 1)&&decide (e.bx=0)
 else if e.op=5 then b1 e.ag 0 (p.bh.length - 1)&&b1 e.bx 0 2
 else if e.op=6 then b1 e.ag 0 (p.bh.length - 1)&&b1 e.bx 1 2
 else if e.op=7 then decide (e.ag=0)&&decide (e.bx=0)
 else false
def small {α:Type} (a:List α):Prop:=a.length≤1048576
def eqv {α:Type} [DecidableEq α] (a b:α):Bool:=decide (a=b)
def pk {α:Type} (a:α):Bool:=true
def wD (l:List Int) (n:Int):Prop:= -9223372036854775808<n∧n≤9223372036854775807
def D0 (p:aB) (w:Way):Prop:= -9223372036854775808<p.ai∧p.ai≤9223372036854775807
def Lo (p:aB) (e:Event):Prop:= -9223372036854775808<p.ai∧p.ai≤9223372036854775807
def uE (w:Way):Prop:=w.aZ.length≤1048576∧w.br.length≤1048576
end Go.Proofs.Ytglpfccgmfhkdaa.Fw
/- Loops over lists, told once: what their conditions owe. -/
set_option linter.unusedVariables false
namespace Go.Proofs.Ytglpfccgmfhkdaa.Fw
open Go
def cg (N:Int) (p:Int→Bool) (v:Int):Prop:=0≤v∧v≤N∧ ∀j:Int,0≤j→j<v→p j=false
def cn (N:Int) (v:Int):Nat:=(N - v).toNat
theorem cS {N:Int} {p:Int→Bool} (h:0≤N):cg N p 0:=⟨Int.le_refl _,h,fun j a0 h1=>by omega⟩
theorem ho {N v:Int} (aC:N≤4611686018427387904) (a0:0≤v) (hv:v<N):IntKind.i64.wrap (v+1)=v+1:=gb (by omega) (by omega)
theorem cq {N v:Int} {p:Int→Bool} (aC:N≤4611686018427387904) (h:cg N p v) (hv:decide (v<N)=true) (aF:p v=false):cg N p (IntKind.i64.wrap (v+1))∧cn N (IntKind.i64.wrap (v+1))<cn N v:=by
 obtain⟨a0,h1,h2⟩:=h
 have hv:v<N:=by simpa using hv
 rw[ho aC a0 hv]
 refine⟨⟨by omega,by omega,fun j cr eQ=> ?_⟩,by unfold cn;omega⟩
 rcases Int.lt_or_eq_of_le (show j≤v by omega) with aI | rfl
 ·exact h2 j cr aI
 ·exact aF
theorem ga {N v:Int} {p:Int→Bool} (h:cg N p v) (hv:decide (v<N)=false): ∀j:Int,0≤j→j<N→p j=false:=by
 obtain⟨a0,h1,h2⟩:=h
 have hv: ¬v<N:=by simpa using hv
 exact fun j cr eQ=>h2 j cr (by omega)
theorem b8 {α:Type} {xs:List α} {v:Int} {p:Int→Bool} (h:cg xs.length p v) (hv:decide (v<(xs.length:Int))=true):0≤v∧v.toNat<xs.length:=by
 have hv:v<(xs.length:Int):=by simpa using hv
 exact⟨h.1,by have:=h.1;omega⟩
theorem ci {α:Type} {xs:List α} (h:xs.length≤4611686018427387904):(xs.length:Int)≤4611686018427387904:=by omega
theorem de {α:Type} (xs:List α):0≤(xs.length:Int):=by omega
theorem lD {α:Type} [Inhabited α] {xs:List α} {q:α→Bool} (h: ∀j:Int,0≤j→j<xs.length→q (nth xs j)=false): ∀x∈xs,q x=false:=fun x hx=>by
 obtain⟨i,hi,rfl⟩:=List.mem_iff_getElem.1 hx
 have:=h i (by omega) (by omega)
 rwa [iu hi] at this
theorem pg {α:Type} [Inhabited α] {xs:List α} {q:α→Bool} {v:Int} (h:cg xs.length (fun j=>q (nth xs j)) v) (hv:decide (v<(xs.length:Int))=true) (aF:q (nth xs v)=true):first xs q=some v.toNat:=by
 have hi:=b8 h hv
 refine Qt (fun x hx=> ?_) hi.2 aF
 obtain⟨i,fz,rfl⟩:=List.mem_take_iff_getElem.1 hx
 have:q (nth xs (i:Int))=false:=h.2.2 i (by omega) (by omega)
 rwa [iu (by omega)] at this
theorem ph {α:Type} [Inhabited α] {xs:List α} {q:α→Bool} {v:Int} (h:cg xs.length (fun j=>q (nth xs j)) v) (hv:decide (v<(xs.length:Int))=false):first xs q=none:=
 Qs (lD (ga h hv))
theorem zL {α:Type} [Inhabited α] {xs:List α} {q:α→Bool} {v:Int} (h:cg xs.length (fun j=>q (nth xs j)) v) (hv:decide (v<(xs.length:Int))=true) (aF:q (nth xs v)=true):xs.any q=true:=by
 rw[List.any_eq_true];exact⟨_,dt (b8 h hv).2,aF⟩
theorem w7 {α:Type} [Inhabited α] {xs:List α} {q:α→Bool} {v:Int} (h:cg xs.length (fun j=>q (nth xs j)) v) (hv:decide (v<(xs.length:Int))=false):xs.any q=false:=by
 rw[List.any_eq_false]
 intro x hx
 rw[lD (ga h hv) x hx];simp
theorem not_eq {b:Bool} (h:(!b)=true):b=false:=by simpa using h
theorem uR {α:Type} [Inhabited α] {a b:List α} (aI:a.length=b.length) (h: ∀j:Int,0≤j→j<a.length→nth a j=nth b j):a=b:=by
 apply List.ext_getElem aI
 intro i h1 h2
 have:=h i (by omega) (by omega)
 rwa [iu h1,iu h2] at this
theorem Qb {α:Type} [Inhabited α] [DecidableEq α] {a b:List α} {ne:Int→Bool} (cO: ∀v,ne v=true↔nth a v≠nth b v):
  ((a.length≤4611686018427387904)∧(b.length≤4611686018427387904)→((a.length:Int) !=(b.length:Int))=true→false=eqv a b)∧((a.length≤4611686018427387904)∧(b.length≤4611686018427387904)∧((!((a.length:Int) !=(b.length:Int)))=true)→
   cg a.length ne 0∧ ∀(v:Int),cg a.length ne v→(((decide (v<(a.length:Int)))=false→true=eqv a b)∧((decide (v<(a.length:Int)))=true→(((0≤v∧v.toNat<a.length)∧(0≤v∧v.toNat<b.length))∧((ne v)=true→false=eqv a b))∧
    ((!(ne v))=true→cg a.length ne (IntKind.i64.wrap (v+1))∧cn a.length (IntKind.i64.wrap (v+1))<cn a.length v)))):=by
 refine⟨fun _ h=> ?_,fun⟨h1,h2,aS⟩=> ?_⟩
 ·have:a≠b:=fun e=>by subst e;simp at h
  simp[eqv,this]
 ·have aI:a.length=b.length:=by have:(a.length:Int)=b.length:=by simpa using aS
                                omega
  refine⟨cS (de a),fun v aM=>⟨fun hv=> ?_,fun hv=>⟨⟨⟨b8 aM hv,by rw[←aI];exact b8 aM hv⟩,fun aC=> ?_⟩,fun aC=>cq (ci h1) aM hv (not_eq aC)⟩⟩⟩
  ·have:a=b:=uR aI fun j cr eQ=>by
    have aj:=ga aM hv j cr eQ
    by_cases he:nth a j=nth b j
    ·exact he
    ·rw[(cO j).2 he] at aj;cases aj
   simp[eqv,this]
  ·have:a≠b:=fun e=>(cO v).1 aC (by rw[e])
   simp[eqv,this]
theorem rS {xs:List Int} {x:Int}:fb xs x=true↔x∈xs:=by unfold fb;simp
theorem RR {xs:List Int} {x k:Int} (hk:k.toNat<xs.length) (h:(x==nth xs k)=true):fb xs x=true:=by
 rw[rS,show x=nth xs k by simpa using h];exact dt hk
theorem RP {xs:List Int} {x:Int} (h: ∀j:Int,0≤j→j<xs.length→(x==nth xs j)=false):fb xs x=false:=by
 rw[←Bool.not_eq_true,rS]
 intro hm
 have:=lD (q:=fun y=>x==y) h x hm
 simp at this
theorem Tc (xs:List Int) (x:Int):(decide (mh xs x ≥ 0))=fb xs x:=by
 unfold mh
 cases h:first xs (fun y=>x==y) with
 | none=>
  unfold first at h
  rw[List.findIdx?_eq_none_iff] at h
  have:fb xs x=false:=by
   rw[←Bool.not_eq_true,rS]
   intro hm
   have:=h x hm
   simp at this
  rw[this];rfl
 | some i=>
  unfold first at h
  rw[List.findIdx?_eq_some_iff_getElem] at h
  obtain⟨hi,aF,_⟩:=h
  have:fb xs x=true:=by rw[rS,show x=xs[i] by simpa using aF];exact List.getElem_mem hi
  rw[this]
  show decide ((i:Int) ≥ 0)=true
  simp
theorem P0 {xs:List Int} {v:Int} (a0:0≤v) (hv:v.toNat<xs.length) (h:fb (xs.take v.toNat) (nth xs v)=true):dup xs=true:=by
 rw[rS] at h
 unfold dup
 simp only[Bool.not_eq_true',decide_eq_false_iff_not]
 intro aC
 obtain⟨i,hi,he⟩:=List.mem_take_iff_getElem.1 h
 rw[fv hv] at he
 exact(List.pairwise_iff_getElem.1 aC) i v.toNat (by omega) hv (by omega) he
theorem Hf {xs:List Int} (h: ∀j:Int,0≤j→j<xs.length→fb (xs.take j.toNat) (nth xs j)=false):dup xs=false:=by
 unfold dup
 simp only[Bool.not_eq_false',decide_eq_true_eq]
 unfold List.Nodup
 rw[List.pairwise_iff_getElem]
 intro i j hi aP bg he
 have:=h j (by omega) (by omega)
 rw[←Bool.not_eq_true,rS,iu aP] at this
 exact this (by rw[List.mem_take_iff_getElem];exact⟨i,by omega,he⟩)
end Go.Proofs.Ytglpfccgmfhkdaa.Fw
/- What a plan's checks come to. -/
set_option linter.unusedVariables false
namespace Go.Proofs.Ytglpfccgmfhkdaa.Fw
open Go
theorem Eg (x n:Int):(decide (x<0) || decide (x ≥ n))= !b1 x 0 (n - 1):=by
 rw[Bool.eq_iff_iff]
 simp[b1]
 omega
theorem KP {α:Type} {l:List α} (k:Nat):decide ((l.length:Int)≤(k:Int))=decide (l.length≤k):=decide_eq_decide.2 (by omega)
theorem VD {α:Type} [Inhabited α] {β:Type} [DecidableEq β] {l:List α} {f:α→β} (h: ∀i j:Int,0≤i→i<j→j<l.length→f (nth l i)≠f (nth l j)):(l.map f).Nodup:=by
 unfold List.Nodup
 rw[List.pairwise_iff_getElem]
 intro i j hi aP bg
 simp only[List.length_map] at hi aP
 rw[List.getElem_map,List.getElem_map]
 have:=h i j (by omega) (by omega) (by omega)
 rwa [iu hi,iu aP] at this
theorem KW {α:Type} [Inhabited α] {β:Type} [DecidableEq β] {l:List α} {f:α→β} {i j:Int} (a0:0≤i) (h1:i<j) (h2:j<l.length) (he:f (nth l i)=f (nth l j)): ¬(l.map f).Nodup:=by
 intro aC
 have:=(List.pairwise_iff_getElem.1 aC) i.toNat j.toNat (by simp;omega) (by simp;omega) (by omega)
 rw[List.getElem_map,List.getElem_map,←fv (by omega),←fv (by omega)] at this
 exact this he
theorem map_id' {α:Type} (l:List α):l.map (fun x=>x)=l:=by simp
theorem si {l:List Int} {n:Int}:gI l n=true↔l.length≤30∧(∀x∈l,b1 x 0 (n - 1)=true)∧l.Nodup:=by
 unfold gI;simp[and_assoc]
theorem Ve {l:List Int} {n:Int} (h: ∀j:Int,0≤j→j<l.length→(!b1 (nth l j) 0 (n - 1) || fb (l.take j.toNat) (nth l j))=false):gI l n=decide (l.length≤30):=by
 have h1: ∀x∈l,b1 x 0 (n - 1)=true:=fun x hx=>by
  have:=lD (q:=fun x=> !b1 x 0 (n - 1)) (fun j cr eQ=>(Bool.or_eq_false_iff.1 (h j cr eQ)).1) x hx
  simpa using this
 have h2:dup l=false:=Hf fun j cr eQ=>(Bool.or_eq_false_iff.1 (h j cr eQ)).2
 have h2:l.Nodup:=by unfold dup at h2;simpa using h2
 rw[Bool.eq_iff_iff,si]
 simp only[decide_eq_true_eq]
 exact⟨fun h=>h.1,fun h=>⟨h,h1,h2⟩⟩
theorem KA {l:List Int} {n:Int} {v:Int} (hv:v.toNat<l.length) (h:(!b1 (nth l v) 0 (n - 1))=true):gI l n=false:=by
 rw[←Bool.not_eq_true,si]
 intro bV
 have:=bV.2.1 _ (dt hv)
 simp[this] at h
theorem Vd {l:List Int} {n:Int} {i j:Int} (a0:0≤i) (h1:i<j) (h2:j<l.length) (he:(nth l i==nth l j)=true):gI l n=false:=by
 rw[←Bool.not_eq_true,si]
 intro bV
 have:=KW (f:=fun x=>x) a0 h1 h2 (by simpa using he)
 rw[map_id'] at this
 exact this bV.2.2
theorem RQ {l:List Int} {v:Int} (a0:0≤v) (hv:v<l.length) (h: ∀j:Int,0≤j→j<v→(nth l j==nth l v)=false):fb (l.take v.toNat) (nth l v)=false:=by
 rw[←Bool.not_eq_true,rS]
 intro hm
 obtain⟨i,hi,he⟩:=List.mem_take_iff_getElem.1 hm
 have:=h i (by omega) (by omega)
 rw[iu (by omega),he] at this
 simp at this
theorem ml {p:aB} {l:List ch}:kz p l=true↔l.length≤30∧(∀x∈l,(b1 x.bb 0 (p.bh.length - 1)&&b1 x.bx 1 2)=true)∧(l.map (·.bb)).Nodup:=by
 unfold kz;simp[and_assoc]
def nn (p:aB) (x:ch):Bool:=(!b1 x.bb 0 (p.bh.length - 1)) || (!b1 x.bx 1 2)
theorem wh (p:aB) (x:ch):nn p x= !(b1 x.bb 0 (p.bh.length - 1)&&b1 x.bx 1 2):=by unfold nn;rw[Bool.not_and]
def wi (l:List ch) (j:Int):Bool:=(l.take j.toNat).any fun y=>y.bb==(nth l j).bb
theorem Vb {p:aB} {l:List ch} (h: ∀j:Int,0≤j→j<l.length→(nn p (nth l j) || wi l j)=false):kz p l=decide (l.length≤30):=by
 have h1: ∀x∈l,(b1 x.bb 0 (p.bh.length - 1)&&b1 x.bx 1 2)=true:=fun x hx=>by
  have:=lD (q:=nn p) (fun j cr eQ=>(Bool.or_eq_false_iff.1 (h j cr eQ)).1) x hx
  rw[wh] at this
  simpa using this
 have h2:(l.map (·.bb)).Nodup   :=VD fun i j a0 h1 aP=>by
  have:=(Bool.or_eq_false_iff.1 (h j (by omega) aP)).2
  unfold wi at this
  rw[List.any_eq_false] at this
  have:=this (nth l i) (by rw[fv (by omega)];exact List.mem_take_iff_getElem.2 ⟨i.toNat,by omega,rfl⟩)
  simpa using this
 rw[Bool.eq_iff_iff,ml]
 simp only[decide_eq_true_eq]
 exact⟨fun h=>h.1,fun h=>⟨h,h1,h2⟩⟩
theorem Vc {p:aB} {l:List ch} {v:Int} (hv:v.toNat<l.length) (h:nn p (nth l v)=true):kz p l=false:=by
 rw[←Bool.not_eq_true,ml]
 intro bV
 rw[wh,bV.2.1 _ (dt hv)] at h
 cases h
theorem Va {p:aB} {l:List ch} {i j:Int} (a0:0≤i) (h1:i<j) (h2:j<l.length) (he:((nth l i).bb==(nth l j).bb)=true):kz p l=false:=by
 rw[←Bool.not_eq_true,ml]
 exact fun bV=>KW (f:=fun x:ch=>x.bb) a0 h1 h2 (by simpa using he) bV.2.2
theorem U9 {l:List ch} {v:Int} (a0:0≤v) (hv:v<l.length) (h: ∀j:Int,0≤j→j<v→((nth l j).bb==(nth l v).bb)=false):wi l v=false:=by
 unfold wi
 rw[List.any_eq_false]
 intro y bA
 obtain⟨i,hi,rfl⟩:=List.mem_take_iff_getElem.1 bA
 have:=h i (by omega) (by omega)
 rw[iu (by omega)] at this
 rw[this];simp
theorem Vu (a b:List Int):meets a b=meets b a:=by
 unfold meets
 rw[Bool.eq_iff_iff]
 simp only[List.any_eq_true,List.contains_iff_mem]
 exact⟨fun⟨x,h1,h2⟩=>⟨x,h2,h1⟩,fun⟨x,h1,h2⟩=>⟨x,h2,h1⟩⟩
theorem yU (x:Int) (b:List Int):meets [x] b=b.contains x:=by unfold meets;simp
theorem nD {p:aB} {w:Way}:hd p w=true↔w.ai≠[]∧gI w.ai p.ai=true∧gI w.cw p.ai=true∧gI w.ct p.ai=true∧kz p w.aZ=true∧kz p w.br=true∧
  ((bq w).map (·.bb)).Nodup∧(∀x∈w.aZ,w.ai.contains (nth p.bh x.bb)=true)∧meets w.ai w.cw=false:=by
 unfold hd;simp[and_assoc]
theorem DJ {w:Way}:((bq w).map (·.bb)).Nodup↔(w.aZ.map (·.bb)).Nodup∧(w.br.map (·.bb)).Nodup∧ ∀x∈w.aZ,∀y∈w.br,x.bb≠y.bb:=by
 unfold bq
 rw[List.map_append,List.nodup_append]
 simp only[List.mem_map]
 constructor
 ·rintro⟨h1,h2,aS⟩;exact⟨h1,h2,fun x hx y bA=>aS _ ⟨x,hx,rfl⟩ _ ⟨y,bA,rfl⟩⟩
 ·rintro⟨h1,h2,aS⟩
  refine⟨h1,h2,?_⟩
  rintro a ⟨x,hx,rfl⟩ b ⟨y,bA,rfl⟩
  exact aS x hx y bA
def kc (p:aB):Bool:=b1 p.ai 1 60&&b1 p.hold 1 300&&decide (p.bh.length≤40)&&decide (p.ways.length≤100)
theorem DW {p:aB} (h:kc p=false):g5 p=⟨1,0⟩:=by
 unfold g5;unfold kc at h;rw[if_neg (by rw[h];simp)]
theorem DX {p:aB} (h:kc p=true):g5 p=uC p:=by
 unfold g5;unfold kc at h;rw[if_pos h]
theorem Lk {p:aB} {k:Nat} (hb:kc p=true) (h:first p.bh (fun s=> !b1 s 0 (p.ai - 1))=some k):g5 p=⟨2,k⟩:=by rw[DX hb];unfold uC;rw[h]
theorem Ln {p:aB} (hb:kc p=true) (h:first p.bh (fun s=> !b1 s 0 (p.ai - 1))=none):g5 p=uD p:=by rw[DX hb];unfold uC;rw[h]
theorem Ll {p:aB} {k:Nat} (hb:kc p=true) (h:first p.bh (fun s=> !b1 s 0 (p.ai - 1))=none) (hw:first p.ways (fun w=> !hd p w)=some k):g5 p=⟨3,k⟩:=by rw[Ln hb h];unfold uD;rw[hw]
theorem Lm {p:aB} (hb:kc p=true) (h:first p.bh (fun s=> !b1 s 0 (p.ai - 1))=none) (hw:first p.ways (fun w=> !hd p w)=none):g5 p=nq p:=by rw[Ln hb h];unfold uD;rw[hw]
theorem Lj {p:aB} (h:p.bars.length≠p.ways.length):nq p=⟨4,0⟩:=by unfold nq;rw[if_neg h]
theorem Lh {p:aB} {k:Nat} (h:p.bars.length=p.ways.length) (hb:first p.bars (fun b=>decide (b.length≠p.ways.length))=some k):nq p=⟨4,k⟩:=by unfold nq;rw[if_pos h,hb]
theorem Li {p:aB} {k:Nat} (h:p.bars.length=p.ways.length) (hb:first p.bars (fun b=>decide (b.length≠p.ways.length))=none) (aj:first (List.range p.ways.length) (fun i=>(List.range p.ways.length).any fun k=>nI p i k)=some k):nq p=⟨5,k⟩:=by
 unfold nq;rw[if_pos h,hb];simp only;rw[aj]
theorem Lg {p:aB} (h:p.bars.length=p.ways.length) (hb:first p.bars (fun b=>decide (b.length≠p.ways.length))=none) (aj:first (List.range p.ways.length) (fun i=>(List.range p.ways.length).any fun k=>nI p i k)=none):nq p=⟨0,0⟩:=by
 unfold nq;rw[if_pos h,hb];simp only;rw[aj]
theorem qZ {p:aB}:kc p=true↔(1≤p.ai∧p.ai≤60)∧(1≤p.hold∧p.hold≤300)∧p.bh.length≤40∧p.ways.length≤100:=by
 unfold kc b1;simp[and_assoc]
theorem HM {n:Nat} {q:Nat→Bool} {v:Int} (a0:0≤v) (hv:v<n) (h: ∀j:Int,0≤j→j<v→q j.toNat=false) (aj:q v.toNat=true):first (List.range n) q=some v.toNat:=by
 unfold first
 rw[List.findIdx?_eq_some_iff_getElem]
 refine⟨by simp;omega,by simpa using aj,fun j aP=> ?_⟩
 have:=h j (by omega) (by omega)
 simpa using this
theorem HL {n:Nat} {q:Nat→Bool} (h: ∀j:Int,0≤j→j<n→q j.toNat=false):first (List.range n) q=none:=by
 unfold first
 rw[List.findIdx?_eq_none_iff]
 intro x hx
 have:=h x (by omega) (by have:=List.mem_range.1 hx;omega)
 simpa using this
theorem GB {n:Nat} {q:Nat→Bool} {v:Int} (a0:0≤v) (hv:v<n) (h:q v.toNat=true):(List.range n).any q=true:=by
 rw[List.any_eq_true];exact⟨v.toNat,List.mem_range.2 (by omega),h⟩
theorem KO {n:Nat} {q:Nat→Bool} (h: ∀j:Int,0≤j→j<n→q j.toNat=false):(List.range n).any q=false:=by
 rw[List.any_eq_false]
 intro x hx
 have:=h x (by omega) (by have:=List.mem_range.1 hx;omega)
 simp only[Int.toNat_natCast] at this
 rw[this];simp
theorem jr {α:Type} [Inhabited α] {xs:List α} {i:Int} (h:0≤i):nth xs (i.toNat:Int)=nth xs i:=by rw[Int.toNat_of_nonneg h]
theorem U8 (p:aB) (x:ch):((decide (x.bb<0)) || ((decide (x.bb ≥ (p.bh.length:Int))) || ((x.bx !=1)&&(x.bx !=2))))=nn p x:=by
 unfold nn
 rw[←Eg,Bool.or_assoc]
 congr 2
 rw[Bool.eq_iff_iff]
 simp[b1]
 omega
def n_ (p:aB) (w:Way) (j:Int):Bool:=nn p (nth (bq w) j) || (decide (j<(w.aZ.length:Int))&& !(fb w.ai (nth p.bh (nth (bq w) j).bb)))
theorem KT {w:Way} {j:Int} (a0:0≤j) (h:j<w.aZ.length):nth (bq w) j=nth w.aZ j:=by
 rw[fv (xs:=w.aZ) (by omega),fv (by unfold bq;rw[List.length_append];omega)]
 unfold bq
 rw[List.getElem_append_left]
theorem Re {p:aB} {w:Way} (h:hd p w=true): ∀l∈[w.ai,w.cw,w.ct],gI l p.ai=true:=by
 obtain⟨-,h1,h2,aS,-⟩:=nD.1 h
 intro l aI
 simp only[List.mem_cons,List.not_mem_nil,or_false] at aI
 rcases aI with rfl | rfl | rfl
 ·exact h1
 ·exact h2
 ·exact aS
theorem Rf {p:aB} {w:Way} (h:hd p w=true) {j:Int} (a0:0≤j) (aP:j.toNat<(bq w).length):n_ p w j=false:=by
 obtain⟨-,-,-,-,bt,cb,-,cE,-⟩:=nD.1 h
 have hm:=dt aP
 have hb:nn p (nth (bq w) j)=false:=by
  rw[wh]
  unfold bq at hm ⊢
  rcases List.mem_append.1 hm with hm | hm
  ·rw[(ml.1 bt).2.1 _ hm];rfl
  ·rw[(ml.1 cb).2.1 _ hm];rfl
 unfold n_
 rw[hb,Bool.false_or]
 by_cases aI:j<(w.aZ.length:Int)
 ·rw[KT a0 aI]
  have:fb w.ai (nth p.bh (nth w.aZ j).bb)=true:=cE _ (dt (by omega))
  rw[this];simp
 ·simp[aI]
theorem Rd {p:aB} {w:Way} (h1:w.ai≠[]) (aI: ∀l∈[w.ai,w.cw,w.ct],gI l p.ai=true) (aS:w.aZ.length≤30) (bt:w.br.length≤30)
  (aC: ∀j:Int,0≤j→j<(bq w).length→n_ p w j=false):((!(dup ((bq w).map (·.bb))))&&(!(meets w.ai w.cw)))=hd p w:=by
 have hb: ∀x∈bq w,(b1 x.bb 0 (p.bh.length - 1)&&b1 x.bx 1 2)=true:=fun x hx=>by
  have:=lD (q:=nn p) (fun j cr eQ=>by have:=aC j cr eQ;unfold n_ at this;exact(Bool.or_eq_false_iff.1 this).1) x hx
  rw[wh] at this
  simpa using this
 have hc: ∀x∈w.aZ,w.ai.contains (nth p.bh x.bb)=true:=fun x hx=>by
  have:=lD (q:=fun x=> !(fb w.ai (nth p.bh x.bb))) (fun j cr eQ=>by
   have:=aC j cr (by unfold bq;rw[List.length_append];omega)
   unfold n_ at this
   have:=(Bool.or_eq_false_iff.1 this).2
   rw[KT cr eQ] at this
   simpa[eQ] using this) x hx
  simp only[Bool.not_eq_false'] at this
  exact this
 rw[Bool.eq_iff_iff,nD]
 simp only[Bool.and_eq_true,Bool.not_eq_true',dup,Bool.not_eq_false',decide_eq_true_eq]
 constructor
 ·rintro⟨bp,hm⟩
  have nW:=DJ.1 bp
  exact⟨h1,aI _ (by simp),aI _ (by simp),aI _ (by simp),ml.2 ⟨aS,fun x hx=>hb x (by unfold bq;exact List.mem_append_left _ hx),nW.1⟩,ml.2 ⟨bt,fun x hx=>hb x (by unfold bq;exact List.mem_append_right _ hx),nW.2.1⟩,bp,hc,hm⟩
 ·rintro⟨-,-,-,-,-,-,bp,-,hm⟩
  exact⟨bp,hm⟩
theorem GJ {p:aB} {i k:Int} (a0:0≤i) (h1:0≤k):(((nth (nth p.bars i) k) !=(nth (nth p.bars k) i)) || ((i !=k)&&((!(nth (nth p.bars i) k))&&(meets ((nth p.ways i).ai) ((nth p.ways k).ai)))))=nI p i.toNat k.toNat:=by
 unfold nI ql
 rw[Int.toNat_of_nonneg a0,Int.toNat_of_nonneg h1]
 have:(i !=k)=decide (i.toNat≠k.toNat):=by
  rw[Bool.eq_iff_iff];simp;omega
 rw[this,Bool.and_assoc]
def oT (n:Int) (e:Event):Bool:=decide (e.ag ≥ 0)&&decide (e.ag<n)
end Go.Proofs.Ytglpfccgmfhkdaa.Fw
/- What an event's check comes to; what a plan's check says of its numbers. -/
set_option linter.unusedVariables false
namespace Go.Proofs.Ytglpfccgmfhkdaa.Fw
open Go
theorem wy (x a b:Int):(bif (x==a) then(x==a) else(x==b))=decide (x=a∨x=b):=by
 by_cases h:x=a
 ·simp[h]
 ·have h1:(x==a)=false:=by simp[h]
  rw[h1,Bool.eq_iff_iff]
  simp[h]
theorem AX {p:aB} {e:Event} (h:e.op=1∨e.op=2):eh p e=(b1 e.ag 0 (p.ways.length - 1)&&decide (e.bx=0)):=by unfold eh;rw[if_pos h]
theorem AY {p:aB} {e:Event} (h1: ¬(e.op=1∨e.op=2)) (h:e.op=3∨e.op=4):eh p e=(b1 e.ag 0 (p.ai - 1)&&decide (e.bx=0)):=by unfold eh;rw[if_neg h1,if_pos h]
theorem xX {p:aB} {e:Event} (h:e.op=5):eh p e=(b1 e.ag 0 (p.bh.length - 1)&&b1 e.bx 0 2):=by unfold eh;simp[h]
theorem xY {p:aB} {e:Event} (h:e.op=6):eh p e=(b1 e.ag 0 (p.bh.length - 1)&&b1 e.bx 1 2):=by unfold eh;simp[h]
theorem Hq {p:aB} {e:Event} (h:e.op=7):eh p e=(decide (e.ag=0)&&decide (e.bx=0)):=by unfold eh;simp[h]
theorem Hs {p:aB} {e:Event} (h1: ¬(e.op=1∨e.op=2)) (aS: ¬(e.op=3∨e.op=4)) (cb:e.op≠5) (cE:e.op≠6) (gp:e.op≠7):eh p e=false:=by unfold eh;rw[if_neg h1,if_neg aS,if_neg cb,if_neg cE,if_neg gp]
theorem ou (x y:Int):(x==y)=decide (x=y):=by rw[Bool.eq_iff_iff];simp
theorem F3 (n:Int) (e:Event):oT n e=b1 e.ag 0 (n - 1):=by
 unfold oT b1
 rw[Bool.eq_iff_iff];simp;omega
theorem V7 (p:aB):((g5 p).code==0)=dv p:=by
 have key:(g5 p).code=0→(g5 p).pos=0:=by
  unfold g5 uC uD nq
  split
  ·split
   ·intro h;cases h
   ·split
    ·intro h;cases h
    ·split
     ·split
      ·intro h;cases h
      ·split
       ·intro h;cases h
       ·intro _;rfl
     ·intro h;cases h
  ·intro h;cases h
 unfold dv
 rw[Bool.eq_iff_iff]
 simp only[beq_iff_eq,decide_eq_true_eq]
 constructor
 ·intro h
  have:=key h
  cases aj:g5 p with
  | mk c q=>rw[aj] at h this;simp at h this;rw[h,this]
 ·intro h;rw[h]
theorem V6 (p:aB):((g5 p).code==0&&(g5 p).pos==0)=dv p:=by
 unfold dv
 rw[Bool.eq_iff_iff]
 simp only[Bool.and_eq_true,beq_iff_eq,decide_eq_true_eq]
 constructor
 ·rintro⟨h1,h2⟩
  cases aj:g5 p with
  | mk c q=>rw[aj] at h1 h2;simp at h1 h2;rw[h1,h2]
 ·intro h;rw[h];exact⟨rfl,rfl⟩
theorem V5 {p:aB} (h:dv p=true):kc p=true:=by
 cases hb:kc p with
 | true=>rfl
 | false=>unfold dv at h;rw[DW hb] at h;simp at h
end Go.Proofs.Ytglpfccgmfhkdaa.Fw
/- Frames: what is read of them; what becomes of them. -/
set_option linter.unusedVariables false
namespace Go.Proofs.Ytglpfccgmfhkdaa.Fw
open Go
def gK (f:Frame):Prop:=f.al.length≤1048576∧f.ak.length≤1048576∧f.ways.length≤1048576∧ ∀h∈f.ways,h.been.length≤1048576
structure qf (p:aB):Prop where
 cK:0≤p.ai∧p.ai≤60
 ways:p.ways.length≤100
 bb:p.bh.length≤40
 ai: ∀w∈p.ways,w.ai≠[]∧w.ai.length≤30∧ ∀x∈w.ai,0≤x∧x<p.ai
 cw: ∀w∈p.ways,w.cw.length≤30∧ ∀x∈w.cw,0≤x∧x<p.ai
 ct: ∀w∈p.ways,w.ct.length≤30∧ ∀x∈w.ct,0≤x∧x<p.ai
 aZ: ∀w∈p.ways,w.aZ.length≤30∧w.br.length≤30∧ ∀x∈bq w,0≤x.bb∧x.bb<p.bh.length
 bh: ∀x∈p.bh,0≤x∧x<p.ai
structure hJ (p:aB) (f:Frame):Prop where
 al:(f.al.length:Int)=p.ai
 ak:f.ak.length=p.bh.length
 ways:f.ways.length=p.ways.length
 been: ∀(i:Nat) (h:aa) (w:Way),f.ways[i]?=some h→p.ways[i]?=some w→h.been.length=w.ai.length
 gone: ∀h∈f.ways,0≤h.gone∧h.gone≤h.been.length
def dF (f:Frame) (x:Int):Bool:=nth f.al x
def fZ (f:Frame) (l:List Int):Bool:=l.any (dF f)
def sO (f:Frame) (l:List Int):Prop:= ∀x∈l,0≤x∧x<f.al.length
def fG (p:aB) (f:Frame) (i:Int):Bool:=
 (bq (nth p.ways i)).all (fun l=>decide (nth f.ak l.bb=⟨l.bx,l.bx⟩))&& !fZ f (nth p.ways i).ai&& !fZ f (nth p.ways i).cw
def uF (p:aB) (f:Frame) (i:Int):Prop:=qf p∧hJ p f∧0≤i∧i<p.ways.length
def gE (n:Nat):aa:=⟨0,0,List.replicate n false,false,0⟩
def a2 (p:aB) (i:Int):aa:=gE (nth p.ways i).ai.length
def uc (p:aB) (i:Int):Prop:=qf p∧0≤i∧i<p.ways.length
def fU (s:List Int) (f:Frame) (been:List Bool):Nat→Nat→Nat
 | 0,g=>g
 | n+1,g=>if g<s.length∧been.getD g false=true∧dF f (s.getD g 0)=false∧(g+1=s.length∨been.getD (g+1) false=true) then fU s f been n (g+1) else g
def g4 (s:List Int) (f:Frame) (h:aa):aa:=
 let been:=List.zipWith (fun b x=>b || dF f x) h.been s
 let g:=fU s f been s.length h.gone.toNat
 if g=s.length then gE s.length else{h with been:=been,gone:=g}
def lg (p:aB) (f:Frame) (i:Nat):aa:=
 let h:=nth f.ways i
 let s:=(nth p.ways i).ai
 if h.state=0 then h else
 let h:=if h.state≠4∧dF f (nth s 0)=true then{h with state:=4,timer:=0} else h
 let h:=if h.state=1∨h.state=2 then(if fG p f i=true then{h with state:=2,shown:=true} else{h with state:=1}) else h
 if h.state=4 then g4 s f h else h
def hF (p:aB):Nat→Frame→Frame
 | 0,f=>f
 | n+1,f=>let g:=hF p n f;{g with ways:=g.ways.set n (lg p g n)}
def dQ (p:aB) (f:Frame):Frame:=hF p f.ways.length f
def zw (p:aB) (f:Frame):Prop:=qf p∧hJ p f
end Go.Proofs.Ytglpfccgmfhkdaa.Fw
/- How ways are settled, one after the other: the ways lie in one block, in which of their sections a train has been in blocks of their own. -/
set_option linter.unusedVariables false
namespace Go.Proofs.Ytglpfccgmfhkdaa.Fw
open Go
structure c7 (V:List aa) (ids:List Nat) (v:Int) (h:aa) (ws:List aa) (bs:List (List Bool)):Prop where
 ok:iQ ws ids bs
 jR: ∀i j k:Nat,ids[i]?=some k→ids[j]?=some k→i=j
 lt:v.toNat<ws.length
 gN:view ws ids bs=V.set v.toNat h
 len: ∀b∈bs,b.length≤1048576
section
variable {V:List aa} {ids:List Nat} {v:Int} {h:aa} {ws:List aa} {bs:List (List Bool)}
theorem c7.e0 (F:c7 V ids v h ws bs):ws.length=ids.length∧v.toNat<ws.length:=⟨F.ok.len,F.lt⟩
theorem c7.rk (F:c7 V ids v h ws bs):V.length=ws.length:=by
 have:=congrArg List.length F.gN
 rw[ii F.ok,List.length_set] at this;exact this.symm
theorem c7.id (F:c7 V ids v h ws bs):ids[v.toNat]?=some (nth ids v):=gv (by rw[←F.ok.len];exact F.lt)
theorem c7.oS (F:c7 V ids v h ws bs):nth ids v<bs.length:=F.ok.lt _ _ F.id
theorem c7.row (F:c7 V ids v h ws bs):h={nth ws v with been:=bs.getD (nth ids v) []}:=by
 have h1:=u7 (bs:=bs) (gv F.lt) F.id
 rw[F.gN,List.getElem?_set_self (by rw[F.rk];exact F.lt)] at h1
 exact Option.some.inj h1
theorem c7.state (F:c7 V ids v h ws bs):(nth ws v).state=h.state:=by rw[F.row]
theorem c7.gone (F:c7 V ids v h ws bs):(nth ws v).gone=h.gone:=by rw[F.row]
theorem c7.shown (F:c7 V ids v h ws bs):(nth ws v).shown=h.shown:=by rw[F.row]
theorem c7.timer (F:c7 V ids v h ws bs):(nth ws v).timer=h.timer:=by rw[F.row]
theorem c7.been (F:c7 V ids v h ws bs):bs.getD (nth ids v) []=h.been:=by rw[F.row]
theorem c7.ow (F:c7 V ids v h ws bs):(nth ws v).been.length=h.been.length:=by
 rw[←F.been];exact F.ok.been _ _ _ (gv F.lt) F.id
theorem c7.start (ok:iQ ws ids bs) (jR: ∀i j k:Nat,ids[i]?=some k→ids[j]?=some k→i=j) (lt:v.toNat<ws.length) (gN:view ws ids bs=V) (len: ∀b∈bs,b.length≤1048576):c7 V ids v (nth V v) ws bs:=by
 have aI:v.toNat<V.length:=by rw[←gN,ii ok];exact lt
 exact⟨ok,jR,lt,by rw[gN,fv aI];exact(List.set_getElem_self _).symm,len⟩
theorem c7.pd (F:c7 V ids v h ws bs) (x:aa) (hx:x.been.length=h.been.length):c7 V ids v {x with been:=h.been} (ws.set v.toNat x) bs where
 ok:=⟨by rw[List.length_set];exact F.ok.len,F.ok.lt,fun i id y h1 h2=>by
  rw[List.getElem?_set] at h1
  split at h1
  ·rename_i e;subst e
   rw[if_pos F.lt] at h1;cases h1
   rw[F.id] at h2;cases h2
   rw[hx,F.been]
  ·exact F.ok.been i id y h1 h2⟩
 jR:=F.jR
 lt:=by rw[List.length_set];exact F.lt
 gN:=by
  apply List.ext_getElem?
  intro j
  have aP:=congrArg (·[j]?) F.gN
  simp only[view,List.getElem?_zipWith,List.getElem?_set] at aP ⊢
  by_cases e:v.toNat=j
  ·subst e
   have hv:=F.rk
   have:=F.lt
   rw[if_pos rfl,if_pos rfl,if_pos this,if_pos (by omega),F.id]
   show some _=some _
   rw[F.been]
  ·rw[if_neg e] at aP ⊢
   rw[if_neg e];exact aP
 len:=F.len
theorem c7.setState (F:c7 V ids v h ws bs) (x:Int):c7 V ids v {h with state:=x} (ws.set v.toNat ({state:=x,gone:=(nth ws v).gone,been:=(nth ws v).been,shown:=(nth ws v).shown,timer:=(nth ws v).timer}:aa)) bs:=by
 have:=F.pd ({state:=x,gone:=(nth ws v).gone,been:=(nth ws v).been,shown:=(nth ws v).shown,timer:=(nth ws v).timer}:aa) F.ow
 simpa only[F.gone,F.shown,F.timer] using this
theorem c7.L9 (F:c7 V ids v h ws bs) (x:Int):c7 V ids v {h with gone:=x} (ws.set v.toNat ({state:=(nth ws v).state,gone:=x,been:=(nth ws v).been,shown:=(nth ws v).shown,timer:=(nth ws v).timer}:aa)) bs:=by
 have:=F.pd ({state:=(nth ws v).state,gone:=x,been:=(nth ws v).been,shown:=(nth ws v).shown,timer:=(nth ws v).timer}:aa) F.ow
 simpa only[F.state,F.shown,F.timer] using this
theorem c7.Mc (F:c7 V ids v h ws bs) (x:Bool):c7 V ids v {h with shown:=x} (ws.set v.toNat ({state:=(nth ws v).state,gone:=(nth ws v).gone,been:=(nth ws v).been,shown:=x,timer:=(nth ws v).timer}:aa)) bs:=by
 have:=F.pd ({state:=(nth ws v).state,gone:=(nth ws v).gone,been:=(nth ws v).been,shown:=x,timer:=(nth ws v).timer}:aa) F.ow
 simpa only[F.state,F.gone,F.timer] using this
theorem c7.uX (F:c7 V ids v h ws bs) (x:Int):c7 V ids v {h with timer:=x} (ws.set v.toNat ({state:=(nth ws v).state,gone:=(nth ws v).gone,been:=(nth ws v).been,shown:=(nth ws v).shown,timer:=x}:aa)) bs:=by
 have:=F.pd ({state:=(nth ws v).state,gone:=(nth ws v).gone,been:=(nth ws v).been,shown:=(nth ws v).shown,timer:=x}:aa) F.ow
 simpa only[F.state,F.gone,F.shown] using this
theorem c7.Et (F:c7 V ids v h ws bs) (b:List Bool) (hb:b.length=h.been.length):c7 V ids v {h with been:=b} ws (bs.set (nth ids v) b) where
 ok:=⟨F.ok.len,fun i id hi=>by rw[List.length_set];exact F.ok.lt i id hi,fun i id y h1 h2=>by
  rw[F.ok.been i id y h1 h2,List.getD_eq_getElem?_getD,List.getD_eq_getElem?_getD,List.getElem?_set]
  split
  ·rename_i e;subst e
   rw[if_pos F.oS,←List.getD_eq_getElem?_getD,F.been];exact hb.symm
  ·rfl⟩
 jR:=F.jR
 lt:=F.lt
 gN:=by
  apply List.ext_getElem?
  intro j
  have aP:=congrArg (·[j]?) F.gN
  simp only[view,List.getElem?_zipWith,List.getElem?_set] at aP ⊢
  by_cases e:v.toNat=j
  ·subst e
   have hv:=F.rk
   have:=F.lt
   rw[if_pos rfl,if_pos (by omega),F.id,gv F.lt]
   simp only[List.getD_eq_getElem?_getD,List.getElem?_set,if_pos F.oS]
   rw[F.row];simp
  ·rw[if_neg e] at aP ⊢
   rw[←aP]
   cases h1:ws[j]? with
   | none=>rfl
   | some y=>
    cases h2:ids[j]? with
    | none=>rfl
    | some id=>
     have cO:nth ids v≠id:=fun gf=>by
      have aS:=F.id
      rw[gf] at aS
      exact e (F.jR _ _ _ aS h2)
     simp only[List.getD_eq_getElem?_getD,List.getElem?_set,if_neg cO]
 len:=fun x hx=>by
  rcases List.mem_or_eq_of_mem_set hx with hx | rfl
  ·exact F.len x hx
  ·rw[hb,←F.been,List.getD_eq_getElem?_getD,List.getElem?_eq_getElem F.oS];exact F.len _ (List.getElem_mem F.oS)
theorem c7.new (F:c7 V ids v h ws bs) (x:aa) (hx:x.been.length≤1048576):c7 V (ids.set v.toNat bs.length) v x (ws.set v.toNat x) (bs++[x.been]) where
 ok:=⟨by rw[List.length_set,List.length_set];exact F.ok.len,fun i id hi=>by
   rw[List.getElem?_set] at hi
   rw[List.length_append,List.length_singleton]
   split at hi
   ·split at hi
    ·cases hi;omega
    ·cases hi
   ·have:=F.ok.lt i id hi;omega,fun i id y h1 h2=>by
   rw[List.getElem?_set] at h1 h2
   split at h1
   ·rename_i e;subst e
    have:=F.ok.len
    have:=F.lt
    rw[if_pos F.lt] at h1;rw[if_pos rfl,if_pos (by omega)] at h2
    cases h1;cases h2;simp
   ·rename_i e
    rw[if_neg e] at h2
    rw[F.ok.been i id y h1 h2,List.getD_eq_getElem?_getD,List.getD_eq_getElem?_getD,List.getElem?_append_left (F.ok.lt i id h2)]⟩
 jR:=fun i j k hi aP=>by
  rw[List.getElem?_set] at hi aP
  have bg: ∀q,ids[q]?≠some bs.length:=fun q aj=>by have:=F.ok.lt q _ aj;omega
  split at hi
  ·rename_i e;subst e
   split at hi
   ·cases hi
    split at aP
    ·rename_i e;exact e
    ·exact absurd aP (bg j)
   ·cases hi
  ·split at aP
   ·rename_i e;subst e
    split at aP
    ·cases aP;exact absurd hi (bg i)
    ·cases aP
   ·exact F.jR i j k hi aP
 lt:=by rw[List.length_set];exact F.lt
 gN:=by
  apply List.ext_getElem?
  intro j
  have aP:=congrArg (·[j]?) F.gN
  simp only[view,List.getElem?_zipWith,List.getElem?_set] at aP ⊢
  by_cases e:v.toNat=j
  ·subst e
   have hv:=F.rk
   have:=F.lt
   have:=F.ok.len
   rw[if_pos rfl,if_pos rfl,if_pos rfl,if_pos F.lt,if_pos (by omega),if_pos (by omega)]
   simp
  ·rw[if_neg e] at aP ⊢
   rw[if_neg e,if_neg e,←aP]
   cases h1:ws[j]? with
   | none=>rfl
   | some y=>
    cases h2:ids[j]? with
    | none=>rfl
    | some id=>
     simp only
     rw[List.getD_eq_getElem?_getD,List.getD_eq_getElem?_getD,List.getElem?_append_left (F.ok.lt j id h2)]
 len:=fun b hb=>by
  rcases List.mem_append.1 hb with hb | hb
  ·exact F.len b hb
  ·rw[List.mem_singleton.1 hb];exact hx
end
theorem rK (ws:List aa):iQ ws (List.range ws.length) (ws.map aa.been)∧(∀i j k:Nat,(List.range ws.length)[i]?=some k→(List.range ws.length)[j]?=some k→i=j)∧view ws (List.range ws.length) (ws.map aa.been)=ws:=by
 refine⟨⟨by simp,fun i id h=> ?_,fun i id h h1 h2=> ?_⟩,fun i j k h1 h2=> ?_,?_⟩
 ·obtain⟨hi,rfl⟩:=List.getElem?_eq_some_iff.1 h
  simpa using hi
 ·obtain⟨hi,rfl⟩:=List.getElem?_eq_some_iff.1 h2
  simp[h1]
 ·obtain⟨hi,rfl⟩:=List.getElem?_eq_some_iff.1 h1
  obtain⟨aP,e⟩:=List.getElem?_eq_some_iff.1 h2
  simpa using e.symm
 ·apply List.ext_getElem?
  intro j
  unfold view
  rw[List.getElem?_zipWith]
  rcases Nat.lt_or_ge j ws.length with aP | aP
  ·rw[List.getElem?_range aP,List.getElem?_eq_getElem aP]
   simp[aP]
  ·rw[List.getElem?_eq_none aP]
theorem p7 (p:aB) (f:Frame): ∀n,(hF p n f).ok=f.ok∧(hF p n f).al=f.al∧(hF p n f).ak=f.ak
 | 0=>⟨rfl,rfl,rfl⟩
 | n+1=>p7 p f n
theorem Bk {s:List Int} {f:Frame} {been:List Bool}: ∀(n g:Nat),g≤s.length→g≤fU s f been n g∧fU s f been n g≤s.length
 | 0,g,h=>⟨Nat.le_refl _,h⟩
 | n+1,g,h=>by
  unfold fU
  split
  ·rename_i hc
   have:=Bk (f:=f) (been:=been) n (g+1) hc.1
   exact⟨by omega,this.2⟩
  ·exact⟨Nat.le_refl _,h⟩
theorem VS {s:List Int} {f:Frame} {h:aa} (hb:h.been.length=s.length) (aO:0≤h.gone∧h.gone≤h.been.length):(g4 s f h).been.length=s.length∧0≤(g4 s f h).gone∧(g4 s f h).gone≤(g4 s f h).been.length:=by
 unfold g4
 simp only
 have aI:(List.zipWith (fun b x=>b || dF f x) h.been s).length=s.length:=by rw[List.length_zipWith];omega
 have bV:=(Bk (s:=s) (f:=f) (been:=List.zipWith (fun b x=>b || dF f x) h.been s) s.length h.gone.toNat (by omega)).2
 split
 ·simp[gE]
 ·exact⟨aI,Int.natCast_nonneg _,by simp only;rw[aI];omega⟩
theorem YS {p:aB} {f:Frame} {i:Nat} (hb:(nth f.ways i).been.length=(nth p.ways i).ai.length) (aO:0≤(nth f.ways i).gone∧(nth f.ways i).gone≤(nth f.ways i).been.length):
  (lg p f i).been.length=(nth p.ways i).ai.length∧0≤(lg p f i).gone∧(lg p f i).gone≤(lg p f i).been.length:=by
 unfold lg
 simp only
 split
 ·exact⟨hb,aO⟩
 ·have h1: ∀(c:Prop) [Decidable c] (x y:aa),x.been=y.been→x.gone=y.gone→(if c then x else y).been=y.been∧(if c then x else y).gone=y.gone:=fun c _ x y bF e2=>by
   split
   ·exact⟨bF,e2⟩
   ·exact⟨rfl,rfl⟩
  generalize hB:(if(nth f.ways i).state≠4∧dF f (nth (nth p.ways i).ai 0)=true then{nth f.ways i with state:=4,timer:=0} else nth f.ways i)=A
  have lM:A.been=(nth f.ways i).been∧A.gone=(nth f.ways i).gone:=by rw[←hB];exact h1 _ _ _ rfl rfl
  generalize eO:(if A.state=1∨A.state=2 then(if fG p f i=true then{A with state:=2,shown:=true} else{A with state:=1}) else A)=B
  have Bn:B.been=(nth f.ways i).been∧B.gone=(nth f.ways i).gone:=by
   rw[←eO,←lM.1,←lM.2]
   exact h1 _ _ _ (by split<;>rfl) (by split<;>rfl)
  have bF:B.been.length=(nth p.ways i).ai.length:=by rw[Bn.1];exact hb
  have e2:0≤B.gone∧B.gone≤B.been.length:=by rw[Bn.1,Bn.2];exact aO
  split
  ·exact VS bF e2
  ·exact⟨bF,e2⟩
theorem uZ {p:aB} {f:Frame} (h:hJ p f): ∀n,hJ p (hF p n f)
 | 0=>h
 | n+1=>by
  have bO:=uZ h n
  show hJ p {hF p n f with ways:=(hF p n f).ways.set n (lg p (hF p n f) n)}
  have key:n<(hF p n f).ways.length→(lg p (hF p n f) n).been.length=(nth p.ways n).ai.length∧0≤(lg p (hF p n f) n).gone∧(lg p (hF p n f) n).gone≤(lg p (hF p n f) n).been.length:=fun aC=>by
   have hw:=bO.ways
   have h1:(hF p n f).ways[n]?=some (nth (hF p n f).ways n):=by rw[iu aC];exact List.getElem?_eq_getElem aC
   have h2:p.ways[n]?=some (nth p.ways n):=by rw[iu (by omega)];exact List.getElem?_eq_getElem (by omega)
   exact YS (bO.been n _ _ h1 h2) (bO.gone _ (List.mem_of_getElem? h1))
  refine⟨bO.al,bO.ak,by rw[List.length_set];exact bO.ways,fun i x w h1 h2=> ?_,fun x hx=> ?_⟩
  ·replace h1:((hF p n f).ways.set n (lg p (hF p n f) n))[i]?=some x:=h1
   rw[List.getElem?_set] at h1
   split at h1
   ·rename_i e;subst e
    split at h1
    ·rename_i aC
     cases h1
     have hw:=bO.ways
     rw[(key aC).1,iu (by omega)]
     rw[List.getElem?_eq_getElem (by omega)] at h2
     cases h2;rfl
    ·cases h1
   ·exact bO.been i x w h1 h2
  ·rcases List.mem_or_eq_of_mem_set hx with hx | rfl
   ·exact bO.gone x hx
   ·by_cases aC:n<(hF p n f).ways.length
    ·exact(key aC).2
    ·rw[List.set_eq_of_length_le (by omega)] at hx
     exact bO.gone _ hx
theorem ny (p:aB) (f:Frame): ∀n,(hF p n f).ways.length=f.ways.length
 | 0=>rfl
 | n+1=>by show((hF p n f).ways.set n _).length=_;rw[List.length_set];exact ny p f n
theorem D2 {p:aB} {f g:Frame} {i:Int} (h1:f.al=g.al) (h2:f.ak=g.ak):fG p f i=fG p g i:=by
 unfold fG fZ dF
 rw[h1,h2]
def jc (s:List Int) (f:Frame) (b:List Bool) (v:Nat):List Bool:=List.zipWith (fun b x=>b || dF f x) (b.take v) (s.take v)++b.drop v
theorem F9 {s:List Int} {f:Frame} {b:List Bool} {v:Nat} (aI:b.length=s.length) (hv:v≤s.length):(jc s f b v).length=b.length:=by
 unfold jc
 rw[List.length_append,List.length_zipWith,List.length_take,List.length_take,List.length_drop];omega
theorem NZ (s:List Int) (f:Frame) (b:List Bool):jc s f b 0=b:=by simp[jc]
theorem N1 {s:List Int} {f:Frame} {b:List Bool} {v:Nat} (aI:b.length=s.length) (hv:s.length≤v):jc s f b v=List.zipWith (fun b x=>b || dF f x) b s:=by
 unfold jc
 rw[List.take_of_length_le (by omega),List.take_of_length_le hv,List.drop_of_length_le (by omega),List.append_nil]
theorem N0 {s:List Int} {f:Frame} {b:List Bool} {v:Nat} (aI:b.length=s.length) (hv:v<s.length):nth (jc s f b v) v=b[v]:=by
 rw[iu (by rw[F9 aI (by omega)];omega)]
 unfold jc
 rw[List.getElem_append_right (by rw[List.length_zipWith,List.length_take,List.length_take];omega)]
 simp only[List.length_zipWith,List.length_take,List.getElem_drop]
 congr 1;omega
theorem N2 {s:List Int} {f:Frame} {b:List Bool} {v:Nat} (aI:b.length=s.length) (hv:v<s.length):(jc s f b v).set v (b[v] || dF f s[v])=jc s f b (v+1):=by
 unfold jc
 have hlen:(List.zipWith (fun b x=>b || dF f x) (b.take v) (s.take v)).length=v:=by rw[List.length_zipWith,List.length_take,List.length_take];omega
 rw[List.set_append_right _ _ (by omega),hlen,Nat.sub_self,List.take_succ_eq_append_getElem (by omega),List.take_succ_eq_append_getElem hv,List.zipWith_append (by rw[List.length_take,List.length_take];omega),List.append_assoc]
 congr 1
 rw[List.drop_eq_getElem_cons (by omega:v<b.length)]
 rfl
def mb (s:List Int) (f:Frame) (been:List Bool) (g:Int):Bool:=
 decide (g<(s.length:Int))&&(nth been g&&((!(nth f.al (nth s g)))&&((g==IntKind.i64.wrap ((s.length:Int) - 1)) || nth been (IntKind.i64.wrap (g+1)))))
theorem H2 {s:List Int} {f:Frame} {been:List Bool} {g:Nat} (hs:s.length≤1048576) (aO:g≤s.length):
  mb s f been g=true↔g<s.length∧been.getD g false=true∧dF f (s.getD g 0)=false∧(g+1=s.length∨been.getD (g+1) false=true):=by
 unfold mb
 rw[gb (by omega) (by omega),gb (by omega) (by omega)]
 have bF:nth been (g:Int)=been.getD g false:=rfl
 have e2:nth been ((g:Int)+1)=been.getD (g+1) false:=rfl
 have dN:nth s (g:Int)=s.getD g 0:=rfl
 rw[bF,e2,dN]
 simp only[Bool.and_eq_true,Bool.or_eq_true,decide_eq_true_eq,Bool.not_eq_true',beq_iff_eq]
 constructor
 ·rintro⟨h1,h2,aS,bt⟩;exact⟨by omega,h2,aS,bt.imp (fun h=>by omega) _root_.id⟩
 ·rintro⟨h1,h2,aS,bt⟩;exact⟨by omega,h2,aS,bt.imp (fun h=>by omega) _root_.id⟩
def tz (s:List Int) (f:Frame) (been:List Bool) (aR g:Int):Prop:=0≤g∧g≤s.length∧fU s f been s.length aR.toNat=fU s f been (s.length - g.toNat) g.toNat
theorem yb {s:List Int} {f:Frame} {been:List Bool} {n g:Nat} (h: ¬(g<s.length∧been.getD g false=true∧dF f (s.getD g 0)=false∧(g+1=s.length∨been.getD (g+1) false=true))):fU s f been n g=g:=by
 cases n with
 | zero=>rfl
 | succ n=>unfold fU;rw[if_neg h]
theorem H6 {s:List Int} {f:Frame} {been:List Bool}: ∀(n m g:Nat),s.length≤n+g→s.length≤m+g→fU s f been n g=fU s f been m g
 | 0,m,g,h1,h2=>by
  rw[yb (n:=m) fun h=>by omega];rfl
 | n+1,0,g,h1,h2=>by rw[yb (n:=n+1) fun h=>by omega];rfl
 | n+1,m+1,g,h1,h2=>by
  unfold fU
  split
  ·exact H6 n m (g+1) (by omega) (by omega)
  ·rfl
theorem H3 {s:List Int} {f:Frame} {been:List Bool} {g:Int} (a0:0≤g) (h1:g≤s.length):tz s f been g g:=⟨a0,h1,H6 _ _ _ (by omega) (by omega)⟩
theorem H4 {s:List Int} {f:Frame} {been:List Bool} {aR g:Int} (hs:s.length≤1048576) (h:tz s f been aR g) (hc:mb s f been g=true):tz s f been aR (IntKind.i64.wrap (g+1))∧g<s.length:=by
 obtain⟨a0,h1,h2⟩:=h
 obtain⟨k,rfl⟩:=Int.eq_ofNat_of_zero_le a0
 have hc:=(H2 hs (by omega)).1 hc
 rw[gb (by omega) (by omega)]
 refine⟨⟨by omega,by omega,?_⟩,by omega⟩
 rw[h2]
 simp only[Int.toNat_natCast]
 rw[show((k:Int)+1).toNat=k+1 by omega,show s.length - k=(s.length - (k+1))+1 by omega]
 conv=>lhs;unfold fU
 rw[if_pos hc]
theorem Bj {s:List Int} {f:Frame} {been:List Bool} {aR g:Int} (hs:s.length≤1048576) (h:tz s f been aR g) (hc:mb s f been g=false):(fU s f been s.length aR.toNat:Int)=g:=by
 obtain⟨a0,h1,h2⟩:=h
 obtain⟨k,rfl⟩:=Int.eq_ofNat_of_zero_le a0
 rw[h2]
 simp only[Int.toNat_natCast]
 rw[yb fun bV=>by rw[(H2 hs (by omega)).2 bV] at hc;cases hc]
def Ev (p:aB) (f:Frame) (bs:List (List Bool)) (ids:List Nat) (v:Int) (ws:List aa):Prop:=
 cg f.ways.length (fun _=>false) v∧iQ ws ids bs∧(∀i j k:Nat,ids[i]?=some k→ids[j]?=some k→i=j)∧view ws ids bs=(hF p v.toNat f).ways∧ ∀b∈bs,b.length≤1048576
def ds (p:aB) (f:Frame) (v:Int):Frame:=hF p v.toNat f
def cK (p:aB) (v:Int):List Int:=(nth p.ways v).ai
def g7 (p:aB) (f:Frame) (v:Int):aa:=
 let G:=ds p f v
 let h:=nth G.ways v
 if h.state≠4∧dF G (nth (cK p v) 0)=true then{h with state:=4,timer:=0} else h
def fR (p:aB) (f:Frame) (v:Int):aa:=
 let h:=g7 p f v
 if h.state=1∨h.state=2 then(if fG p (ds p f v) v=true then{h with state:=2,shown:=true} else{h with state:=1}) else h
def ot (p:aB) (f:Frame) (v:Int):List Bool:=List.zipWith (fun b x=>b || dF (ds p f v) x) (fR p f v).been (cK p v)
theorem NJ {p:aB} {f:Frame} {v:Int} (a0:0≤v):lg p (ds p f v) v.toNat=if(nth (ds p f v).ways v).state=0 then nth (ds p f v).ways v else if(fR p f v).state=4 then g4 (cK p v) (ds p f v) (fR p f v) else fR p f v:=by
 unfold lg fR g7 cK
 rw[jr a0,jr a0,Int.toNat_of_nonneg a0]
theorem q5 {p:aB} {f:Frame} {v:Int}:(g7 p f v).been=(nth (ds p f v).ways v).been∧(g7 p f v).gone=(nth (ds p f v).ways v).gone:=by
 unfold g7;simp only;split<;>exact⟨rfl,rfl⟩
theorem zc {p:aB} {f:Frame} {v:Int}:(fR p f v).been=(nth (ds p f v).ways v).been∧(fR p f v).gone=(nth (ds p f v).ways v).gone:=by
 rw[←q5.1,←q5.2]
 unfold fR;simp only;split
 ·split<;>exact⟨rfl,rfl⟩
 ·exact⟨rfl,rfl⟩
theorem sK {p:aB} {f:Frame} {v:Int} {h:aa} {ws:List aa} {ids:List Nat} {bs:List (List Bool)} (aC:(f.ways.length:Int)≤4611686018427387904) (aM:cg f.ways.length (fun _=>false) v) (hv:decide (v<(f.ways.length:Int))=true)
  (F:c7 (ds p f v).ways ids v h ws bs) (bV:h=lg p (ds p f v) v.toNat):Ev p f bs ids (IntKind.i64.wrap (v+1)) ws∧cn f.ways.length (IntKind.i64.wrap (v+1))<cn f.ways.length v:=by
 have bd:=cq aC aM hv rfl
 refine⟨⟨bd.1,F.ok,F.jR,?_,F.len⟩,bd.2⟩
 have a0:=aM.1
 have hv:v<(f.ways.length:Int):=by simpa using hv
 rw[ho aC a0 hv,show(v+1).toNat=v.toNat+1 by omega,F.gN,bV]
 rfl
end Go.Proofs.Ytglpfccgmfhkdaa.Fw
/- Functions that write a frame that lies in the memory: what they ask, what they leave. -/
set_option linter.unusedVariables false
namespace Go.Proofs.Ytglpfccgmfhkdaa.Fw
open Go
def yI (j:Int) (k:Bool) (o:List Bool) (q:List aN) (w:List aa) (i:List Nat) (b:List (List Bool)):Prop:=fL w i b∧0≤j∧j<w.length
def sc (j:Int) (k:Bool) (o:List Bool) (q:List aN) (w:List aa) (i:List Nat) (b:List (List Bool)) (kB:List Bool) (q6:List aN) (w':List aa) (h4:List Nat) (ca:List (List Bool)):Prop:=
 fL w' h4 ca∧view w' h4 ca=(view w i b).set j.toNat (gE (nth (view w i b) j).been.length)
def cL (k:Bool) (o:List Bool) (q:List aN) (w:List aa) (i:List Nat) (b:List (List Bool)):Frame:=⟨k,o,q,view w i b⟩
def Le (s:Way) (j:Int) (k:Bool) (o:List Bool) (q:List aN) (w:List aa) (i:List Nat) (b:List (List Bool)):Prop:=
 fL w i b∧0≤j∧j<w.length∧s.ai.length≤1048576∧(∀x∈s.ai,0≤x∧x<o.length)∧(nth (view w i b) j).been.length=s.ai.length∧0≤(nth (view w i b) j).gone∧(nth (view w i b) j).gone≤s.ai.length
def wB (s:Way) (j:Int) (k:Bool) (o:List Bool) (q:List aN) (w:List aa) (i:List Nat) (b:List (List Bool)) (kB:List Bool) (q6:List aN) (w':List aa) (h4:List Nat) (ca:List (List Bool)):Prop:=
 fL w' h4 ca∧view w' h4 ca=(view w i b).set j.toNat (g4 s.ai (cL k o q w i b) (nth (view w i b) j))
def Ew (p:aB) (k:Bool) (o:List Bool) (q:List aN) (w:List aa) (i:List Nat) (b:List (List Bool)):Prop:=fL w i b∧zw p (cL k o q w i b)
def wU (p:aB) (k:Bool) (o:List Bool) (q:List aN) (w:List aa) (i:List Nat) (b:List (List Bool)) (kB:List Bool) (q6:List aN) (w':List aa) (h4:List Nat) (ca:List (List Bool)):Prop:=
 fL w' h4 ca∧view w' h4 ca=(dQ p (cL k o q w i b)).ways
def L7 (f g:Frame):Prop:=f.ways.length=g.ways.length∧gK f∧gK g∧ ∀(i:Nat) (x y:aa),f.ways[i]?=some x→g.ways[i]?=some y→x.been.length=y.been.length
def m2 (f g:Frame):Bool:=decide (f.ways=g.ways)
def Iu (p:aB) (f:Frame) (i:Int):Prop:=qf p∧gK f∧f.ways.length=p.ways.length∧0≤i∧i<p.ways.length
def hg (p:aB) (f:Frame) (i:Int):Bool:=
 let h:=nth f.ways i
 let n:=(nth p.ways i).ai.length
 b1 h.state 0 4&&decide (h.been.length=n)&&b1 h.gone 0 ((n:Int) - 1)&&(decide (h.state=4) || (decide (h.gone=0)&&h.been.all (fun b=> !b)))&&(h.been.take h.gone.toNat).all (fun b=>b)&&
 (if h.state=3 then h.shown&&b1 h.timer 1 p.hold else decide (h.timer=0)&&(decide (h.state≠0) || !h.shown)&&(decide (h.state≠2) || h.shown))
def z6 (p:aB) (f:Frame):Bool:=(List.range f.ways.length).all fun i=>(List.range f.ways.length).all fun k=>decide (i=k) || !ql p i k || decide ((nth f.ways i).state=0) || decide ((nth f.ways k).state=0)
def hz (p:aB) (f:Frame):Bool:=
 dv p&&f.ok&&decide ((f.al.length:Int)=p.ai)&&decide (f.ak.length=p.bh.length)&&decide (f.ways.length=p.ways.length)&&
 f.ak.all (fun x=>b1 x.want 1 2&&b1 x.aZ 0 2)&&(List.range f.ways.length).all (fun i=>hg p f i)&&z6 p f&&m2 f (dQ p f)
def HT (p:aB) (f:Frame):Prop:=gK f
theorem ye {xs:List Bool} {b:Bool}:nU xs b=true↔b∈xs:=by unfold nU;simp
def oW (f:Frame) (l:ch):Bool:=((nth f.ak l.bb).want !=l.bx) || ((nth f.ak l.bb).aZ !=l.bx)
def Ls (p:aB) (f:Frame) (i:Int):Prop:= ∀l∈bq (nth p.ways i),oW f l=false
theorem D1 (p:aB) (f:Frame) (i:Int):fG p f i=((bq (nth p.ways i)).all (fun l=> !oW f l)&& !fZ f (nth p.ways i).ai&& !fZ f (nth p.ways i).cw):=by
 have aj: ∀l:ch,decide (nth f.ak l.bb=⟨l.bx,l.bx⟩)= !oW f l:=fun l=>by
  unfold oW
  rcases nth f.ak l.bb with⟨x,y⟩
  rw[Bool.eq_iff_iff];simp
 unfold fG
 simp only[aj]
theorem F7 {α:Type} {x y:α} {v:Int} (a0:0≤v) (h1:v.toNat<[x,y].length):v=0∨v=1:=by simp at h1;omega
theorem fL.pq {w:List aa} {i:List Nat} {b:List (List Bool)} {j:Int} (F:fL w i b) (h:j.toNat<w.length):c7 (view w i b) i j (nth (view w i b) j) w b:=c7.start F.ok F.jR h rfl F.len
section
variable {V:List aa} {ids cX:List Nat} {v:Int} {h x:aa} {ws jD:List aa} {bs ll:List (List Bool)}
theorem c7.G (F:c7 V ids v h ws bs):fL ws ids bs:=⟨F.ok,F.jR,F.len⟩
theorem c7.uw (F:c7 V ids v h ws bs):nth (view ws ids bs) v=h:=by
 rw[fv (by rw[ii F.ok];exact F.lt)]
 simp only[F.gN,List.getElem_set_self]
theorem c7.again (F:c7 V ids v h ws bs) (G:fL jD cX ll) (e:view jD cX ll=(view ws ids bs).set v.toNat x):c7 V cX v x jD ll where
 ok:=G.ok
 jR:=G.jR
 lt:=by
  have:=congrArg List.length e
  rw[ii G.ok,List.length_set,ii F.ok] at this
  have:=F.lt;omega
 gN:=by rw[e,F.gN,List.set_set]
 len:=G.len
end
theorem Ld {s:List Int} {f g:Frame} {h:aa} (e:f.al=g.al):g4 s f h=g4 s g h:=by
 have ax:dF f=dF g:=by funext x;unfold dF;rw[e]
 have aO: ∀(been:List Bool) (n q:Nat),fU s f been n q=fU s g been n q:=fun been n=>by
  induction n with
  | zero=>intro q;rfl
  | succ n bO=>intro q;unfold fU;rw[ax,bO]
 unfold g4
 simp only[ax,aO]
def mn (s:List Int) (f:Frame) (h:aa):List Bool:=List.zipWith (fun b x=>b || dF f x) h.been s
theorem Lc (s:List Int) (f:Frame) (h:aa):g4 s f h=if fU s f (mn s f h) s.length h.gone.toNat=s.length then gE s.length else{h with been:=mn s f h,gone:=fU s f (mn s f h) s.length h.gone.toNat}:=rfl
def VU (s:List Int) (f:Frame) (V:List aa) (ids:List Nat) (j:Int) (ws:List aa) (bs:List (List Bool)) (k:Int):Prop:=
 cg s.length (fun _=>false) k∧c7 V ids j {nth V j with been:=jc s f (nth V j).been k.toNat} ws bs
def VV (s:List Int) (f:Frame) (V:List aa) (ids:List Nat) (j:Int) (bs:List (List Bool)) (ws:List aa):Prop:=
 ∃g,tz s f (mn s f (nth V j)) (nth V j).gone g∧c7 V ids j {nth V j with been:=mn s f (nth V j),gone:=g} ws bs
theorem Y0 {s:List Int} {f:Frame} {been:List Bool} {g:Int} (hs:s.length≤1048576) (h:decide (g<(s.length:Int))=true):
  ((!(nth been g)) || ((nth f.al (nth s g)) || ((decide (g<(IntKind.i64.wrap ((s.length:Int) - 1))))&&(!(nth been (IntKind.i64.wrap (g+1)))))))= !mb s f been g:=by
 unfold mb
 rw[h,Bool.true_and,gb (n:=(s.length:Int) - 1) (by omega) (by omega)]
 have:(g==(s.length:Int) - 1)= !decide (g<(s.length:Int) - 1):=by
  have h:g<(s.length:Int):=by simpa using h
  rw[Bool.eq_iff_iff];simp;omega
 rw[this]
 cases nth been g<;>cases nth f.al (nth s g)<;>cases decide (g<(s.length:Int) - 1)<;>cases nth been (IntKind.i64.wrap (g+1))<;>rfl
end Go.Proofs.Ytglpfccgmfhkdaa.Fw
/- The machine, part E: operations that write. -/
set_option linter.unusedVariables false
namespace Go.Proofs.Ytglpfccgmfhkdaa.Fw
open Go
def ov:List (Nat×TV)→Bool
 | []=>true
 | (k,_)::r=>match Nat.ble 1000010 k&&Nat.blt k 1000000000000 with
  | true=>ov r
  | false=>false
theorem xw {l:List (Nat×TV)} (h:ov l=true) {k:Nat} (hk:k<1000010∨1000000000000≤k): ∀v,(k,v) ∉ l:=by
 induction l with
 | nil=>intro v hv;cases hv
 | cons p r bO=>
  obtain⟨a,w⟩:=p
  unfold ov at h
  split at h
  ·rename_i a6
   rw[Bool.and_eq_true,Nat.blt_eq] at a6
   intro v hv
   rcases List.mem_cons.1 hv with e | hv
   ·cases e;have:=Nat.le_of_ble_eq_true a6.1;have:=a6.2;omega
   ·exact bO h v hv
  ·cases h
def TS.add (s:TS) (l:List (Nat×TV)) (vs:List (Nat×Nat)) (bB:Nat):TS:=⟨l++s.T,s.B,vs,bB⟩
theorem TS.hY (s:TS) (l:List (Nat×TV)) (vs:List (Nat×Nat)) (bB k:Nat):(s.add l vs bB).get k=hj l k (s.get k):=by
 unfold TS.get TS.add;exact uk ..
theorem xl {n:Nat} {s:TS} {l:List (Nat×TV)} {vs:List (Nat×Nat)} {bB:Nat} (aC:n≤1000000) (h:ov l=true):(s.add l vs bB).tT n=s.tT n:=by
 show(List.range n).map _=(List.range n).map _
 refine List.map_congr_left fun t bu=> ?_
 have bu:t<n:=List.mem_range.1 bu
 rw[TS.hY,sk (xw h (.inl (by omega)))]
theorem DM {s s':TS} (e:s'.get dE=s.get dE):iX s'=iX s:=by unfold iX;rw[e]
theorem FN [FZ] {n:Nat} {s s':TS} (hb:s'.bB=s.bB) (e: ∀b,s'.get (bY b)=s.get (bY b)) (dI:s'.get dE=s.get dE):(s'.aD n).H=(s.aD n).H:=by
 show s'.gi++h3 s'=s.gi++h3 s
 unfold TS.gi h3
 rw[DM dI,hb]
 simp only[e]
theorem xk [FZ] {n:Nat} {s:TS} {l:List (Nat×TV)} {vs:List (Nat×Nat)} (h:ov l=true):((s.add l vs s.bB).aD n).H=(s.aD n).H:=
 FN rfl (fun b=>by rw[TS.hY,sk (xw h (.inr (by unfold bY;omega)))]) (by rw[TS.hY,sk (xw h (.inl (by unfold dE;omega)))])
theorem xm [FZ] {s:TS} {l:List (Nat×TV)} {vs:List (Nat×Nat)} {bB:Nat} (h:ov l=true) (f:Fits s):Fits (s.add l vs bB):=
 f.congr fun k _ h2=>by rw[TS.hY,sk (xw h (.inl h2))]
def rG (v:Nat):Nat→List TV→List (Nat×TV)
 | _,[]=>[]
 | c,a::r=>(fB v c,a)::rG v (c+1) r
def TS.hq (s:TS) (b bB:Nat) (v:TV):TS:=s.add [(bY b,v)] s.vs bB
theorem Ab (s:TS) {b bB:Nat} {v:TV} {k:Nat} (h:k<1000000000000):(s.hq b bB v).get k=s.get k:=by
 unfold TS.hq
 rw[TS.hY,gJ,if_neg (by unfold bY;omega)];rfl
theorem qn {n:Nat} {s:TS} {b bB:Nat} {v:TV} (aC:n≤1000000):(s.hq b bB v).tT n=s.tT n:=by
 show(List.range n).map _=(List.range n).map _
 refine List.map_congr_left fun t bu=> ?_
 have bu:t<n:=List.mem_range.1 bu
 rw[Ab s (by omega)]
theorem qo [FZ] {s:TS} {b bB:Nat} {v:TV} (f:Fits s):Fits (s.hq b bB v):=f.congr fun k _ h2=>Ab s (by omega)
theorem GP {s:TS} {b bB:Nat} {v:TV}:iX (s.hq b bB v)=iX s:=DM (Ab s (by unfold dE;omega))
theorem GO (s:TS) (b bB:Nat) (v:TV) (ca:Nat):(s.hq b bB v).get (bY ca)=if b=ca then v else s.get (bY ca):=by
 unfold TS.hq
 rw[TS.hY,gJ]
 by_cases h:b=ca
 ·subst h;rw[if_pos rfl,if_pos rfl]
 ·rw[if_neg h,if_neg (by unfold bY;omega)];rfl
theorem xA [FZ] {n:Nat} {s:TS} {b:Nat} {v:TV} (h:b<s.bB):((s.hq b s.bB v).aD n).H=(s.aD n).H.set b v.dC:=by
 show(s.hq b s.bB v).gi++h3 (s.hq b s.bB v)=(s.gi++h3 s).set b v.dC
 rw[List.set_append_left _ _ (by rw[l1];exact h)]
 have e2:h3 (s.hq b s.bB v)=h3 s:=by unfold h3;rw[GP]
 rw[e2]
 congr 1
 apply List.ext_getElem?
 intro i
 rw[qa,List.getElem?_set,qa,l1,GO]
 show(if i<s.bB then _ else _)=_
 by_cases hi:b=i
 ·subst hi;simp[h]
 ·simp[hi]
theorem xz [FZ] {n:Nat} {s:TS} {v:TV} (da:iX s=true):((s.hq s.bB (s.bB+1) v).aD n).H=(s.aD n).H++[v.dC]:=by
 show(s.hq s.bB (s.bB+1) v).gi++h3 (s.hq s.bB (s.bB+1) v)=(s.gi++h3 s)++[v.dC]
 unfold h3
 rw[GP,da]
 show(s.hq s.bB (s.bB+1) v).gi++[]=(s.gi++[])++[v.dC]
 rw[List.append_nil,List.append_nil]
 apply List.ext_getElem?
 intro i
 rw[qa,GO]
 show(if i<s.bB+1 then _ else _)=_
 rcases Nat.lt_trichotomy i s.bB with h | h | h
 ·rw[if_pos (by omega),if_neg (by omega),List.getElem?_append_left (by rw[l1];exact h),qa,if_pos h]
 ·subst h
  rw[if_pos (by omega),if_pos rfl,List.getElem?_append_right (by rw[l1];exact Nat.le_refl _),l1];simp
 ·rw[if_neg (by omega),List.getElem?_eq_none (by rw[List.length_append,l1];simp;omega)]
def sP (P:Program) (t:TypeId) (v:AV):Bool:=(P.info? t).isSome&&Nat.beq (eD v).length (P.cellsOf t)&&(eD v).all ie
theorem zA {P:Program} {t:TypeId} {v:AV} (h:sP P t v=true):(P.info? t).isSome=true∧(eD v).length=P.cellsOf t∧(eD v).all ie=true:=by
 simp only[sP,Bool.and_eq_true] at h
 exact⟨h.1.1,Nat.eq_of_beq_eq_true h.1.2,h.2⟩
def FP (P:Program) (n:Nat) (t:TypeId) (b g:Nat) (i:Int) (m c:Nat) (v:TV) (s:TS) (K:TS→aU):aU:=match uv v with
 | false=> .no
 | true=>qp s b g fun e xs ft h=>vv s e.lu ((lK true e (qU e xs i)).take c++ox v++(lK true e (qU e xs i)).drop (c+(ox v).length)) fun zP _=>
  let y:=e.mk zP
  let s':=s.hq b s.bB (.blk g e (xs.set i.toNat y) ft (by rw[List.length_set];exact h))
  .eq ft m (.eq (sP P t v.bz) true (.eq (Nat.ble (c+(eD v.bz).length) e.k8) true (.eq (eK (c_ true e (qU e xs i)) c (eD v.bz)) (c_ true e y) (.eq s'.cy s.cy (.p (i.toNat<m) (K s'))))))
def yV (P:Program) (t:TypeId):Option (List AV×Nat):=match il P t with
 | some e=>(match l2 P e with
  | some z=>(match Nat.beq z.length (P.cellsOf e)&&z.all ie with
   | true=>some (z.map lC,P.bytesOf e)
   | false=>none)
  | none=>none)
 | none=>none
theorem KL {P:Program} {t:TypeId} {N8:List AV} {B:Nat} (h:yV P t=some (N8,B)): ∃e z,il P t=some e∧l2 P e=some z∧z.length=P.cellsOf e∧z.all ie=true∧N8=z.map lC∧B=P.bytesOf e:=by
 unfold yV at h
 split at h
 ·rename_i e he
  split at h
  ·rename_i z aQ
   split at h
   ·rename_i hc
    simp only[Bool.and_eq_true] at hc
    cases h
    exact⟨e,z,he,aQ,Nat.eq_of_beq_eq_true hc.1,hc.2,rfl,rfl⟩
   ·cases h
  ·cases h
 ·cases h
def oz (P:Program) (t:TypeId):Nat:=match il P t with
 | some e=>P.bytesOf e
 | none=>0
def Q_ (e:bN) (c:List TV):e.T:=match e.isS with
 | true=>e.mk (qz e.lu c)
 | false=>Bf e (c.getD 0 .u)
def DI (P:Program) (n:Nat) (t:TypeId) (e:bN) (l c:TV) (s:TS) (K:TV→TS→aU):aU:=match l with
 | .i _ l=>(match c with
  | .i _ c=>
   let aA:=Q_ e (match il P t with
    | some my=>xa P my
    | none=>[])
   let xs:=List.replicate l.toNat aA
   let s':=s.hq s.bB (s.bB+1) (.blk 0 e xs xs.length rfl)
   .eq (yV P t) (some (c_ true e aA,oz P t)) (.eq l c (.eq s'.cy s.cy (.eq (iX s) true (.p (0≤l∧(oz P t:Int)*l≤140737488355328∧l≤4611686018427387904) (K (.ref s.bB 0 xs.length false) s')))))
  | _=> .no)
 | _=> .no
def xp (P:Program) (t t2:TypeId) (x:AV):Option (Nat×Nat):=match il P t with
 | some e=>(match l2 P e with
  | some z=>(match Nat.beq z.length (P.cellsOf e)&&Nat.blt 0 z.length&&rC P e t2 x with
   | true=>some (z.length,P.bytesOf e)
   | false=>none)
  | none=>none)
 | none=>none
theorem GD {P:Program} {t t2:TypeId} {x:AV} {m B:Nat} (h:xp P t t2 x=some (m,B)): ∃e z,il P t=some e∧l2 P e=some z∧(z.length=P.cellsOf e∧0<z.length∧rC P e t2 x=true)∧m=z.length∧B=P.bytesOf e:=by
 unfold xp at h
 split at h
 ·rename_i e he
  split at h
  ·rename_i z aQ
   split at h
   ·rename_i hc
    simp only[Bool.and_eq_true] at hc
    cases h
    exact⟨e,z,he,aQ,⟨Nat.eq_of_beq_eq_true hc.1.1,by rw[←Nat.blt_eq];exact hc.1.2,hc.2⟩,rfl,rfl⟩
   ·cases h
  ·cases h
 ·cases h
def bN.flat:bN→Bool
 | .int | .u64 | .u8 | .bool | .str | .bx | .iS | .g6 | .fault=>true
 | _=>false
theorem Qu {e:bN} (h:e.flat=true) (x:e.T):c_ false e x=c_ true e x:=by cases e<;>first | rfl | cases h
theorem Wn (e:bN) (x:e.T):(c_ false e x).map nx=c_ true e x:=by
 rw[←qt,←qt]
 have key: ∀(es:List bN) (y:dr es),(mI false es y).map nx=mI true es y:=by
  intro es
  induction es with
  | nil=>intro y;rfl
  | cons e r bO=>
   intro y
   show nx (nL false e y.1)::(mI false r y.2).map nx=_
   rw[bO,mI]
   congr 1
   cases e<;>rfl
 exact key _ _
theorem LO {e:bN} {fr:Bool} (h:(fr || e.flat)=true) (xs:List e.T):hR fr (xs.map (c_ false e))=xs.map (c_ true e):=by
 cases fr with
 | true=>
  show(xs.map (c_ false e)).map (fun row=>row.map nx)=_
  rw[List.map_map]
  exact List.map_congr_left fun x _=>Wn e x
 | false=>exact List.map_congr_left fun x _=>Qu h x
def z5 (P:Program) (n:Nat) (t t2:TypeId) (v x:TV) (s:TS) (K:TV→TS→aU):aU:=match x with
 | .l e ys iE fr=>(match(fr || e.flat)&&e.qW with
  | false=> .no
  | true=>(match v with
   | .nil full _=>(match full with
    | true=>
     let s':=s.hq s.bB (s.bB+1) (.blk 0 e ys ys.length rfl)
     .eq (xp P t t2 (TV.l e ys iE fr).bz) (some (e.k8,oz P t)) (.eq s'.cy s.cy (.eq (iX s) true (.p (ys.length*oz P t≤140737488355328∧ys.length≤4611686018427387904) (K (.ref s.bB 0 ys.length false) s'))))
    | false=> .no)
   | .ref b g m _=>qp s b g fun dI xs ft h=>if he:e=dI then
     let hI:=xs++lm he ys
     let s':=s.hq b s.bB (.blk (g+1) dI hI hI.length rfl)
     .eq ft m (.eq (xp P t t2 (TV.l e ys iE fr).bz) (some (e.k8,oz P t)) (.eq s'.cy s.cy (.p ((xs.length+ys.length)*oz P t≤140737488355328∧xs.length+ys.length≤4611686018427387904) (K (.ref b (g+1) hI.length false) s'))))
    else .no
   | _=> .no))
 | _=> .no
section
variable {P:Program} (cf:gO P) (s:TS)
def vC (o:Oper) (v:TV) (l:List (Nat×TV)) (vs:List (Nat×Nat)) (K:TV→TS→aU):aU:=match ov l with
 | true=> .eq (fun H Q=>jh P [] o (fun x=>(cv cf.n s x).bz) s.cy H Q) (fun H Q=>Q v.bz (s.add l vs s.bB).cy H) (K v (s.add l vs s.bB))
 | false=> .no
end
section
variable {P:Program} {cf:gO P} {s:TS} {R:Exit→TS→Prop}
variable {K:TV→TS→aU} {Kp:AV→List (Nat×List AV)→List Blk→Prop}
theorem y2 {b:Bool} {x:Prop} (h:b=true) (k:x):ef b x:=by subst h;exact k
end
section
variable {P:Program} {cf:gO P} {s:TS} {R:Exit→TS→Prop}
variable {K:TV→TS→aU} {Kp:AV→List (Nat×List AV)→List Blk→Prop}
theorem O2 {t:TypeId} {m:Nat} {parts:List (Nat×AV)} {L:List (Nat×List AV)} {H:List Blk} {d:Option Nat} (h:te P t m parts fun r=>Kp r L H):rE P (rN [] d) (sH []) t m parts L H Kp:=by
 obtain⟨e,he,h⟩:=e3 h
 obtain⟨z,aQ,h⟩:=e3 h
 refine dG he (dG aQ ?_)
 split at h
 ·rename_i hc
  rw[if_pos hc]
  obtain⟨cells,hf,h⟩:=e3 h
  refine dG hf ?_
  split at h
  ·rename_i hb
   have:rN [] d=false:=by cases d<;>rfl
   rw[this]
   show if cells.all kV=true then _ else _
   rw[if_pos hb];exact h
  ·exact h.elim
 ·exact h.elim
end
section
variable {P:Program} {cf:gO P} {s:TS} {R:Exit→TS→Prop}
variable {K:TV→TS→aU} {Kp:AV→List (Nat×List AV)→List Blk→Prop}
theorem LM {o:Oper} {bJ:Operand→AV} {L:List (Nat×List AV)} {H:List Blk} (h:iR P o bJ L H fun r=>Kp r L H) (hc: ∀c,o.op≠ .call c) (hb: ∀t m ps,o.op≠ .buildSlice t m ps):jh P [] o bJ L H Kp:=by
 have h':=x0 h
 obtain⟨dst,op,ty,pos,after,guard⟩:=o
 cases op<;>first | exact h' | exact h'.elim | exact absurd rfl (hc _) | exact absurd rfl (hb _ _ _)
end
section
variable {P:Program} {cf:gO P} {s:TS} {R:Exit→TS→Prop}
variable {K:TV→TS→aU} {Kp:AV→List (Nat×List AV)→List Blk→Prop}
theorem Ea {o:Oper} {c:Call} {bJ:Operand→AV} {L:List (Nat×List AV)} {H:List Blk} (ax:o.op= .call c) (h:iR P o bJ L H fun r=>Kp r L H):jh P [] o bJ L H Kp:=by
 have h':=x0 h
 obtain⟨dst,op,ty,pos,after,guard⟩:=o
 cases ax
 obtain⟨callee,args,argTypes⟩:=c
 cases callee with
 | builtin b=>
  cases b with
  | len=>exact h'
  | _=>exact h'.elim
 | value f=>
  have h':kW (bJ f) fun g caps=>na P g (args.toList.map bJ++caps) L H fun r=>Kp r L H:=h'
  show kW (bJ f) fun g caps=>kq P g (args.toList.map bJ++caps) L H Kp
  cases hf:bJ f with
  | fn g caps=>rw[hf] at h';exact .inl h'
  | _=>rw[hf] at h';exact h'.elim
 | _=>exact h'.elim
end
section
variable {P:Program} {cf:gO P} {s:TS} {R:Exit→TS→Prop}
variable {K:TV→TS→aU} {Kp:AV→List (Nat×List AV)→List Blk→Prop}
theorem Wk {o:Oper} {t:TypeId} {m:Nat} {ps:Array (Nat×Operand)} {bJ:Operand→AV} {L:List (Nat×List AV)} {H:List Blk} (ax:o.op= .buildSlice t m ps) (h:iR P o bJ L H fun r=>Kp r L H):jh P [] o bJ L H Kp:=by
 have h':=x0 h
 obtain⟨dst,op,ty,pos,after,guard⟩:=o
 cases ax
 obtain⟨h1,h2⟩:=ob (show ef (ps.toList.all fun p=>ed (bJ p.2)) (te P t m (ps.toList.map fun p=>(p.1,bJ p.2)) fun r=>Kp r L H) from h')
 show ef (ps.toList.all fun p=>ed (bJ p.2)) (rE P (rN [] dst) (sH []) t m (ps.toList.map fun p=>(p.1,bJ p.2)) L H Kp)
 rw[h1];exact O2 h2
end
section
variable [Z:FZ] {P:Program} {cf:gO P} {s:TS} {R:Exit→TS→Prop}
def s6 (cf:gO P) (s:TS) (R:Exit→TS→Prop) (K:TV→TS→aU) (Kp:AV→List (Nat×List AV)→List Blk→Prop):Prop:=
 ∀v s' (Z':FZ),(K v s').den R→ @Fits Z' s'→s'.tT cf.n=s.tT cf.n→Kp v.bz s'.cy (@TS.aD Z' cf.n s').H
variable {K:TV→TS→aU} {Kp:AV→List (Nat×List AV)→List Blk→Prop}
theorem YR (aC:cf.n≤1000000) {t:TypeId} {b g m c:Nat} {i:Int} {v:TV} {K:TS→aU} {Kp:List (Nat×List AV)→List Blk→Prop} (aQ:Fits s) (hK: ∀s' (Z':FZ),(K s').den R→ @Fits Z' s'→s'.tT cf.n=s.tT cf.n→Kp s'.cy (@TS.aD Z' cf.n s').H) (h:(FP P cf.n t b g i m c v s K).den R):
  ef (ed v.bz) (lf P t (.ptr b g i.toNat c) v.bz (s.aD cf.n).L (s.aD cf.n).H Kp):=by
 unfold FP at h
 split at h
 ·exact h.elim
 ·rename_i hv
  obtain⟨e,xs,ft,hm,h,hb,aV⟩:=vr (n:=cf.n) h
  obtain⟨zP,o,h,_⟩:=xG aQ (n:=cf.n) h
  obtain⟨h1,h2,aS,bt,cb,cE,h⟩:=h
  refine y2 (y0 hv) ?_
  have bg:i.toNat<xs.length:=by omega
  have hs:=zA h2
  unfold lf
  rw[if_pos hs]
  refine dG aV ⟨rfl,dG (DN bg true) ⟨?_,?_⟩⟩
  ·rw[rJ];exact Nat.le_of_ble_eq_true aS
  ·have:=hK _ Z h (qo aQ) (qn aC)
   rw[xA hb,cb] at this
   rw[bt]
   have bF: ∀y:e.T,(xs.map (c_ true e)).set i.toNat (c_ true e y)=(xs.set i.toNat y).map (c_ true e):=fun y=>by rw[List.map_set]
   rw[bF];exact this
theorem VA (aC:cf.n≤1000000) (aQ:Fits s) {t:TypeId} {e:bN} {l c:TV} (hK:s6 cf s R K Kp) (h:(DI P cf.n t e l c s K).den R):um P t l.bz c.bz (s.aD cf.n).L (s.aD cf.n).H Kp:=by
 unfold DI at h
 split at h
 ·split at h
  ·obtain⟨h1,h2,aS,da,bt,h⟩:=h
   rename_i yT uh l nc UE c
   subst h2
   obtain⟨my,z,q1,q2,q3,q4,cx,cT⟩:=KL h1
   refine dG q1 (dG q2 ?_)
   rw[if_pos ⟨q3,q4⟩]
   refine⟨bt.1,Int.le_refl _,by rw[←cT];exact bt.2.1,bt.2.2,?_⟩
   have:=hK _ _ Z h (qo aQ) (qn aC)
   rw[xz da,aS] at this
   rw[zC da,←cx]
   have aQ:z.length=e.k8:=by
    have:=congrArg List.length cx
    rw[List.length_map,rJ] at this;exact this.symm
   rw[aQ]
   have aI: ∀aA:e.T,(List.replicate l.toNat aA).length=l.toNat:=fun aA=>List.length_replicate
   show Kp (.ref s.bB 0 0 l.toNat false) _ ((s.aD cf.n).H++[⟨0,e.k8,List.replicate l.toNat (c_ true e _)⟩])
   rw[←List.map_replicate]
   have this:Kp (.ref s.bB 0 0 (List.replicate l.toNat _).length false) (s.aD cf.n).L ((s.aD cf.n).H++[⟨0,e.k8,(List.replicate l.toNat _).map (c_ true e)⟩]):=this
   rw[aI] at this
   exact this
  ·exact h.elim
 ·exact h.elim
theorem OJ (aC:cf.n≤1000000) (aQ:Fits s) {t t2:TypeId} {v x:TV} (hK:s6 cf s R K Kp) (h:(z5 P cf.n t t2 v x s K).den R):ed v.bz=true∧ed x.bz=true∧rB P t t2 v.bz x.bz (s.aD cf.n).L (s.aD cf.n).H Kp:=by
 unfold z5 at h
 split at h
 ·rename_i e ys iE fr
  split at h
  ·exact h.elim
  ·rename_i hc
   simp only[Bool.and_eq_true] at hc
   have ek: ∀(hI:List e.T) (k:Nat),e.k8=k→pa k (hI.map (c_ true e)):=fun hI k hk row aJ=>by
    obtain⟨y,_,rfl⟩:=List.mem_map.1 aJ
    refine⟨by rw[rJ,hk],fun a a6=>List.all_eq_true.1 (P8 (fr:=true) hc.2 y) a a6⟩
   have eO: ∀{my},il P t=some my→oz P t=P.bytesOf my:=fun h=>by unfold oz;rw[h]
   split at h
   ·split at h
    ·rename_i full ZJ
     obtain⟨h1,h2,da,aS,h⟩:=h
     obtain⟨my,z,q1,q2,q3,q4,cx⟩:=GD h1
     refine⟨rfl,rfl,dG q1 (dG q2 ?_)⟩
     rw[if_pos q3]
     show _∧_
     have hx:hR fr (List.map (c_ false e) ys)=ys.map (c_ true e):=LO hc.1 ys
     rw[hx]
     refine⟨ek ys _ q4,rfl,(fun row h=>by cases h),?_,?_,(fun h=>absurd rfl h),?_⟩
     ·rw[List.length_map,←eO q1];simpa using aS.1
     ·rw[List.length_map];simpa using aS.2
     ·have:=hK _ _ Z h (qo aQ) (qn aC)
      rw[xz da,h2] at this
      rw[zC da,←q4,List.length_map]
      simp only[List.length_nil,Nat.zero_add,List.nil_append]
      exact this
    ·exact h.elim
   ·rename_i b g m ei
    obtain⟨dI,xs,ft,hm,h,hb,aV⟩:=vr (n:=cf.n) h
    split at h
    ·rename_i he
     subst he
     obtain⟨h1,h2,aS,bt,rP⟩:=h
     subst h1
     obtain⟨my,z,q1,q2,q3,q4,cx⟩:=GD h2
     refine⟨rfl,rfl,dG q1 (dG q2 ?_)⟩
     rw[if_pos q3]
     show _∧_
     have hx:hR fr (List.map (c_ false e) ys)=ys.map (c_ true e):=LO hc.1 ys
     rw[hx]
     refine⟨ek ys _ q4,rfl,dG aV ⟨rfl,q4,by rw[List.length_map];exact hm,?_,?_,?_⟩⟩
     ·rw[List.length_map,←hm,←eO q1];exact bt.1
     ·rw[List.length_map,←hm];exact bt.2
     ·have:=hK _ _ Z rP (qo aQ) (qn aC)
      rw[xA hb,aS] at this
      rw[←q4,List.length_map,←hm,←List.map_append,←List.length_append]
      exact this
    ·exact h.elim
   ·exact h.elim
 ·exact h.elim
theorem Bl (aC:cf.n≤1000000) (aQ:Fits s) {o:Oper} {v:TV} {l:List (Nat×TV)} {vs:List (Nat×Nat)} (hK:s6 cf s R K Kp) (h:(vC cf s o v l vs K).den R):jh P [] o (cc (s.aD cf.n).T) (s.aD cf.n).L (s.aD cf.n).H Kp:=by
 unfold vC at h
 split at h
 ·rename_i hb
  obtain⟨e,h⟩:=h
  rw[kb,show(fun x=>(cv cf.n s x).bz)=(fun x=>(cv cf.n s x).bz) from rfl]
  have e:=congrFun (congrFun e (s.aD cf.n).H) Kp
  have e:jh P [] o (fun x=>(cv cf.n s x).bz) (s.aD cf.n).L (s.aD cf.n).H Kp=_:=e
  rw[e]
  have:=hK _ _ Z h (xm hb aQ) (xl aC hb)
  rw[xk hb] at this;exact this
 ·exact h.elim
end
end Go.Proofs.Ytglpfccgmfhkdaa.Fw
/- The machine, part Ew: writes into a frame's ways. -/
set_option linter.unusedVariables false
namespace Go.Proofs.Ytglpfccgmfhkdaa.Fw
open Go
def CZ:TV→Bool
 | .kn _ _ _=>true
 | _=>false
theorem OY {Z Z':FZ} {v:TV} (h:CZ v=false): @TV.dC Z' v= @TV.dC Z v:=by cases v<;>first | rfl | cases h
def wx (s:TS) (b:Nat):Nat→Bool
 | 0=>true
 | k+1=>(Nat.beq k b || !CZ (s.get (bY k)))&&wx s b k
theorem K6 {s:TS} {b:Nat}: ∀{n:Nat},wx s b n=true→ ∀k,k<n→k≠b→CZ (s.get (bY k))=false
 | 0,_,k,h,_=>by omega
 | n+1,h,k,hk,cO=>by
  simp only[wx,Bool.and_eq_true,Bool.or_eq_true,Bool.not_eq_true'] at h
  rcases Nat.lt_or_ge k n with q | q
  ·exact K6 h.2 k q cO
  ·have:k=n:=by omega
   subst this
   rcases h.1 with e | e
   ·exact absurd (Nat.eq_of_beq_eq_true e) cO
   ·exact e
theorem Zf {Z Z':FZ} {n:Nat} {s s':TS} {b g m:Nat} {ids:List Nat} {V Gs:List aa} {S_:List Nat} {bK K0:Nat} {hv:V.length=bK} {jp:Gs.length=K0} (hb:b<s.bB) (tN:s'.bB=s.bB) (he: ∀k,k≠b→s'.get (bY k)=s.get (bY k)) (aO:s'.get (bY b)= .kn g m ids) (hw:wx s b s.bB=true)
  (h1:s.get dE= .gm V S_ bK hv) (h2:s'.get dE= .gm Gs ids K0 jp):(@TS.aD Z' n s').H=(@TS.gi Z s).set b ⟨g,5,aT m Z'.ws ids⟩++List.map bc Z'.bs:=by
 rw[px h2]
 congr 1
 apply List.ext_getElem?
 intro i
 rw[@qa Z' s' i,List.getElem?_set,@qa Z s i,@l1 Z s,tN]
 by_cases hi:b=i
 ·subst hi;rw[if_pos hb,if_pos rfl,if_pos hb,aO];rfl
 ·rw[if_neg hi,he i (fun e=>hi e.symm)]
  by_cases h:i<s.bB
  ·rw[if_pos h,if_pos h,OY (Z:=Z) (K6 hw i h (fun e=>hi e.symm))]
  ·rw[if_neg h,if_neg h]
theorem wY {n:Nat} {s:TS} {l:List (Nat×TV)} (aC:n≤1000000) (h: ∀p∈l,1000000≤p.1):(s.add l s.vs s.bB).tT n=s.tT n:=by
 show(List.range n).map _=(List.range n).map _
 refine List.map_congr_left fun t bu=> ?_
 have bu:t<n:=List.mem_range.1 bu
 rw[TS.hY,sk fun v hv=>by have:=h _ hv;simp only at this;omega]
def Eu (c:Nat) (v:TV) (h:aa) (K:aa→aU):aU:=match v with
 | .i k x=>if k= .i64 then(match c with
  | 0=>K {h with state:=x}
  | 1=>K {h with gone:=x}
  | 4=>K {h with timer:=x}
  | _=> .no) else .no
 | .b x=>(match c with
  | 3=>K {h with shown:=x.den}
  | _=> .no)
 | _=> .no
theorem L_ {c:Nat} {v:TV} {w:aa} {b:List Bool} {K:aa→aU} {R:Exit→TS→Prop} (h:(Eu c v {w with been:=b} K).den R):
  ∃x:aa,x.been=w.been∧(K {x with been:=b}).den R∧(∀m id,eK (jj m w id) c (eD v.bz)=jj m x id)∧c+(eD v.bz).length≤5:=by
 unfold Eu at h
 split at h
 ·rename_i k x
  split at h
  ·rename_i hk
   subst hk
   split at h
   ·exact⟨{w with state:=x},rfl,h,fun m id=>rfl,(show(0+1:Nat)≤5 by decide)⟩
   ·exact⟨{w with gone:=x},rfl,h,fun m id=>rfl,(show(1+1:Nat)≤5 by decide)⟩
   ·exact⟨{w with timer:=x},rfl,h,fun m id=>rfl,(show(4+1:Nat)≤5 by decide)⟩
   ·exact h.elim
  ·exact h.elim
 ·rename_i x
  split at h
  ·exact⟨{w with shown:=x.den},rfl,h,fun m id=>rfl,(show(3+1:Nat)≤5 by decide)⟩
  ·exact h.elim
 ·exact h.elim
theorem fL.U0 {ws:List aa} {ids:List Nat} {bs:List (List Bool)} (G:fL ws ids bs) {i id:Nat} {x:aa} (hi:i<ws.length) (h1:id<bs.length) (h2:bs.getD id []=x.been) (aS: ∀j:Nat,ids[j]?≠some id):
  fL (ws.set i x) (ids.set i id) bs∧view (ws.set i x) (ids.set i id) bs=(view ws ids bs).set i x:=by
 have aI:=G.ok.len
 refine⟨⟨⟨by rw[List.length_set,List.length_set];exact aI,fun j k hk=> ?_,fun j k h a6 hk=> ?_⟩,fun a b k a6 hb=> ?_,G.len⟩,?_⟩
 ·rw[List.getElem?_set] at hk
  split at hk
  ·split at hk
   ·cases hk;exact h1
   ·cases hk
  ·exact G.ok.lt j k hk
 ·rw[List.getElem?_set] at a6 hk
  split at a6
  ·rename_i e;subst e
   rw[if_pos rfl,if_pos (by omega)] at hk
   cases a6;cases hk;rw[h2]
  ·rename_i e
   rw[if_neg e] at hk
   exact G.ok.been j k h a6 hk
 ·rw[List.getElem?_set] at a6 hb
  split at a6
  ·split at a6
   ·cases a6
    split at hb
    ·rename_i bF _ e2;omega
    ·exact absurd hb (aS b)
   ·cases a6
  ·split at hb
   ·split at hb
    ·cases hb;exact absurd a6 (aS a)
    ·cases hb
   ·exact G.jR a b k a6 hb
 ·apply List.ext_getElem?
  intro j
  unfold view
  rw[List.getElem?_zipWith,List.getElem?_set,List.getElem?_set,List.getElem?_set,List.getElem?_zipWith,List.length_zipWith]
  by_cases e:i=j
  ·subst e
   rw[if_pos rfl,if_pos rfl,if_pos rfl,if_pos hi,if_pos (by omega),if_pos (by omega)]
   show some ({x with been:=bs.getD id []}:aa)=some x
   rw[h2]
  ·rw[if_neg e,if_neg e,if_neg e]
theorem fL.snoc {ws:List aa} {ids:List Nat} {bs:List (List Bool)} (G:fL ws ids bs) {xs:List Bool} (hx:xs.length≤1048576):fL ws ids (bs++[xs])∧view ws ids (bs++[xs])=view ws ids bs:=by
 have aO: ∀id,id<bs.length→(bs++[xs]).getD id []=bs.getD id []:=fun id h=>by
  rw[List.getD_eq_getElem?_getD,List.getD_eq_getElem?_getD,List.getElem?_append_left h]
 refine⟨⟨⟨G.ok.len,fun i id h=>by have:=G.ok.lt i id h;rw[List.length_append];omega,fun i id h h1 h2=>by rw[aO id (G.ok.lt i id h2)];exact G.ok.been i id h h1 h2⟩,G.jR,fun b hb=> ?_⟩,?_⟩
 ·rcases List.mem_append.1 hb with hb | hb
  ·exact G.len b hb
  ·rw[List.mem_singleton.1 hb];exact hx
 ·apply List.ext_getElem?
  intro j
  unfold view
  rw[List.getElem?_zipWith,List.getElem?_zipWith]
  cases h1:ws[j]? with
  | none=>rfl
  | some w=>
   cases h2:ids[j]? with
   | none=>rfl
   | some id=>simp only[aO id (G.ok.lt j id h2)]
def FT (P:Program) (t:TypeId) (b g:Nat) (i:Int) (c:Nat) (v:TV) (s:TS) (dy ir:Nat) (ids:List Nat) (K:TS→aU):aU:=match s.get dE with
 | .gm V cX bK hv=> .eq dy g (.eq cX ids (.eq (Nat.blt b s.bB&&wx s b s.bB&&sP P t v.bz) true (match v with
  | .agg l=>(match l with
   | [.i eo aD,.i hD go,.wv id m k,.b jy,.i n7 nB]=>(match s.get fs with
    | .new fO xs=>
     let s':=s.add [(dE,.gm (V.set i.toNat (aa.mk aD go xs jy.den nB)) (ids.set i.toNat id) bK ((List.length_set ..).trans hv)),(bY b,.kn g ir (ids.set i.toNat id)),(fs,.u)] s.vs s.bB
     .eq c 0 (.eq (eo,hD,n7) (IntKind.i64,IntKind.i64,IntKind.i64) (.eq fO id (.eq m ir (.eq k xs.length (.eq s'.cy s.cy (.p (i.toNat<V.length) (K s')))))))
    | _=> .no)
   | _=> .no)
  | v=>Eu c v (nth V i) fun y=>
   let s':=s.add [(dE,.gm (V.set i.toNat y) ids bK ((List.length_set ..).trans hv))] s.vs s.bB
   .eq s'.cy s.cy (.p (i.toNat<V.length) (K s')))))
 | _=> .no
section
variable [Z:FZ] {P:Program} {cf:gO P} {s:TS} {R:Exit→TS→Prop}
theorem Y3 (aC:cf.n≤1000000) {t:TypeId} {b g c dy ir:Nat} {ids:List Nat} {i:Int} {v:TV} {K:TS→aU} {Kp:List (Nat×List AV)→List Blk→Prop} (aQ:Fits s) (aO:s.get (bY b)= .kn dy ir ids)
  (hK: ∀s' (Z':FZ),(K s').den R→ @Fits Z' s'→s'.tT cf.n=s.tT cf.n→Kp s'.cy (@TS.aD Z' cf.n s').H) (h:(FT P t b g i c v s dy ir ids K).den R):
  lf P t (.ptr b g i.toNat c) v.bz (s.aD cf.n).L (s.aD cf.n).H Kp:=by
 unfold FT at h
 split at h
 ·rename_i V cX bK jM hk
  obtain⟨h1,h2,aS,h⟩:=h
  subst h1;subst h2
  simp only[Bool.and_eq_true] at aS
  obtain⟨⟨hb,hw⟩,bd⟩:=aS
  have hb:b<s.bB:=by rw[←Nat.blt_eq];exact hb
  obtain⟨G,e,gY⟩:=aQ V cX _ _ hk
  have hs:=zA bd
  have n1:=ii G.ok
  rw[e] at n1
  have aV:(s.aD cf.n).H[b]?=some ⟨dy,5,aT ir Z.ws cX⟩:=by rw[p9 hb,aO];rfl
  have RH:(s.aD cf.n).H=s.gi++List.map bc Z.bs:=px hk
  unfold lf
  rw[if_pos hs]
  have fin: ∀{s':TS} {ws2:List aa} {ids2:List Nat} {V2:List aa} {n2:Nat} {hv2:V2.length=n2} {cells row':List AV},i.toNat<V.length→c+cells.length≤5→eK (jj ir (nth Z.ws i) (nth cX i)) c cells=row'→(aT ir Z.ws cX).set i.toNat row'=aT ir ws2 ids2→s'.bB=s.bB→(∀k,k≠b→s'.get (bY k)=s.get (bY k))→s'.get (bY b)= .kn dy ir ids2→s'.get dE= .gm V2 ids2 n2 hv2→
    s'.cy=s.cy→(K s').den R→ @Fits ⟨ws2,Z.bs⟩ s'→s'.tT cf.n=s.tT cf.n→(cJ (s.aD cf.n).H[b]? fun blk=>blk.bI=dy∧cJ blk.rows[i.toNat]? fun row=>c+cells.length≤row.length∧Kp (s.aD cf.n).L ((s.aD cf.n).H.set b {blk with rows:=blk.rows.set i.toNat (eK row c cells)})):=by
   intro s' ws2 ids2 V2 n2 hv2 cells row' hi hc tV j8 tN k4 mU Sg bT RJ hf cs
   refine dG aV ⟨rfl,dG (dq G.ok.len (by omega)) ⟨hc,?_⟩⟩
   have:=hK s' ⟨ws2,Z.bs⟩ RJ hf cs
   rw[bT,Zf (Z:=Z) (Z':=⟨ws2,Z.bs⟩) hb tN k4 mU hw hk Sg] at this
   rw[RH,List.set_append_left _ _ (by rw[l1];exact hb),tV]
   show Kp s.cy (s.gi.set b ⟨dy,5,(aT ir Z.ws cX).set i.toNat row'⟩++_)
   rw[j8];exact this
  split at h
  ·split at h
   ·rename_i eo aD hD go id m k jy n7 nB
    split at h
    ·rename_i fO xs tO
     obtain⟨h1,h2,bt,cb,cE,gp,pB,h⟩:=h
     subst h1;subst bt;subst cb;subst cE
     cases h2
     obtain⟨mY,n2,n9⟩:=gY _ _ tO
     obtain⟨mC,dI⟩:=G.U0 (i:=i.toNat) (id:=fO) (x:=aa.mk aD go xs jy.den nB) (by omega) mY n2 n9
     refine fin (s':=s.add [(dE,.gm (V.set i.toNat (aa.mk aD go xs jy.den nB)) (cX.set i.toNat fO) bK ((List.length_set ..).trans jM)),(bY b,.kn dy m (cX.set i.toNat fO)),(fs,.u)] s.vs s.bB) (ws2:=Z.ws.set i.toNat (aa.mk aD go xs jy.den nB)) (V2:=V.set i.toNat (aa.mk aD go xs jy.den nB)) (n2:=bK) (hv2:=(List.length_set ..).trans jM) (ids2:=cX.set i.toNat fO) (row':=jj m (aa.mk aD go xs jy.den nB) fO) pB (Nat.le_refl 5) ?_ (tD G.ok.len) rfl (fun k hk=> ?_) ?_ ?_ gp h ?_ (wY aC ?_)
     ·rfl
     ·rw[TS.hY,gJ,if_neg (by unfold dE bY;omega),gJ,if_neg (by unfold bY;omega),gJ,if_neg (by unfold fs bY;omega)];rfl
     ·rw[TS.hY,gJ,if_neg (by unfold dE bY;omega),gJ,if_pos rfl]
     ·rw[TS.hY,gJ,if_pos rfl]
     ·intro V3 yJ n9 yw aS
      rw[TS.hY,gJ,if_pos rfl] at aS
      cases aS
      refine⟨mC,by rw[←e];exact dI,fun id xs hx=> ?_⟩
      rw[TS.hY,gJ,if_neg (by unfold dE fs;omega),gJ,if_neg (by unfold bY fs;omega),gJ,if_pos rfl] at hx
      cases hx
     ·intro p aF
      simp only[List.mem_cons,List.not_mem_nil,or_false] at aF
      rcases aF with rfl | rfl | rfl
      ·exact Nat.le_refl _
      ·show 1000000≤bY b;unfold bY;omega
      ·show 1000000≤fs;unfold fs;omega
    ·exact h.elim
   ·exact h.elim
  ·have ZT:i.toNat<V.length∨ ¬i.toNat<V.length:=by omega
   by_cases hi:i.toNat<V.length
   ·have hv:=zM G.ok (i:=i) (by rw[e];exact hi)
    rw[e] at hv
    rw[hv] at h
    obtain⟨x,aL,h,bQ,Gf⟩:=L_ h
    obtain⟨gp,pB,h⟩:=h
    have F:=(G.pq (j:=i) (by omega)).pd x (by rw[aL];have:=(G.pq (j:=i) (by omega)).ow;exact this)
    have jK:(nth (view Z.ws cX Z.bs) i).been=Z.bs.getD (nth cX i) []:=by rw[e,hv]
    rw[jK,e] at F
    refine fin (s':=s.add [(dE,.gm (V.set i.toNat {x with been:=Z.bs.getD (nth cX i) []}) cX bK ((List.length_set ..).trans jM))] s.vs s.bB) (ws2:=Z.ws.set i.toNat x) (ids2:=cX) (V2:=V.set i.toNat {x with been:=Z.bs.getD (nth cX i) []}) (n2:=bK) (hv2:=(List.length_set ..).trans jM) pB Gf (bQ ir (nth cX i)) (jk G.ok.len (by omega)) rfl (fun k hk=> ?_) ?_ ?_ gp h ?_ (wY aC ?_)
    ·rw[TS.hY,gJ,if_neg (by unfold dE bY;omega)];rfl
    ·rw[TS.hY,gJ,if_neg (by unfold dE bY;omega)];exact aO
    ·rw[TS.hY,gJ,if_pos rfl]
    ·intro V3 yJ n9 yw aS
     rw[TS.hY,gJ,if_pos rfl] at aS
     cases aS
     refine⟨F.G,F.gN,fun id xs hx=> ?_⟩
     rw[TS.hY,gJ,if_neg (by unfold dE fs;omega)] at hx
     exact gY id xs hx
    ·intro p aF
     rw[List.mem_singleton.1 aF];exact Nat.le_refl _
   ·obtain⟨x,aL,h,_⟩:=L_ (w:=nth V i) (b:=(nth V i).been) h
    exact absurd h.2.1 hi
 ·exact h.elim
def w1 (P:Program) (t:TypeId) (w:Int) (ids:List Nat) (m:Nat) (j:Int) (v:TV) (s:TS) (K:TS→aU):aU:=match s.get dE with
 | .gm V cX bK hv=> .eq cX ids (.eq m s.bB (.eq (sP P t v.bz) true (match v with
  | .b x=>
   let s':=s.add [(dE,.gm (V.set w.toNat {nth V w with been:=(nth V w).been.set j.toNat x.den}) ids bK ((List.length_set ..).trans hv))] s.vs s.bB
   .eq s'.cy s.cy (.p (w.toNat<V.length∧j.toNat<(nth V w).been.length) (K s'))
  | _=> .no)))
 | _=> .no
theorem YZ (aC:cf.n≤1000000) {t:TypeId} {m:Nat} {ids:List Nat} {w j:Int} {v:TV} {K:TS→aU} {Kp:List (Nat×List AV)→List Blk→Prop} (aQ:Fits s)
  (hK: ∀s' (Z':FZ),(K s').den R→ @Fits Z' s'→s'.tT cf.n=s.tT cf.n→Kp s'.cy (@TS.aD Z' cf.n s').H) (h:(w1 P t w ids m j v s K).den R):
  lf P t (.ptr (nth ids w+m) 0 j.toNat 0) v.bz (s.aD cf.n).L (s.aD cf.n).H Kp:=by
 unfold w1 at h
 split at h
 ·rename_i V cX bK jM hk
  obtain⟨h1,h2,aS,h⟩:=h
  subst h1;subst h2
  have hs:=zA aS
  unfold lf
  rw[if_pos hs]
  split at h
  ·rename_i x
   obtain⟨bt,cb,h⟩:=h
   obtain⟨G,e,gY⟩:=aQ V cX _ _ hk
   have n1:=ii G.ok
   rw[e] at n1
   have hv:=zM G.ok (i:=w) (by rw[e];exact cb.1)
   rw[e] at hv
   have dh:=G.pq (j:=w) (by omega)
   have F:=dh.Et ((nth V w).been.set j.toNat x.den) (by rw[List.length_set,e])
   rw[e] at F
   have gf:=G.ok.lt w.toNat _ (gv (xs:=cX) (i:=w) (by have:=G.ok.len;omega))
   refine dG (A7 aQ hk cb.1) ⟨rfl,dG (vt cb.2) ⟨Nat.le_refl 1,?_⟩⟩
   have cs:=wY (n:=cf.n) (s:=s) (l:=[(dE,TV.gm (V.set w.toNat {nth V w with been:=(nth V w).been.set j.toNat x.den}) cX bK ((List.length_set ..).trans jM))]) aC (fun p aF=>by rw[List.mem_singleton.1 aF];exact Nat.le_refl _)
   have mS: @Fits ⟨Z.ws,Z.bs.set (nth cX w) ((nth V w).been.set j.toNat x.den)⟩ (s.add [(dE,TV.gm (V.set w.toNat {nth V w with been:=(nth V w).been.set j.toNat x.den}) cX bK ((List.length_set ..).trans jM))] s.vs s.bB):=by
    intro V3 yJ n9 yw aS
    rw[TS.hY,gJ,if_pos rfl] at aS
    cases aS
    refine⟨F.G,F.gN,fun id xs hx=> ?_⟩
    rw[TS.hY,gJ,if_neg (by unfold dE fs;omega)] at hx
    obtain⟨mY,n2,n9⟩:=gY id xs hx
    refine⟨by show id<(Z.bs.set (nth cX w) ((nth V w).been.set j.toNat x.den)).length;rw[List.length_set];exact mY,?_,n9⟩
    show(Z.bs.set (nth cX w) ((nth V w).been.set j.toNat x.den)).getD id []=xs
    have cO:nth cX w≠id:=fun q=>n9 w.toNat (by rw[gv (xs:=cX) (i:=w) (by have:=G.ok.len;omega),q])
    rw[List.getD_eq_getElem?_getD,List.getElem?_set,if_neg cO,←List.getD_eq_getElem?_getD];exact n2
   have:=hK _ ⟨Z.ws,Z.bs.set (nth cX w) ((nth V w).been.set j.toNat x.den)⟩ h mS cs
   rw[bt] at this
   have yd:(s.aD cf.n).H=s.gi++List.map bc Z.bs:=px hk
   have mQ: ∀Z':FZ,Z'.ws=Z.ws→ @TS.gi Z' (s.add [(dE,TV.gm (V.set w.toNat {nth V w with been:=(nth V w).been.set j.toNat x.den}) cX bK ((List.length_set ..).trans jM))] s.vs s.bB)= @TS.gi Z s:=fun Z' hw=>by
    show(List.range s.bB).map _=(List.range s.bB).map _
    refine List.map_congr_left fun b _=> ?_
    rw[TS.hY,gJ,if_neg (by unfold dE bY;omega)]
    show @TV.dC Z' (s.get (bY b))= @TV.dC Z (s.get (bY b))
    cases s.get (bY b)<;>first | rfl | (simp only[TV.dC,hw])
   have Bo:= @px ⟨Z.ws,Z.bs.set (nth cX w) ((nth V w).been.set j.toNat x.den)⟩ cf.n (s.add [(dE,TV.gm (V.set w.toNat {nth V w with been:=(nth V w).been.set j.toNat x.den}) cX bK ((List.length_set ..).trans jM))] s.vs s.bB) (V.set w.toNat {nth V w with been:=(nth V w).been.set j.toNat x.den}) cX bK ((List.length_set ..).trans jM) (by rw[TS.hY,gJ,if_pos rfl])
   rw[Bo,mQ ⟨Z.ws,Z.bs.set (nth cX w) ((nth V w).been.set j.toNat x.den)⟩ rfl] at this
   rw[yd,List.set_append_right _ _ (by rw[l1];omega),l1,Nat.add_sub_cancel]
   have hy:({bc (nth V w).been with rows:=(bc (nth V w).been).rows.set j.toNat (eK (aH (nth (nth V w).been j)) 0 (eD (TV.b x).bz))}:Blk)=bc ((nth V w).been.set j.toNat x.den):=by
    show(⟨0,1,(List.map aH (nth V w).been).set j.toNat (aH x.den)⟩:Blk)=⟨0,1,_⟩
    rw[Ac]
   show Kp s.cy (s.gi++(List.map bc Z.bs).set (nth cX w) {bc (nth V w).been with rows:=(bc (nth V w).been).rows.set j.toNat (eK (aH (nth (nth V w).been j)) 0 (eD (TV.b x).bz))})
   rw[hy,A8]
   exact this
  ·exact h.elim
 ·exact h.elim
def DH (P:Program) (t:TypeId) (l c:TV) (s:TS) (K:TV→TS→aU):aU:=match l with
 | .i _ l=>(match c with
  | .i _ c=>(match s.get dE with
   | .gm V ids _ _=> .all Nat fun id=>
    let s':=s.add [(fs,.new id (List.replicate l.toNat false))] s.vs s.bB
    .eq (yV P t) (some ([AV.bool false],oz P t)) (.eq l c (.eq s'.cy s.cy (.p (0≤l∧(oz P t:Int)*l≤140737488355328∧l≤1048576) (K (.wv id s.bB (List.replicate l.toNat false).length) s'))))
   | _=> .no)
  | _=> .no)
 | _=> .no
theorem Vy (aC:cf.n≤1000000) (aQ:Fits s) {t:TypeId} {l c:TV} {K:TV→TS→aU} {Kp:AV→List (Nat×List AV)→List Blk→Prop} (hK:s6 cf s R K Kp) (h:(DH P t l c s K).den R):um P t l.bz c.bz (s.aD cf.n).L (s.aD cf.n).H Kp:=by
 unfold DH at h
 split at h
 ·split at h
  ·split at h
   ·rename_i yT uh l nc UE c aad V ids bK jM hk
    obtain⟨h1,h2,aS,bt,bV⟩:=h Z.bs.length
    subst h2
    obtain⟨my,z,q1,q2,q3,q4,cx,cT⟩:=KL h1
    refine dG q1 (dG q2 ?_)
    rw[if_pos ⟨q3,q4⟩]
    refine⟨bt.1,Int.le_refl _,by rw[←cT];exact bt.2.1,by have:=bt.2.2;omega,?_⟩
    obtain⟨G,e,gY⟩:=aQ V ids _ _ hk
    have oQ:(List.replicate l.toNat false).length≤1048576:=by rw[List.length_replicate];have:=bt.2.2;omega
    obtain⟨mC,dI⟩:=G.snoc oQ
    have cs:=wY (n:=cf.n) (s:=s) (l:=[(fs,TV.new Z.bs.length (List.replicate l.toNat false))]) aC (fun p aF=>by rw[List.mem_singleton.1 aF];show 1000000≤fs;unfold fs;omega)
    have ID:(s.add [(fs,TV.new Z.bs.length (List.replicate l.toNat false))] s.vs s.bB).get dE= .gm V ids bK jM:=by rw[TS.hY,gJ,if_neg (by unfold dE fs;omega)];exact hk
    have mS: @Fits ⟨Z.ws,Z.bs++[List.replicate l.toNat false]⟩ (s.add [(fs,TV.new Z.bs.length (List.replicate l.toNat false))] s.vs s.bB):=by
     intro V3 yJ n9 yw aS
     rw[ID] at aS
     cases aS
     refine⟨mC,dI.trans e,fun id xs hx=> ?_⟩
     rw[TS.hY,gJ,if_pos rfl] at hx
     cases hx
     refine⟨by show Z.bs.length<(Z.bs++[List.replicate l.toNat false]).length;rw[List.length_append];simp,by show(Z.bs++[List.replicate l.toNat false]).getD Z.bs.length []=_;rw[List.getD_eq_getElem?_getD,List.getElem?_append_right (Nat.le_refl _)];simp,fun j aP=> ?_⟩
     have:=G.ok.lt j _ aP;omega
    have:=hK _ _ ⟨Z.ws,Z.bs++[List.replicate l.toNat false]⟩ bV mS cs
    rw[aS] at this
    have yd:(s.aD cf.n).H=s.gi++List.map bc Z.bs:=px hk
    have Bo:= @px ⟨Z.ws,Z.bs++[List.replicate l.toNat false]⟩ cf.n _ V ids bK jM ID
    have mQ: @TS.gi ⟨Z.ws,Z.bs++[List.replicate l.toNat false]⟩ (s.add [(fs,TV.new Z.bs.length (List.replicate l.toNat false))] s.vs s.bB)= @TS.gi Z s:=by
     show(List.range s.bB).map _=(List.range s.bB).map _
     refine List.map_congr_left fun b _=> ?_
     rw[TS.hY,gJ,if_neg (by unfold fs bY;omega)]
     show @TV.dC _ (s.get (bY b))= @TV.dC Z (s.get (bY b))
     cases s.get (bY b)<;>rfl
    rw[Bo,mQ] at this
    have hlen:(s.aD cf.n).H.length=Z.bs.length+s.bB:=by rw[yd,List.length_append,l1,List.length_map];omega
    have wb:z.length=1:=by have:=congrArg List.length cx;simpa using this.symm
    rw[hlen,wb,←cx,yd]
    show Kp (.ref (Z.bs.length+s.bB) 0 0 l.toNat false) s.cy (s.gi++List.map bc Z.bs++[⟨0,1,List.replicate l.toNat [AV.bool false]⟩])
    rw[show List.replicate l.toNat [AV.bool false]=List.map aH (List.replicate l.toNat false) by rw[List.map_replicate];rfl,List.append_assoc,oA]
    have P2:(List.replicate l.toNat false).length=l.toNat:=List.length_replicate
    rw[P2] at this
    exact this
   ·exact h.elim
  ·exact h.elim
 ·exact h.elim
def NM (P:Program) (t:TypeId) (b g:Nat) (i:Int) (c:Nat) (v:TV) (s:TS) (dy:Nat) (ba:List TV) (K:TS→aU):aU:=
 let dl:=ba.take c++ox v++ba.drop (c+(ox v).length)
 let s':=s.hq b s.bB (.i_ g dl)
 .eq dy g (.eq i 0 (.eq (Nat.blt b s.bB&&uv v&&sP P t v.bz&&Nat.ble (c+(eD v.bz).length) ba.length) true (.eq (eK (dd ba) c (eD v.bz)) (dd dl) (.eq dl.length ba.length (.eq s'.cy s.cy (K s'))))))
theorem Y2 (aC:cf.n≤1000000) {t:TypeId} {b g c dy:Nat} {ba:List TV} {i:Int} {v:TV} {K:TS→aU} {Kp:List (Nat×List AV)→List Blk→Prop} (aQ:Fits s) (aO:s.get (bY b)= .i_ dy ba)
  (hK: ∀s' (Z':FZ),(K s').den R→ @Fits Z' s'→s'.tT cf.n=s.tT cf.n→Kp s'.cy (@TS.aD Z' cf.n s').H) (h:(NM P t b g i c v s dy ba K).den R):
  lf P t (.ptr b g i.toNat c) v.bz (s.aD cf.n).L (s.aD cf.n).H Kp:=by
 obtain⟨h1,h2,aS,bt,cb,cE,h⟩:=h
 subst h1;subst h2
 simp only[Bool.and_eq_true] at aS
 obtain⟨⟨⟨hb,_⟩,bd⟩,hle⟩:=aS
 have hb:b<s.bB:=by rw[←Nat.blt_eq];exact hb
 have hs:=zA bd
 unfold lf
 rw[if_pos hs]
 refine dG (by rw[p9 hb,aO]) ⟨rfl,dG (a:=dd ba) rfl ⟨by rw[nH,List.length_map];exact Nat.le_of_ble_eq_true hle,?_⟩⟩
 have:=hK _ Z h (qo aQ) (qn aC)
 rw[xA hb,cE] at this
 show Kp s.cy ((s.aD cf.n).H.set b ⟨dy,ba.length,[eK (dd ba) c (eD v.bz)]⟩)
 rw[bt,←cb]
 exact this
end
end Go.Proofs.Ytglpfccgmfhkdaa.Fw
/- The machine, part Ef: a frame in the memory; calls that write into it. -/
set_option linter.unusedVariables false
namespace Go.Proofs.Ytglpfccgmfhkdaa.Fw
open Go
inductive mD where
 | v (e:bN)
 | fr
 | w
def mD.es:List mD→List bN
 | []=>[]
 | .v e::r=>e::mD.es r
 | .fr::r=>mD.es r
 | .w::r=> .int::mD.es r
def vw (aO:Nat):(l:List mD)→dr (mD.es l)→List AV
 | [],_=>[]
 | .v e::r,x=>mJ e x.1::vw aO r x.2
 | .fr::r,x=> .ptr 0 aO 0 0::vw aO r x
 | .w::r,x=> .ptr 3 0 (show Int from x.1).toNat 0::vw aO r x.2
def zs (F:Frame):List TV:=[.b (.v F.ok),.ref 1 0 F.al.length false,.ref 2 0 F.ak.length false,.ref 3 0 F.ways.length false]
def Bd [Z:FZ] (aO:Nat) (ids:List Nat) (F:Frame):List Blk:=
 [⟨aO,4,[dd (zs F)]⟩,⟨0,1,F.al.map (c_ true .bool)⟩,⟨0,2,F.ak.map (c_ true .g6)⟩,⟨0,5,aT 4 Z.ws ids⟩]++Z.bs.map bc
def zY [Z:FZ] (ids:List Nat) (F:Frame):Prop:=fL Z.ws ids Z.bs∧view Z.ws ids Z.bs=F.ways
def Ov (P:Program) (f:FuncId) (aO:Nat) (args:List AV) (F:Frame) (Gp:Frame) (v:AV):Prop:=
 ∀(Z:FZ) (ids:List Nat),@zY Z ids F→dj P f args (@Bd Z aO ids F) fun r H'=>r=v∧ ∃(Z':FZ) (cX:List Nat),@zY Z' cX Gp∧H'= @Bd Z' aO cX Gp
def ul (aO:Nat) (ids:List Nat) (F:Frame):List (Nat×TV):=
 [(bY 0,.i_ aO (zs F)),(bY 1,.blk 0 .bool F.al F.al.length rfl),(bY 2,.blk 0 .g6 F.ak F.ak.length rfl),(bY 3,.kn 0 4 ids),(dE,.gm F.ways ids F.ways.length rfl)]
def Bc (s:TS) (K:Nat→Frame→List Nat→aU):aU:=match s.get (bY 0) with
 | .i_ g ba=>(match ba with
  | [.b k,.ref ko a3 mY f1,.ref c8 aY n2 f2,.ref pr bX n9 f3]=>(match s.get (bY 1) with
   | .blk h1 bF o aX _=>if q1:bF=bN.bool then(match s.get (bY 2) with
    | .blk h2 e2 q bE _=>if q2:e2=bN.g6 then(match s.get (bY 3) with
     | .kn aS ir ids=>(match s.get dE with
      | .gm V cX bK _=> .eq s.bB 4 (.eq (ko,a3,mY,f1) (1,0,aX,false) (.eq (c8,aY,n2,f2) (2,0,bE,false) (.eq (pr,bX,n9,f3) (3,0,bK,false) (.eq (h1,h2,aS,ir) (0,0,0,4)
       (.eq cX ids (K g ⟨k.den,lm q1 o,lm q2 q,V⟩ ids))))))
      | _=> .no)
     | _=> .no) else .no
    | _=> .no) else .no
   | _=> .no)
  | _=> .no)
 | _=> .no
theorem Q6 [Z:FZ] {n:Nat} {s:TS} {K:Nat→Frame→List Nat→aU} {R:Exit→TS→Prop} (aQ:Fits s) (h:(Bc s K).den R): ∃g F ids,(K g F ids).den R∧zY ids F∧(s.aD n).H=Bd g ids F∧s.bB=4∧s.get dE= .gm F.ways ids F.ways.length rfl:=by
 unfold Bc at h
 split at h
 ·rename_i g ba pH
  split at h
  ·split at h
   ·rename_i h1 bF o aX Sn k3
    split at h
    ·rename_i q1
     subst q1
     split at h
     ·rename_i h2 e2 q bE oK vP
      split at h
      ·rename_i q2
       subst q2
       split at h
       ·rename_i aS ir ids Sc
        split at h
        ·rename_i V cX bK jM hk
         obtain⟨bf,eo,hD,n7,UC,C3,h⟩:=h
         cases eo;cases hD;cases n7;cases UC;subst C3;subst Sn;subst oK;subst jM
         obtain⟨G,e,_⟩:=aQ V cX _ _ hk
         refine⟨_,_,_,h,⟨G,e⟩,?_,bf,hk⟩
         rw[px hk]
         have h0:s.gi=[(s.get (bY 0)).dC,(s.get (bY 1)).dC,(s.get (bY 2)).dC,(s.get (bY 3)).dC]:=by unfold TS.gi;rw[bf];rfl
         rw[h0,pH,k3,vP,Sc];rfl
        ·exact h.elim
       ·exact h.elim
      ·exact h.elim
     ·exact h.elim
    ·exact h.elim
   ·exact h.elim
  ·exact h.elim
 ·exact h.elim
structure qe (P:Program) where
 f:FuncId
 iv:List mD
 rs:List bN
 pre:dr (mD.es iv)→Frame→Prop
 fn:dr (mD.es iv)→Frame→Frame
 ao:dr (mD.es iv)→Frame→dr rs
 ok: ∀aO x F,pre x F→Ov P f aO (vw aO iv x) F (fn x F) (qu rs (ao x F))
def kU:(l:List mD)→List TV→dr (mD.es l)
 | [],_=>()
 | .v e::r,v::vs=>(Q9 e v,kU r vs)
 | .fr::r,_::vs=>kU r vs
 | .w::r,v::vs=>((match v with
  | .ptr _ _ i _ _=>i
  | _=>(0:Int)),kU r vs)
 | .v e::r,[]=>(e.sd.default,kU r [])
 | .fr::r,[]=>kU r []
 | .w::r,[]=>((0:Int),kU r [])
def x8 {P:Program}:List (qe P)→FuncId→(qe P→aU)→aU→aU
 | [],_,_,t=>t
 | c::r,f,K,t=>match Nat.beq c.f f with
  | true=>K c
  | false=>x8 r f K t
def An {P:Program} (c:qe P) (args:List TV) (s:TS) (K:TV→TS→aU):aU:=Bc s fun g F ids=>
 .eq (dd args) (vw g c.iv (kU c.iv args)) (.eq ((dd args).all ed&&(dd args).all jq) true (.p (c.pre (kU c.iv args) F) (.all (List Nat) fun cX=>
  let s':=s.add ((fs,.u)::ul g cX (c.fn (kU c.iv args) F)) s.vs s.bB
  .eq s'.cy s.cy (.eq (us (qu c.rs (c.ao (kU c.iv args) F))) true (K (zq c.rs (c.ao (kU c.iv args) F)) s')))))
theorem Vv (aO:Nat) (ids:List Nat) (F:Frame) (s:TS):let s':=s.add ((fs,.u)::ul aO ids F) s.vs s.bB
  s'.get (bY 0)= .i_ aO (zs F)∧s'.get (bY 1)= .blk 0 .bool F.al F.al.length rfl∧s'.get (bY 2)= .blk 0 .g6 F.ak F.ak.length rfl∧s'.get (bY 3)= .kn 0 4 ids∧s'.get dE= .gm F.ways ids F.ways.length rfl∧s'.get fs= .u:=by
 intro s'
 have a0:fs≠bY 0∧fs≠bY 1∧fs≠bY 2∧fs≠bY 3∧fs≠dE:=by unfold fs bY dE;omega
 have e: ∀k,s'.get k=hj ((fs,.u)::ul aO ids F) k (s.get k):=fun k=>TS.hY ..
 refine⟨?_,?_,?_,?_,?_,?_⟩<;>rw[e]<;>rfl
theorem Pw [Z:FZ] {P:Program} {n:Nat} (aC:n≤1000000) {c:qe P} {args:List TV} {s:TS} {K:TV→TS→aU} {R:Exit→TS→Prop} {Kp:AV→List (Nat×List AV)→List Blk→Prop} (aQ:Fits s)
  (hK: ∀v s' (Z':FZ),(K v s').den R→ @Fits Z' s'→s'.tT n=s.tT n→Kp v.bz s'.cy (@TS.aD Z' n s').H) (h:(An c args s K).den R):kq P c.f (dd args) (s.aD n).L (s.aD n).H Kp:=by
 unfold An at h
 obtain⟨g,F,ids,bV,h1,h2,aS,_⟩:=Q6 (n:=n) aQ h
 obtain⟨eo,hD,n7,hk⟩:=bV
 simp only[Bool.and_eq_true] at hD
 refine .inr (.inr (.inl ⟨hD.1,hD.2,?_⟩))
 rw[h2,eo]
 refine(c.ok g _ F n7 Z ids h1).mono fun r H' aj=> ?_
 obtain⟨rfl,Z',cX,q1,rfl⟩:=aj
 obtain⟨C3,UD,hk⟩:=hk cX
 refine⟨UD,?_⟩
 obtain⟨ay,aX,bE,cI,dO,Vr⟩:=Vv g cX (c.fn (kU c.iv args) F) s
 have mS: @Fits Z' (s.add ((fs,.u)::ul g cX (c.fn (kU c.iv args) F)) s.vs s.bB):=by
  intro V3 yJ n9 yw aS
  rw[dO] at aS
  cases aS
  refine⟨q1.1,q1.2,fun id xs hx=> ?_⟩
  rw[Vr] at hx;cases hx
 have:=hK _ _ Z' hk mS (wY aC fun p aF=>by
  simp only[ul,List.mem_cons,List.not_mem_nil,or_false] at aF
  rcases aF with rfl | rfl | rfl | rfl | rfl | rfl
  ·show 1000000≤fs;unfold fs;omega
  ·show 1000000≤bY 0;unfold bY;omega
  ·show 1000000≤bY 1;unfold bY;omega
  ·show 1000000≤bY 2;unfold bY;omega
  ·show 1000000≤bY 3;unfold bY;omega
  ·exact Nat.le_refl _)
 rw[C3,Ed,@px Z' n _ _ _ _ _ dO] at this
 have h0: @TS.gi Z' (s.add ((fs,.u)::ul g cX (c.fn (kU c.iv args) F)) s.vs s.bB)=[@TV.dC Z' (.i_ g (zs (c.fn (kU c.iv args) F))),@TV.dC Z' (.blk 0 .bool (c.fn (kU c.iv args) F).al _ rfl),@TV.dC Z' (.blk 0 .g6 (c.fn (kU c.iv args) F).ak _ rfl),@TV.dC Z' (.kn 0 4 cX)]:=by
  rw[←ay,←aX,←bE,←cI]
  show(List.range s.bB).map _=_
  rw[aS];rfl
 rw[h0] at this
 exact this
end Go.Proofs.Ytglpfccgmfhkdaa.Fw
/- The machine, part Ep: calls that are handed one struct in the memory to write into. -/
set_option linter.unusedVariables false
namespace Go.Proofs.Ytglpfccgmfhkdaa.Fw
open Go
inductive li where
 | v (e:bN)
 | p
def li.es:List li→List bN
 | []=>[]
 | .v e::r=>e::li.es r
 | .p::r=>li.es r
def xT (g:Nat):(l:List li)→dr (li.es l)→List AV
 | [],_=>[]
 | .v e::r,x=>mJ e x.1::xT g r x.2
 | .p::r,x=> .ptr 0 g 0 0::xT g r x
structure oj (P:Program) where
 f:FuncId
 ce:bN
 iv:List li
 rs:List bN
 pre:dr (li.es iv)→ce.T→Prop
 fn:dr (li.es iv)→ce.T→ce.T
 ao:dr (li.es iv)→ce.T→dr rs
 ok: ∀g x c,pre x c→rr P f g (xT g iv x) (c_ false ce c) (c_ false ce (fn x c)) (qu rs (ao x c))
def Lt:List li→List TV→TV
 | .p::_,v::_=>v
 | .v _::r,_::vs=>Lt r vs
 | _,_=> .u
def Bu:List li→Bool
 | []=>false
 | .p::_=>true
 | .v _::r=>Bu r
def Em:TS:=⟨[],[],[],0⟩
def xH (p:AV):(l:List li)→List TV→(dr (li.es l)→List Prop→aU)→aU
 | [],[],K=>K () []
 | .v e::r,v::vs,K=>conv Em e v fun x o=>xH p r vs fun y kB=>K (x,y) (o++kB)
 | .p::r,v::vs,K=> .eq v.bz p (xH p r vs K)
 | _,_,_=> .no
def VF (e:bN):Bool:=e.qW
def Au {P:Program} (c:oj P) (args:List TV) (p:AV) (cells:List TV) (K:TV→c.ce.T→aU):aU:=
 .eq (dd cells) (c_ false c.ce (c.ce.mk (qz c.ce.lu cells))) (.eq (Bu c.iv&&VF c.ce&&(dd args).all ed) true (xH p c.iv args fun x o=>
  y6 (o++[c.pre x (c.ce.mk (qz c.ce.lu cells))]) (K (zq c.rs (c.ao x (c.ce.mk (qz c.ce.lu cells)))) (c.fn x (c.ce.mk (qz c.ce.lu cells))))))
def Av {P:Program} (c:oj P) (args:List TV) (s:TS) (K:TV→TS→aU):aU:=match Lt c.iv args with
 | .ptr b g _ _ _=>(match s.get (bY b) with
  | .i_ dy cells=>(match Nat.blt b s.bB with
   | true=> .eq dy g (Au c args (.ptr b g 0 0) cells fun v y=>
     let s':=s.hq b s.bB (.i_ g (lK false c.ce y))
     .eq s'.cy s.cy (K v s'))
   | false=> .no)
  | _=> .no)
 | .lp v _=>(match kA s.vs v with
  | some m=>Au c args (.e6 v 0) (hN s v 0 m) fun w y=>
    let s':=s.add (rG v 0 (lK false c.ce y)) s.vs s.bB
    .eq s'.cy (lA s.cy v (c_ false c.ce y)) (.eq (ov (rG v 0 (lK false c.ce y))) true (K w s'))
  | none=> .no)
 | _=> .no
def x9 {P:Program}:List (oj P)→FuncId→(oj P→aU)→aU→aU
 | [],_,_,t=>t
 | c::r,f,K,t=>match Nat.beq c.f f with
  | true=>K c
  | false=>x9 r f K t
theorem HK {P:Program} {f:FuncId} {K:oj P→aU} {t:aU} {R:Exit→TS→Prop}: ∀{oh:List (oj P)},(x9 oh f K t).den R→(∃m,m.f=f∧(K m).den R)∨t.den R
 | [],h=> .inr h
 | c::r,h=>by
  unfold x9 at h
  split at h
  ·rename_i hf;exact .inl ⟨c,Nat.eq_of_beq_eq_true hf,h⟩
  ·exact HK h
theorem xS {e:bN} (h:e.qW=true) (x:e.T):(c_ false e x).all se=true∧(c_ false e x).all kV=true:=by cases e<;>first | exact⟨rfl,rfl⟩ | cases h
theorem At {p:AV} {g:Nat} {R:Exit→TS→Prop}: ∀{l:List li} {vs:List TV} {K:dr (li.es l)→List Prop→aU},(xH p l vs K).den R→ ∃x o,(K x o).den R∧((∀φ∈o,φ)→av (rp p (.ptr 0 g 0 0)) (dd vs) (xT g l x))∧(Bu l=true→p∈dd vs)
 | [],[],K,h=>⟨(),[],h,fun _=>av.nil,fun h=>by cases h⟩
 | .v e::r,v::vs,K,h=>by
  letI Z:FZ:=⟨[],[]⟩
  obtain⟨x,o,h,eo⟩:=As (n:=0) (Fits.none (s:=Em) rfl) (show(conv Em e v _).den R from h)
  obtain⟨y,kB,h,hD,n7⟩:=At (l:=r) h
  exact⟨(x,y),o++kB,h,fun ax=>av.cons (.inr (eo fun φ en=>ax φ (List.mem_append_left _ en))) (hD fun φ en=>ax φ (List.mem_append_right _ en)),fun aF=>List.mem_cons_of_mem _ (n7 aF)⟩
 | .p::r,v::vs,K,h=>by
  obtain⟨e,h⟩:=h
  obtain⟨y,kB,h,hD,n7⟩:=At (l:=r) h
  exact⟨y,kB,h,fun ax=>av.cons (.inl ⟨e,rfl⟩) (hD ax),fun _=>by rw[dd,e];exact List.mem_cons_self ..⟩
 | [],_::_,K,h=>h.elim
 | .v _::_,[],K,h=>h.elim
 | .p::_,[],K,h=>h.elim
theorem G8 {P:Program} {c:oj P} {args:List TV} {p:AV} {cells:List TV} {K:TV→c.ce.T→aU} {R:Exit→TS→Prop} (g:Nat) (h:(Au c args p cells K).den R):
  ∃dK x y t,(K t y).den R∧(dd args).all ed=true∧dd cells=c_ false c.ce x∧c.ce.qW=true∧p∈dd args∧av (rp p (.ptr 0 g 0 0)) (dd args) dK∧rr P c.f g dK (c_ false c.ce x) (c_ false c.ce y) t.bz:=by
 obtain⟨h1,h2,h⟩:=h
 simp only[Bool.and_eq_true] at h2
 obtain⟨x,o,h,hD,n7⟩:=At (g:=g) h
 obtain⟨ax,h⟩:=K8 h
 refine⟨_,_,_,_,h,h2.2,h1,h2.1.2,n7 h2.1.1,hD fun φ en=>ax φ (List.mem_append_left _ en),?_⟩
 rw[Ed]
 exact c.ok g x _ (ax _ (List.mem_append_right _ (List.mem_singleton.2 rfl)))
theorem LK {c:List TV} {e:bN} {x:e.T} (h:dd c=c_ false e x):c.length=(c_ false e x).length:=by rw[←h,nH,List.length_map]
theorem PE [Z:FZ] {P:Program} {n:Nat} (aC:n≤1000000) {c:oj P} {args:List TV} {s:TS} {K:TV→TS→aU} {R:Exit→TS→Prop} {Kp:AV→List (Nat×List AV)→List Blk→Prop} (aQ:Fits s)
  (hK: ∀v s' (Z':FZ),(K v s').den R→ @Fits Z' s'→s'.tT n=s.tT n→Kp v.bz s'.cy (@TS.aD Z' n s').H) (h:(Av c args s K).den R):kq P c.f (dd args) (s.aD n).L (s.aD n).H Kp:=by
 unfold Av at h
 split at h
 ·rename_i b g i m col aF
  split at h
  ·rename_i dy cells aO
   split at h
   ·rename_i hb
    have hb:b<s.bB:=by rw[←Nat.blt_eq];exact hb
    obtain⟨e,h⟩:=h
    subst e
    obtain⟨dK,x,y,t,bV,h1,h2,aS,bt,cb,cE⟩:=G8 dy h
    obtain⟨bT,bV⟩:=bV
    refine .inr (.inr (.inr ⟨h1,dK,c_ false c.ce x,c_ false c.ce y,t.bz,(xS aS x).1,(xS aS y).2,.inl ⟨b,dy,?_,bt,cb,cE,?_⟩⟩))
    ·rw[p9 hb,aO]
     show some (Blk.mk dy cells.length [dd cells])=_
     rw[LK h2,h2]
    ·have:=hK _ _ Z bV (qo aQ) (qn aC)
     rw[bT,xA hb] at this
     have bF:TV.dC (.i_ dy (lK false c.ce y))=Blk.mk dy (c_ false c.ce x).length [c_ false c.ce y]:=by
      show Blk.mk dy (lK false c.ce y).length [dd (lK false c.ce y)]=_
      rw[LK (xE false c.ce y),xE,rJ,rJ]
     rw[bF] at this
     exact this
   ·exact h.elim
  ·exact h.elim
 ·rename_i v col aF
  split at h
  ·rename_i m hm
   obtain⟨dK,x,y,t,bV,h1,h2,aS,bt,cb,cE⟩:=G8 0 h
   obtain⟨bT,hb,bV⟩:=bV
   refine .inr (.inr (.inr ⟨h1,dK,c_ false c.ce x,c_ false c.ce y,t.bz,(xS aS x).1,(xS aS y).2,.inr ⟨v,?_,bt,cb,cE,?_⟩⟩))
   ·rw[w0,hm,←h2];rfl
   ·have:=hK _ _ Z bV (xm hb aQ) (xl aC hb)
    rw[bT,xk hb] at this
    exact this
  ·exact h.elim
 ·exact h.elim
end Go.Proofs.Ytglpfccgmfhkdaa.Fw
/- The machine, part Ex: operations that write. -/
set_option linter.unusedVariables false
namespace Go.Proofs.Ytglpfccgmfhkdaa.Fw
open Go
structure ol (P:Program) where
 len:List Nat
 nB:List (qe P)
 zI:List (oj P)
def FS (P:Program) (n:Nat) (t:TypeId) (b g:Nat) (i:Int) (m c:Nat) (v:TV) (s:TS) (w:TV) (K:TS→aU):aU:=match w with
 | .kn dy ir ids=>(match uv v with
  | true=>FT P t b g i c v s dy ir ids K
  | false=> .no)
 | .i_ dy ba=>NM P t b g i c v s dy ba K
 | _=>FP P n t b g i m c v s K
section
variable {P:Program} (cf:gO P) (s:TS)
def zO (ez:ol P) (o:Oper) (K:TV→TS→aU):aU:=match o.op with
 | .store t a v=>(match cv cf.n s a with
  | .lp x c=>nQ (cv cf.n s v) fun w=>vC cf s o (.tup []) (rG x c (ox w)) s.vs K
  | .ptr b g i m c=>nQ (cv cf.n s v) fun w=>FS P cf.n t b g i m c w s (s.get (bY b)) fun s'=>K (.tup []) s'
  | .tw w ids m j=>nQ (cv cf.n s v) fun x=>w1 P t w ids m j x s fun s'=>K (.tup []) s'
  | _=> .no)
 | .alloc e=>(match o.dst with
  | some d=>vC cf s o (.lp d 0) (rG d 0 (xa P e)) ((d,(xa P e).length)::s.vs) K
  | none=> .no)
 | .box _ x=>(match o.dst with
  | some d=>nQ (cv cf.n s x) fun w=>vC cf s o (.lp d 0) (rG d 0 (ox w)) ((d,(ox w).length)::s.vs) K
  | none=> .no)
 | .makeSlice t l c=>(match iX s with
  | true=>uj cf.AQ t fun e=>DI P cf.n t e (cv cf.n s l) (cv cf.n s c) s K
  | false=>DH P t (cv cf.n s l) (cv cf.n s c) s K)
 | .buildSlice t m ps=>uj cf.AQ t fun e=>yR s e (ps.toList.map fun p=>cv cf.n s p.2) fun xs=>pA (fun H Q=>iR P o (fun x=>(cv cf.n s x).bz) s.cy H Q) (fun v=>K v s) (.v (KB e xs (ps.toList.map fun p=>cv cf.n s p.2)))
 | .binOp op t x y _=>(match cv cf.n s x with
  | .l e xs _ _=>(match op with
   | .eql=> .eq (oU y&&(il P t).isSome) true (.two (.iV (xs≠[]) (K (.b .f) s)) (.iV (xs=[]) (.all Bool fun b=>K (.b (.v b)) s)))
   | _=> .no)
  | _=>p5 cf s o fun v=>K v s)
 | .call c=>(match c.callee with
  | .builtin b=>(match b with
   | .len=>(match c.args.toList,c.argTypes.toList with
    | [x],[t]=>(match cv cf.n s x with
     | .l e xs ei fr=>(match o.dst with
      | some d=>(match ez.len.any (Nat.beq d) with
       | true=>p5 cf s o fun v=>K v s
       | false=> .eq (iW P t (TV.l e xs ei fr).bz) true (.iV (xs.length≤4611686018427387904) (K (.i .i64 xs.length) s)))
      | none=> .no)
     | _=>p5 cf s o fun v=>K v s)
    | _,_=> .no)
   | .append=>(match c.args.toList,c.argTypes.toList with
    | [x,y],[t,t2]=>z5 P cf.n t t2 (cv cf.n s x) (cv cf.n s y) s K
    | _,_=> .no)
   | _=> .no)
  | .value f=>(match cv cf.n s f with
   | .fn g caps=>x8 ez.nB g (fun m=>An m (c.args.toList.map (cv cf.n s)++caps) s K) (x9 ez.zI g (fun m=>Av m (c.args.toList.map (cv cf.n s)++caps) s K) (p5 cf s o fun v=>K v s))
   | _=> .no)
  | _=> .no)
 | _=>p5 cf s o fun v=>K v s
end
section
variable {P:Program} {cf:gO P} {s:TS} {R:Exit→TS→Prop}
variable {K:TV→TS→aU} {Kp:AV→List (Nat×List AV)→List Blk→Prop}
theorem YY {t:TypeId} {m:Nat} {ids:List Nat} {w j:Int} {v:TV} {K:TS→aU} (h:(w1 P t w ids m j v s K).den R):ed v.bz=true:=by
 unfold w1 at h
 split at h
 ·obtain⟨_,_,_,h⟩:=h
  split at h
  ·rfl
  ·exact h.elim
 ·exact h.elim
end
section
variable {P:Program} {cf:gO P} {s:TS} {R:Exit→TS→Prop}
variable {K:TV→TS→aU} {Kp:AV→List (Nat×List AV)→List Blk→Prop}
theorem HJ {f:FuncId} {K:qe P→aU} {t:aU}: ∀{oh:List (qe P)},(x8 oh f K t).den R→(∃m,m.f=f∧(K m).den R)∨t.den R
 | [],h=> .inr h
 | c::r,h=>by
  unfold x8 at h
  split at h
  ·rename_i hf;exact .inl ⟨c,Nat.eq_of_beq_eq_true hf,h⟩
  ·exact HJ h
end
section
variable [Z:FZ] {P:Program} {cf:gO P} {s:TS} {R:Exit→TS→Prop}
variable {K:TV→TS→aU} {Kp:AV→List (Nat×List AV)→List Blk→Prop}
theorem Y1 (aC:cf.n≤1000000) (aQ:Fits s) {t:TypeId} {b g m c:Nat} {i:Int} {v:TV} {K:TS→aU} {Kp:List (Nat×List AV)→List Blk→Prop} (hK: ∀s' (Z':FZ),(K s').den R→ @Fits Z' s'→s'.tT cf.n=s.tT cf.n→Kp s'.cy (@TS.aD Z' cf.n s').H)
  (h:(FS P cf.n t b g i m c v s (s.get (bY b)) K).den R):ef (ed v.bz) (lf P t (.ptr b g i.toNat c) v.bz (s.aD cf.n).L (s.aD cf.n).H Kp):=by
 unfold FS at h
 split at h
 ·rename_i dy ir ids aO
  split at h
  ·rename_i hv
   exact y2 (y0 hv) (Y3 aC aQ aO hK h)
  ·exact h.elim
 ·rename_i dy ba aO
  have aS:(Nat.blt b s.bB&&uv v&&sP P t v.bz&&Nat.ble (c+(eD v.bz).length) ba.length)=true:=h.2.2.1
  simp only[Bool.and_eq_true] at aS
  exact y2 (y0 aS.1.1.2) (Y2 aC aQ aO hK h)
 ·exact YR aC aQ hK h
theorem N6 (aC:cf.n≤1000000) (aQ:Fits s) {ez:ol P} {o:Oper} (hK:s6 cf s R K Kp) (h:(zO cf s ez o K).den R):jh P [] o (cc (s.aD cf.n).T) (s.aD cf.n).L (s.aD cf.n).H Kp:=by
 have wP: ∀v,(K v s).den R→Kp v.bz (s.aD cf.n).L (s.aD cf.n).H:=fun v hv=>hK v s Z hv aQ rfl
 have rd:(p5 cf s o fun v=>K v s).den R→iR P o (cc (s.aD cf.n).T) (s.aD cf.n).L (s.aD cf.n).H fun r=>Kp r (s.aD cf.n).L (s.aD cf.n).H:=fun h=>LL aQ (Kp:=fun r=>Kp r (s.aD cf.n).L (s.aD cf.n).H) wP h
 unfold zO at h
 split at h
 ·rename_i t a v fc
  split at h
  ·rw[oC] at h;exact Bl aC aQ hK h
  ·rename_i b g i m c a6
   rw[oC] at h
   obtain⟨dst,op,ty,pos,after,guard⟩:=o
   cases fc
   show ef (ed (cc (s.aD cf.n).T v)) (lf P t (cc (s.aD cf.n).T a) (cc (s.aD cf.n).T v) _ _ _)
   rw[kb]
   show ef (ed (cv cf.n s v).bz) (lf P t (cv cf.n s a).bz (cv cf.n s v).bz _ _ _)
   rw[a6]
   exact Y1 aC aQ (fun s' Z' h1 hf h2=>hK (.tup []) s' Z' h1 hf h2) h
  ·rename_i w ids m j a6
   rw[oC] at h
   obtain⟨dst,op,ty,pos,after,guard⟩:=o
   cases fc
   show ef (ed (cc (s.aD cf.n).T v)) (lf P t (cc (s.aD cf.n).T a) (cc (s.aD cf.n).T v) _ _ _)
   rw[kb]
   show ef (ed (cv cf.n s v).bz) (lf P t (cv cf.n s a).bz (cv cf.n s v).bz _ _ _)
   rw[a6]
   refine y2 ?_ (YZ aC aQ (fun s' Z' h1 hf h2=>hK (.tup []) s' Z' h1 hf h2) h)
   exact YY h
  ·exact h.elim
 ·split at h
  ·exact Bl aC aQ hK h
  ·exact h.elim
 ·split at h
  ·rw[oC] at h;exact Bl aC aQ hK h
  ·exact h.elim
 ·rename_i t l c fc
  obtain⟨dst,op,ty,pos,after,guard⟩:=o
  cases fc
  show um P t (cc (s.aD cf.n).T l) (cc (s.aD cf.n).T c) _ _ _
  rw[kb]
  split at h
  ·obtain⟨e,h⟩:=DA h
   exact VA aC aQ hK h
  ·exact Vy aC aQ hK h
 ·rename_i t m ps fc
  obtain⟨e,h⟩:=DA h
  obtain⟨xs,h⟩:=Dz (n:=cf.n) aQ h
  refine Wk fc ?_
  rw[kb]
  exact qC (F:=fun H Q=>iR P o _ _ H Q) (s.aD cf.n).H (Kp:=fun r=>Kp r (s.aD cf.n).L (s.aD cf.n).H) wP h
 ·rename_i op t x y ty2 fc
  split at h
  ·rename_i e xs ei fr hx
   split at h
   ·obtain⟨h1,h2,aS⟩:=h
    obtain⟨dst,op,ty,pos,after,guard⟩:=o
    cases fc
    show qm P .eql t (cc (s.aD cf.n).T x) _ (oU y) _
    rw[kb]
    show qm P .eql t (cv cf.n s x).bz _ (oU y) _
    rw[hx]
    show if oU y=true∧(il P t).isSome=true then _ else _
    rw[if_pos (by simpa using h1)]
    refine⟨fun cO=> ?_,fun he b=> ?_⟩
    ·exact wP (.b .f) (h2 fun e=>cO (by rw[e];rfl))
    ·exact wP (.b (.v b)) (aS (by simpa using he) b)
   ·exact h.elim
  ·refine LM (rd h) (fun c=>by rw[fc];intro e;cases e) (fun t m ps=>by rw[fc];intro e;cases e)
 ·rename_i c fc
  obtain⟨callee,args,argTypes⟩:=c
  split at h
  ·rename_i b hb
   cases hb
   split at h
   ·split at h
    ·rename_i x t h1 h2
     simp only at h1 h2
     split at h
     ·rename_i e xs ei fr hx
      split at h
      ·split at h
       ·exact Ea fc (rd h)
       ·obtain⟨bF,h⟩:=h
        obtain⟨dst,op,ty,pos,after,guard⟩:=o
        cases fc
        show(match args.toList,argTypes.toList with
         | [x],[t]=>ef (iW P t (cc (s.aD cf.n).T x)) (pV (cc (s.aD cf.n).T x) fun r=>Kp r _ _)
         | _,_=>False)
        simp only[h1,h2]
        rw[kb]
        show ef (iW P t (cv cf.n s x).bz) (pV (cv cf.n s x).bz _)
        rw[hx,bF]
        show(List.map _ _).length≤_→Kp (.int .i64 ((List.map _ _).length:Nat)) _ _
        rw[List.length_map]
        exact fun aI=>wP _ (h aI)
      ·exact h.elim
     ·exact Ea fc (rd h)
    ·exact h.elim
   ·split at h
    ·rename_i x y t t2 h1 h2
     simp only at h1 h2
     obtain⟨dst,op,ty,pos,after,guard⟩:=o
     cases fc
     show(match args.toList,argTypes.toList with
      | [s',x],[t,t2]=>ed (cc (s.aD cf.n).T s')=true∧ed (cc (s.aD cf.n).T x)=true∧rB P t t2 (cc (s.aD cf.n).T s') (cc (s.aD cf.n).T x) _ _ _
      | _,_=>False)
     simp only[h1,h2]
     rw[kb]
     exact OJ aC aQ hK h
    ·exact h.elim
   ·exact h.elim
  ·rename_i f hf
   cases hf
   split at h
   ·rename_i g caps hc
    rcases HJ h with⟨m,e,hm⟩ | hm
    ·subst e
     obtain⟨dst,op,ty,pos,after,guard⟩:=o
     cases fc
     show kW (cc (s.aD cf.n).T f) fun g caps=>kq P g (args.toList.map (cc (s.aD cf.n).T)++caps) _ _ Kp
     rw[kb]
     show kW (cv cf.n s f).bz fun g caps=>kq P g (args.toList.map (fun x=>(cv cf.n s x).bz)++caps) _ _ Kp
     rw[hc]
     have:=Pw (n:=cf.n) aC aQ (fun v s' Z' h1 h2 aS=>hK v s' Z' h1 h2 aS) hm
     rw[nH,List.map_append,List.map_map] at this
     show kq P m.f (_++dd caps) _ _ Kp
     rw[nH];exact this
    ·rcases HK hm with⟨m,e,aF⟩ | hm
     ·subst e
      obtain⟨dst,op,ty,pos,after,guard⟩:=o
      cases fc
      show kW (cc (s.aD cf.n).T f) fun g caps=>kq P g (args.toList.map (cc (s.aD cf.n).T)++caps) _ _ Kp
      rw[kb]
      show kW (cv cf.n s f).bz fun g caps=>kq P g (args.toList.map (fun x=>(cv cf.n s x).bz)++caps) _ _ Kp
      rw[hc]
      have:=PE (n:=cf.n) (Kp:=Kp) aC aQ (fun v s' Z' h1 h2 aS=>hK v s' Z' h1 h2 aS) aF
      rw[nH,List.map_append,List.map_map] at this
      show kq P m.f (_++dd caps) _ _ Kp
      rw[nH];exact this
     ·exact Ea fc (rd hm)
   ·exact h.elim
  ·exact h.elim
 ·rename_i h1 h2 aS bt cb cE gp
  exact LM (rd h) (fun c=>gp c) (fun t m ps=>cb t m ps)
end
end Go.Proofs.Ytglpfccgmfhkdaa.Fw
/- The machine, part F: regions, code, loops, functions. -/
set_option linter.unusedVariables false
namespace Go.Proofs.Ytglpfccgmfhkdaa.Fw
open Go
def sj (b:Bool):TV:= .b (match b with
 | true=> .t
 | false=> .f)
theorem KC (b:Bool):(sj b).bz= .bool b:=by cases b<;>rfl
def zz (x:dY) (s:TS) (K:Bool→TS→aU):aU:=match x with
 | .t=>K true s
 | .f=>K false s
 | x=> .h5 x s (K true ⟨[],s.T++s.B,s.vs,s.bB⟩) (K false ⟨[],s.T++s.B,s.vs,s.bB⟩)
def zG (d:Nat) (v:TV):TV:=match v with
 | .b x=>(match x with
  | .v p=> .b (.at d p)
  | x=> .b x)
 | v=>v
theorem Y7 (d:Nat) (v:TV):(zG d v).bz=v.bz:=by
 unfold zG
 split
 ·split<;>rfl
 ·rfl
def jT (n:Nat) (s:TS) (d:Option Nat) (v:TV):TS:=match d with
 | none=>s
 | some d=>match Nat.blt d n with
  | true=>s.put d (zG d v)
  | false=>s
theorem YP [FZ] {n:Nat} {s s':TS} (hv:s'.vs=s.vs) (hb:s'.bB=s.bB) (h: ∀k,s'.get k=s.get k):s'.aD n=s.aD n:=by
 have hc: ∀v c m,hN s' v c m=hN s v c m:=by
  intro v c m
  induction m generalizing c with
  | zero=>rfl
  | succ m bO=>rw[hN,hN,h _,bO]
 have aV:=FN (n:=n) hb (fun b=>h _) (h dE)
 have cs:s'.tT n=s.tT n:=by unfold TS.tT;simp only[h]
 have bT:s'.cy=s.cy:=by unfold TS.cy;simp only[hv,hc]
 show(⟨s'.tT n,s'.cy,(s'.aD n).H⟩:St)=_
 rw[cs,bT,aV];rfl
theorem NF (s:TS) (k:Nat):TS.get ⟨[],s.T++s.B,s.vs,s.bB⟩ k=s.get k:=by unfold TS.get;simp only;rw[uk];rfl
theorem YL [FZ] {n:Nat} (s:TS):TS.aD n ⟨[],s.T++s.B,s.vs,s.bB⟩=s.aD n:=YP rfl rfl (NF s)
theorem FM [FZ] {n:Nat} {x:dY} {s:TS} {K:Bool→TS→aU} {R:Exit→TS→Prop} (h:(zz x s K).den R): ∃s',s'.aD n=s.aD n∧(∀k,s'.get k=s.get k)∧(K x.den s').den R:=by
 have key:(aU.h5 x s (K true ⟨[],s.T++s.B,s.vs,s.bB⟩) (K false ⟨[],s.T++s.B,s.vs,s.bB⟩)).den R→ ∃s',s'.aD n=s.aD n∧(∀k,s'.get k=s.get k)∧(K x.den s').den R:=fun h=>by
  refine⟨_,YL s,NF s,?_⟩
  ·cases hx:x.den with
   | true=>exact h.1 hx
   | false=>exact h.2 hx
 cases x with
 | t=>exact⟨s,rfl,fun _=>rfl,h⟩
 | f=>exact⟨s,rfl,fun _=>rfl,h⟩
 | _=>exact key h
theorem zi {s:TS} {d k:Nat} {v:TV} (h:d<1000000) (hk:1000000≤k):(s.put d v).get k=s.get k:=by rw[TS.Bi,if_neg (by omega)]
theorem D3 [FZ] {s:TS} {d:Nat} {v:TV} (h:d<1000000) (f:Fits s):Fits (s.put d v):=f.congr fun k h1 _=>zi h h1
theorem Lw {s:TS} {d:Nat} {v:TV} (h:d<1000000):(s.put d v).cy=s.cy:=by
 have hc: ∀eg c m,hN (s.put d v) eg c m=hN s eg c m:=by
  intro eg c m
  induction m generalizing c with
  | zero=>rfl
  | succ m bO=>rw[hN,hN,zi h (by unfold fB;omega),bO]
 show s.vs.map _=s.vs.map _
 simp only[hc]
theorem Lv [FZ] {n:Nat} {s:TS} {d:Nat} {v:TV} (h:d<1000000):((s.put d v).aD n).H=(s.aD n).H:=FN rfl (fun b=>zi h (by unfold bY;omega)) (zi h (by unfold dE;omega))
theorem zh [FZ] {n:Nat} (aC:n≤1000000) (s:TS) (d:Option Nat) (v:TV):(jT n s d v).aD n=⟨putA (s.aD n).T d v.bz,(s.aD n).L,(s.aD n).H⟩:=by
 cases d with
 | none=>rfl
 | some d=>
  unfold jT
  simp only
  split
  ·rename_i bp
   have bp:d<n:=by rw[←Nat.blt_eq];exact bp
   rw[←Y7 d v]
   generalize zG d v=v
   have cs:(s.put d v).tT n=(s.tT n).set d v.bz:=by
    apply List.ext_getElem?
    intro t
    show((List.range n).map fun t=>((s.put d v).get t).bz)[t]?=(((List.range n).map fun t=>(s.get t).bz).set d v.bz)[t]?
    rw[List.getElem?_set]
    simp only[List.getElem?_map,List.length_map,List.length_range]
    rcases Nat.lt_or_ge t n with h | h
    ·rw[List.getElem?_range h]
     simp only[Option.map_some]
     rw[TS.Bi]
     by_cases e:d=t
     ·simp[e,h]
     ·simp[e]
    ·rw[List.getElem?_eq_none (l:=List.range n) (by simpa using h)]
     by_cases e:d=t
     ·omega
     ·simp[e]
   have bT:=Lw (s:=s) (v:=v) (show d<1000000 by omega)
   have aV:=Lv (n:=n) (s:=s) (v:=v) (show d<1000000 by omega)
   show(⟨(s.put d v).tT n,(s.put d v).cy,((s.put d v).aD n).H⟩:St)=_
   rw[cs,bT,aV];rfl
  ·rename_i bp
   have bp: ¬d<n:=fun h=>by rw[←Nat.blt_eq] at h;rw[h] at bp;cases bp
   show s.aD n=⟨(s.aD n).T.set d v.bz,_,_⟩
   rw[List.set_eq_of_length_le]
   show((List.range n).map _).length≤d
   simp;omega
theorem zg [FZ] {n:Nat} (aC:n≤1000000) {s:TS} {d:Option Nat} {v:TV} (f:Fits s):Fits (jT n s d v):=by
 unfold jT
 split
 ·exact f
 ·split
  ·rename_i bp
   exact D3 (by rw[Nat.blt_eq] at bp;omega) f
  ·exact f
theorem Lz [FZ] {n:Nat} {s:TS} {t:Nat} {v:TV} (bu:t<1000000) (h:(s.get t).bz=v.bz):(s.put t v).aD n=s.aD n:=by
 have cs:(s.put t v).tT n=s.tT n:=by
  unfold TS.tT
  refine List.map_congr_left fun k _=> ?_
  rw[TS.Bi];split
  ·rename_i e;subst e;exact h.symm
  ·rfl
 have bT:=Lw (s:=s) (v:=v) bu
 have aV:=Lv (n:=n) (s:=s) (v:=v) bu
 show(⟨(s.put t v).tT n,(s.put t v).cy,((s.put t v).aD n).H⟩:St)=_
 rw[cs,bT,aV];rfl
section
variable {P:Program} (cf:gO P)
def za (c x y:Operand) (s:TS) (K:TV→TS→aU):aU:=match cv cf.n s c with
 | .b z=>zz z s fun b s=>
  let s:=match c with
   | .tmp t=>s.put t (sj b)
   | _=>s
  nQ (cv cf.n s (bif b then x else y)) fun v=>K v s
 | _=> .no
def x_ (ops:Array Oper) (o:Oper) (s:TS) (run skip:TS→aU):aU:=match o.guard with
 | none=>run s
 | some g=>match(ops[g.1]?).bind (·.dst) with
  | none=> .no
  | some t=>match cv cf.n s (.tmp t) with
   | .b z=>zz z s fun b s=>bif b==g.2 then run (s.put t (sj b)) else skip (s.put t (sj b))
   | .tup c=>match c with
    | []=>skip s
    | _=> .no
   | _=> .no
def stepT (ez:ol P) (o:Oper) (s:TS) (K:TV→TS→aU):aU:=match o.op with
 | .pick c x y=>za cf c x y s K
 | _=>zO cf s ez o K
def zr (ez:ol P) (ops:Array Oper):List Oper→TS→(TS→aU)→aU
 | [],s,K=>K s
 | o::r,s,K=>x_ cf ops o s (fun s=>stepT cf ez o s fun v s=>zr ez ops r (jT cf.n s o.dst v) K) (fun s=>zr ez ops r (jT cf.n s o.dst (.tup [])) K)
def Bb (ops:Array Oper) (s:TS):List Nat→aU→aU
 | [],k=>k
 | i::r,k=> .eq ((opI ops i).guard.isNone&&(opI ops i).dst.isSome) true (.eq (fun(Z:FZ) H Q=>kr P (opI ops i) (fun x=>(cv cf.n s x).bz) s.cy (@TS.gi Z s++H) Q) (fun _ _ Q=>Q (match(opI ops i).dst with
  | some d=>(cv cf.n s (.tmp d)).bz
  | none=> .undef)) (Bb ops s r k))
def q_ (ez:ol P) (ops:Array Oper):List Item→TS→(TS→aU)→aU
 | [],s,K=>K s
 | x::r,s,K=>x_ cf ops (opI ops x.i) s
   (fun s=>match x.q with
    | true=>(match n6 (opI ops x.i) with
     | true=>(match(opI ops x.i).dst with
      | some d=> .eq (fun H Q=>kr P (opI ops x.i) (fun x=>(cv cf.n s x).bz) s.cy H Q) (fun _ Q=>Q (.e6 d 0)) (q_ ez ops r (jT cf.n s (opI ops x.i).dst (.lp d 0)) K)
      | none=> .no)
     | false=>(match(opI ops x.i).op with
      | .pick c a b=>za cf c a b s fun v s=>q_ ez ops r (jT cf.n s (opI ops x.i).dst v) K
      | _=>p5 cf s (opI ops x.i) fun v=>q_ ez ops r (jT cf.n s (opI ops x.i).dst v) K))
    | false=>(match(opI ops x.i).op with
     | .pick _ _ _=> .no
     | _=>zO cf s ez (opI ops x.i) fun v s=>Bb cf ops s x.iE (q_ ez ops r (jT cf.n s (opI ops x.i).dst v) K)))
   (fun s=>q_ ez ops r (jT cf.n s (opI ops x.i).dst (.tup [])) K)
def xb (P:Program) (ops:Array Oper):List Item→List (Nat×List TV)
 | []=>[]
 | x::r=>match x.q with
  | true=>(match(opI ops x.i).op with
   | .alloc e=>(match(opI ops x.i).dst with
    | some d=>(d,xa P e)::xb P ops r
    | none=>xb P ops r)
   | _=>xb P ops r)
  | false=>xb P ops r
def Gm:List (Nat×List TV)→List (Nat×TV)
 | []=>[]
 | (d,c)::r=>rG d 0 c++Gm r
def AI (ez:ol P) (ops:Array Oper) (ord:List Item) (je:List (List Nat)) (s:TS) (K:TS→aU):aU:=
 let hI:=xb P ops ord
 let s':=s.add (Gm hI) (hI.map (fun p=>(p.1,p.2.length))++s.vs) s.bB
 match ov (Gm hI) with
 | false=> .no
 | true=> .eq (P.follows .mixedOrders) true (.eq je.length ops.size (.eq (th ops ord (vl je)) true (.eq (ord.all (·.lit)) true (.eq s'.cy (hI.map (fun p=>(p.1,dd p.2))++s.cy)
  (.eq (rL (hI.map fun p=>(p.1,dd p.2)) s.cy) true (.eq (rA ops s.cy ord) true (q_ cf ez ops ord s' K)))))))
end
section
variable {P:Program} {cf:gO P} {R:Exit→TS→Prop}
theorem DD {n t:Nat} {s:TS} {v:TV} (h:cv n s (.tmp t)=v) (hv:v≠ .u):t<n∧s.get t=v:=by
 have h:(match Nat.blt t n with
  | true=>s.get t
  | false=>TV.u)=v:=h
 split at h
 ·rename_i hb;exact⟨by rw[←Nat.blt_eq];exact hb,h⟩
 ·exact absurd h.symm hv
end
section
variable {P:Program} {cf:gO P} {R:Exit→TS→Prop}
theorem WQ {T:List AV} {t:Nat} {a:AV} (h:T.getD t .undef=a):T.set t a=T∨a= .undef:=by
 by_cases aI:t<T.length
 ·left
  rw[List.getD_eq_getElem?_getD,List.getElem?_eq_getElem aI] at h
  have h:T[t]=a:=h
  rw[←h];exact List.set_getElem_self ..
 ·right;rw[←h,List.getD_eq_getElem?_getD,List.getElem?_eq_none (by omega)];rfl
end
section
variable {P:Program} {cf:gO P} {R:Exit→TS→Prop}
theorem V4 {o:Oper} {T:List AV} {K:AV→Prop} {xQ:Prop} (h: ∀c x y,o.op≠ .pick c x y):sv true o T K xQ=xQ:=by
 unfold sv
 split
 ·rename_i c x y e;exact absurd e (h c x y)
 ·rfl
end
section
variable [Z:FZ] {P:Program} {cf:gO P} {R:Exit→TS→Prop}
theorem HZ (aC:cf.n≤1000000) {ops:Array Oper} {o:Oper} {s:TS} {run skip:TS→aU} {x y:List AV→Prop} (aQ:Fits s) (hx: ∀s',Fits s'→s'.aD cf.n=s.aD cf.n→(run s').den R→x (s.aD cf.n).T) (bA: ∀s',Fits s'→s'.aD cf.n=s.aD cf.n→(skip s').den R→y (s.aD cf.n).T)
  (h:(x_ cf ops o s run skip).den R):mM ops true o (s.aD cf.n).T x y:=by
 unfold x_ at h
 unfold mM
 split at h
 ·rename_i aO;rw[aO];exact hx s aQ rfl h
 ·rename_i g aO
  obtain⟨j,want⟩:=g
  rw[aO]
  simp only at h ⊢
  split at h
  ·exact h.elim
  ·rename_i t bu
   rw[bu]
   simp only
   have cs:(s.aD cf.n).T.getD t .undef=(cv cf.n s (.tmp t)).bz:=by
    have:=congrFun (kb cf.n s) (.tmp t);exact this
   split at h
   ·rename_i z oR
    rw[oR] at cs
    rw[cs]
    show nJ true z.den _ _
    obtain⟨aI,gR⟩:=DD oR (fun e=>by cases e)
    obtain⟨s',bF,e2,h⟩:=FM (n:=cf.n) h
    have mT:Fits (s'.put t (sj z.den)):=D3 (by omega) (aQ.congr fun k _ _=>e2 k)
    have pM:(s'.put t (sj z.den)).aD cf.n=s.aD cf.n:=by
     rw[Lz (by omega) (by rw[e2,gR,KC];rfl),bF]
    have j8: ∀b,z.den=b→(s.aD cf.n).T.set t (.bool b)=(s.aD cf.n).T:=fun b hb=>by
     rcases WQ (show(s.aD cf.n).T.getD t .undef= .bool b by rw[cs,←hb];rfl) with q | q
     ·exact q
     ·cases q
    cases n4:z.den with
    | true=>
     rw[n4] at h pM mT
     show if want=true then _ else _
     rw[j8 true n4]
     cases want with
     | true=>rw[if_pos rfl];exact hx _ mT pM h
     | false=>rw[if_neg (by simp)];exact bA _ mT pM h
    | false=>
     rw[n4] at h pM mT
     show if want=true then _ else _
     rw[j8 false n4]
     cases want with
     | true=>rw[if_pos rfl];exact bA _ mT pM h
     | false=>rw[if_neg (by simp)];exact hx _ mT pM h
   ·rename_i c oR
    rw[oR] at cs
    split at h
    ·rw[cs];exact bA s aQ rfl h
    ·exact h.elim
   ·exact h.elim
theorem Lf (aC:cf.n≤1000000) {c x y:Operand} {s:TS} {K:TV→TS→aU} {Kp:AV→Prop} (aQ:Fits s) (hK: ∀v s',Fits s'→s'.aD cf.n=s.aD cf.n→(K v s').den R→Kp v.bz) (h:(za cf c x y s K).den R):
  m9 (cc (s.aD cf.n).T c) fun z=>nJ true z (Kp (cc (s.aD cf.n).T x)) (Kp (cc (s.aD cf.n).T y)):=by
 unfold za at h
 split at h
 ·rename_i z oR
  obtain⟨s',bF,e2,h⟩:=FM (n:=cf.n) h
  simp only at h
  rw[oC] at h
  generalize IT:(match c with
   | .tmp t=>s'.put t (sj z.den)
   | _=>s')=s2 at h
  have dN:s2.aD cf.n=s.aD cf.n:=by
   rw[←IT,←bF]
   split
   ·rename_i t
    obtain⟨aI,gR⟩:=DD oR (fun e=>by cases e)
    exact Lz (by omega) (by rw[e2,gR,KC];rfl)
   ·rfl
  have hf2:Fits s2:=by
   rw[←IT]
   split
   ·rename_i t
    obtain⟨aI,gR⟩:=DD oR (fun e=>by cases e)
    exact D3 (by omega) (aQ.congr fun k _ _=>e2 k)
   ·exact aQ.congr fun k _ _=>e2 k
  have:=hK _ _ hf2 dN h
  have ax: ∀o,(cv cf.n s2 o).bz=cc (s.aD cf.n).T o:=fun o=>by rw[←dN,kb]
  rw[ax] at this
  have hc:cc (s.aD cf.n).T c= .bool z.den:=by
   have:=congrFun (kb cf.n s) c
   rw[this]
   show(cv cf.n s c).bz=_
   rw[oR];rfl
  rw[hc]
  show nJ true z.den _ _
  cases n4:z.den with
  | true=>rw[n4] at this;exact this
  | false=>rw[n4] at this;exact this
 ·exact h.elim
theorem YU (aC:cf.n≤1000000) {ez:ol P} {o:Oper} {s:TS} {K:TV→TS→aU} {Kp:AV→List (Nat×List AV)→List Blk→Prop} (aQ:Fits s) (hK:s6 cf s R K Kp) (h:(stepT cf ez o s K).den R):
  sv true o (s.aD cf.n).T (fun v=>Kp v (s.aD cf.n).L (s.aD cf.n).H) (jh P [] o (cc (s.aD cf.n).T) (s.aD cf.n).L (s.aD cf.n).H Kp):=by
 unfold stepT at h
 split at h
 ·rename_i c x y fc
  unfold sv
  rw[fc]
  exact Lf aC (Kp:=fun v=>Kp v (s.aD cf.n).L (s.aD cf.n).H) aQ (fun v s' hf e hv=>by
   have eT:s'.tT cf.n=s.tT cf.n:=congrArg St.T e
   have eX:s'.cy=s.cy:=congrArg St.L e
   have:=hK v s' Z hv hf eT
   rw[eX,e] at this;exact this) h
 ·rename_i cO
  rw[V4 fun c x y=>cO c x y]
  exact N6 aC aQ hK h
end
section
variable {P:Program} {cf:gO P} {R:Exit→TS→Prop}
theorem Ef (aC:cf.n≤1000000) {ez:ol P} {ops:Array Oper} {K:TS→aU} {Kp:List AV→List (Nat×List AV)→List Blk→Prop} (hK: ∀s (Z:FZ),(K s).den R→ @Fits Z s→Kp (s.tT cf.n) s.cy (@TS.aD Z cf.n s).H): ∀(l:List Oper) (Z:FZ) (s:TS),@Fits Z s→(zr cf ez ops l s K).den R→
  evOps P [] ops (l.map fun o=>(o,true)) (s.tT cf.n) s.cy (@TS.aD Z cf.n s).H Kp
 | [],Z,s,aQ,h=>hK s Z h aQ
 | o::r,Z,s,aQ,h=>by
  refine HZ (Z:=Z) aC aQ (fun s' hf e h=> ?_) (fun s' hf e h=> ?_) h
  ·have eX:s'.cy=s.cy:=congrArg St.L e
   rw[←e,←eX]
   exact YU (Z:=Z) aC (Kp:=fun v L' H'=>evOps P [] ops (r.map fun o=>(o,true)) (putA (s'.tT cf.n) o.dst v) L' H' Kp) hf (fun v s2 Z2 hv hf2 e2=>by
    have:=Ef aC hK r Z2 _ (@zg Z2 _ aC _ _ _ hf2) hv
    have dN:= @zh Z2 cf.n aC s2 o.dst v
    have eT:(jT cf.n s2 o.dst v).tT cf.n=putA (s2.tT cf.n) o.dst v.bz:=congrArg St.T dN
    have AN:(jT cf.n s2 o.dst v).cy=s2.cy:=congrArg St.L dN
    rw[eT,AN,dN] at this
    rw[←e2];exact this) h
  ·have:=Ef aC hK r Z _ (zg aC hf) h
   have dN:= @zh Z cf.n aC s' o.dst (.tup [])
   have eT:(jT cf.n s' o.dst (.tup [])).tT cf.n=putA (s'.tT cf.n) o.dst (.tup []):=congrArg St.T dN
   have AN:(jT cf.n s' o.dst (.tup [])).cy=s'.cy:=congrArg St.L dN
   rw[eT,AN,dN] at this
   have h0:s'.tT cf.n=s.tT cf.n:=congrArg St.T e
   have hy:s'.cy=s.cy:=congrArg St.L e
   rw[h0,hy,e] at this
   exact this
end
section
variable [Z:FZ] {P:Program} {cf:gO P} {R:Exit→TS→Prop}
theorem HN {ops:Array Oper} {s:TS} {k:aU}: ∀{iE:List Nat},(Bb cf ops s iE k).den R→pz P ops iE (s.aD cf.n).T (s.aD cf.n).L (s.aD cf.n).H∧k.den R
 | [],h=>⟨trivial,h⟩
 | i::r,h=>by
  obtain⟨h1,h2,aS⟩:=h
  simp only[Bool.and_eq_true] at h1
  obtain⟨q1,q2⟩:=HN aS
  refine⟨⟨⟨h1.1,h1.2,?_⟩,q1⟩,q2⟩
  rw[kb]
  have:=congrFun (congrFun (congrFun h2 Z) (h3 s)) (fun v=>v=qq (opI ops i) (s.aD cf.n).T)
  have this:kr P (opI ops i) (fun x=>(cv cf.n s x).bz) (s.aD cf.n).L (s.aD cf.n).H (fun v=>v=qq (opI ops i) (s.aD cf.n).T)=_:=this
  rw[this]
  unfold qq
  cases(opI ops i).dst with
  | none=>rfl
  | some d=>
   have:=congrFun (kb cf.n s) (.tmp d)
   exact this.symm
end
section
variable {P:Program} {cf:gO P} {R:Exit→TS→Prop}
theorem V_ (Z:FZ) (aC:cf.n≤1000000) (s:TS) (d:Option Nat) (v:TV):(jT cf.n s d v).tT cf.n=putA (s.tT cf.n) d v.bz∧(jT cf.n s d v).cy=s.cy∧(@TS.aD Z cf.n (jT cf.n s d v)).H=(@TS.aD Z cf.n s).H:=by
 have dN:= @zh Z cf.n aC s d v
 exact⟨congrArg St.T dN,congrArg St.L dN,by rw[dN]⟩
theorem LV (aC:cf.n≤1000000) {ez:ol P} {ops:Array Oper} {K:TS→aU} {Kp:List AV→List (Nat×List AV)→List Blk→Prop} (hK: ∀s (Z:FZ),(K s).den R→ @Fits Z s→Kp (s.tT cf.n) s.cy (@TS.aD Z cf.n s).H): ∀(l:List Item) (Z:FZ) (s:TS),@Fits Z s→l.all (·.lit)=true→(q_ cf ez ops l s K).den R→
  ji P [] ops l (s.tT cf.n) s.cy (@TS.aD Z cf.n s).H Kp
 | [],Z,s,aQ,_,h=>hK s Z h aQ
 | x::r,Z,s,aQ,aI,h=>by
  simp only[List.all_cons,Bool.and_eq_true] at aI
  show mM ops x.lit (opI ops x.i) _ _ _
  rw[aI.1]
  have next: ∀(s' s2:TS) (Z2:FZ) (v:TV),@Fits Z2 s2→s2.tT cf.n=s'.tT cf.n→(q_ cf ez ops r (jT cf.n s2 (opI ops x.i).dst v) K).den R→ji P [] ops r (putA (s'.tT cf.n) (opI ops x.i).dst v.bz) s2.cy (@TS.aD Z2 cf.n s2).H Kp:=fun s' s2 Z2 v hf e hv=>by
   have:=LV aC hK r Z2 _ (@zg Z2 _ aC _ _ _ hf) aI.2 hv
   obtain⟨q1,q2,q3⟩:=V_ (cf:=cf) Z2 aC s2 (opI ops x.i).dst v
   rw[q1,q2,q3] at this
   rw[←e];exact this
  refine HZ (Z:=Z) aC aQ (fun s' hf e h=> ?_) (fun s' hf e h=> ?_) h
  ·have eX:s'.cy=s.cy:=congrArg St.L e
   rw[←e,←eX]
   cases aj:x.q with
   | true=>
    rw[aj] at h
    show kr P (opI ops x.i) (cc (s'.aD cf.n).T) (s'.aD cf.n).L (s'.aD cf.n).H _
    cases a6:n6 (opI ops x.i) with
    | true=>
     rw[a6] at h
     simp only at h
     split at h
     ·rename_i d bp
      obtain⟨h1,h2⟩:=h
      rw[kb]
      have:=congrFun (congrFun h1 (s'.aD cf.n).H) (fun v=>ji P [] ops r (putA (s'.aD cf.n).T (opI ops x.i).dst v) (s'.aD cf.n).L (s'.aD cf.n).H Kp)
      have this:kr P (opI ops x.i) (fun x=>(cv cf.n s' x).bz) (s'.aD cf.n).L (s'.aD cf.n).H (fun v=>ji P [] ops r (putA (s'.aD cf.n).T (opI ops x.i).dst v) (s'.aD cf.n).L (s'.aD cf.n).H Kp)=_:=this
      refine Eq.mpr this ?_
      exact next s' s' Z (.lp d 0) hf rfl h2
     ·exact h.elim
    | false=>
     rw[a6] at h
     rw[tp a6]
     simp only at h
     split at h
     ·rename_i c a b fc
      have:=Lf (Z:=Z) aC (Kp:=fun v=>ji P [] ops r (putA (s'.aD cf.n).T (opI ops x.i).dst v) (s'.aD cf.n).L (s'.aD cf.n).H Kp) hf (fun v s2 hf2 e2 hv=>by
       have:=next s' s2 Z v hf2 (congrArg St.T e2) hv
       have dN:s2.cy=s'.cy:=congrArg St.L e2
       rw[dN,e2] at this;exact this) h
      unfold iR
      rw[fc];exact this
     ·exact LL hf (Kp:=fun v=>ji P [] ops r (putA (s'.aD cf.n).T (opI ops x.i).dst v) (s'.aD cf.n).L (s'.aD cf.n).H Kp) (fun v hv=>next s' s' Z v hf rfl hv) h
   | false=>
    rw[aj] at h
    simp only at h
    split at h
    ·exact h.elim
    ·exact N6 (Z:=Z) aC hf (Kp:=fun v L' H'=>pz P ops x.iE (s'.tT cf.n) L' H'∧ji P [] ops r (putA (s'.tT cf.n) (opI ops x.i).dst v) L' H' Kp) (fun v s2 Z2 hv hf2 e2=>by
      obtain⟨q1,q2⟩:=HN (Z:=Z2) hv
      have q1:pz P ops x.iE (s2.tT cf.n) s2.cy (@TS.aD Z2 cf.n s2).H:=q1
      rw[e2] at q1
      exact⟨q1,next s' s2 Z2 v hf2 e2 q2⟩) h
  ·have:=next s' s' Z (.tup []) hf rfl h
   have h0:s'.tT cf.n=s.tT cf.n:=congrArg St.T e
   have hy:s'.cy=s.cy:=congrArg St.L e
   rw[h0,hy,e] at this
   exact this
end
end Go.Proofs.Ytglpfccgmfhkdaa.Fw
/- The machine, part G: code, loops, functions. -/
set_option linter.unusedVariables false
namespace Go.Proofs.Ytglpfccgmfhkdaa.Fw
open Go
theorem AJ {c5:List Nat}: ∀(L:List (Nat×List AV)) (t:Nat),c5.contains t=true→ew (mH c5 L) t=none
 | [],t,h=>rfl
 | (k,c)::L,t,h=>by
  unfold mH
  split
  ·exact AJ L t h
  ·rename_i hk
   have:t≠k:=fun e=>by subst e;rw[h] at hk;cases hk
   simp only[ew,if_neg this];exact AJ L t h
theorem Weak.cells {T:List AV} {L L':List (Nat×List AV)} {H:List Blk} (bT: ∀t cells,ew L t=some cells→ ∃gP,ew L' t=some gP∧gP.length=cells.length∧ ∀(i:Nat) (a:AV),gP[i]?=some a→cells[i]?=some a∨a= .undef):Weak ⟨T,L,H⟩ ⟨T,L',H⟩:=fun cM E tmps g s=>
 ⟨E,rfl,g,s.h,fun t c hm=>by
  obtain⟨cells,ba,ty,q1,q2,q3⟩:=s.l t c hm
  obtain⟨gP,eS,fY,fg⟩:=bT t cells q1
  refine⟨gP,ba,ty,eS,q2,by rw[fY];exact q3.1,fun i a v a6 hv=> ?_⟩
  rcases fg i a a6 with q | q
  ·exact q3.2 i a v q hv
  ·subst q;exact cG.undef _ _,s.iM,s.size⟩
theorem Zg {T T':List AV} {L L':List (Nat×List AV)} {H:List Blk} (aI:T'.length=T.length) (cs: ∀t,T'.getD t .undef=T.getD t .undef∨T'.getD t .undef= .undef) (c5:List Nat) (aF:T'.all (np c5)=true)
  (bT: ∀t cells,c5.contains t=false→ew L t=some cells→ ∃gP,ew L' t=some gP∧gP.length=cells.length∧ ∀(i:Nat) (a:AV),gP[i]?=some a→cells[i]?=some a∨a= .undef):Weak ⟨T,L,H⟩ ⟨T',L',H⟩:=by
 refine(Weak.iM aI cs).trans ((Weak.mH c5 aF).trans (Weak.cells fun t cells h=> ?_))
 cases bu:c5.contains t with
 | true=>rw[AJ L t bu] at h;cases h
 | false=>rw[xL L t bu] at h;exact bT t cells bu h
theorem Vk (l:List (Nat×TV)) (k:Nat) (d:TV):(∃v,(k,v)∈l∧hj l k d=v)∨hj l k d=d:=by
 induction l with
 | nil=>exact .inr rfl
 | cons p r bO=>
  obtain⟨a,w⟩:=p
  rw[gJ]
  by_cases e:a=k
  ·subst e;exact .inl ⟨w,List.mem_cons_self ..,if_pos rfl⟩
  ·rw[if_neg e]
   rcases bO with⟨v,h1,h2⟩ | h
   ·exact .inl ⟨v,List.mem_cons_of_mem _ h1,h2⟩
   ·exact .inr h
theorem Al (s:TS) (v:Nat): ∀(c m:Nat),(hN s v c m).length=m
 | _,0=>rfl
 | c,m+1=>by rw[hN,List.length_cons,Al s v (c+1) m]
theorem G1 (s:TS) (v:Nat): ∀(m c i:Nat),(dd (hN s v c m))[i]?=if i<m then some (s.get (fB v (c+i))).bz else none
 | 0,c,i=>by simp[hN,dd]
 | m+1,c,i=>by
  rw[hN,dd]
  cases i with
  | zero=>simp
  | succ i=>
   rw[List.getElem?_cons_succ,G1 s v m (c+1) i,show c+1+i=c+(i+1) by omega]
   by_cases h:i<m
   ·rw[if_pos h,if_pos (by omega)]
   ·rw[if_neg h,if_neg (by omega)]
theorem zB [FZ] (n:Nat) (s:TS):s.aD n=⟨(s.aD n).T,(s.aD n).L,(s.aD n).H⟩:=rfl
theorem N5 [FZ] {n:Nat} {s S:TS} (da:iX S=iX s) (cs: ∀t,t<n→(S.get t).bz=(s.get t).bz∨(S.get t).bz= .undef) (c5:List Nat) (aF:(S.aD n).T.all (np c5)=true)
  (hv: ∀v m,c5.contains v=false→kA s.vs v=some m→kA S.vs v=some m∧ ∀c,(S.get (fB v c)).bz=(s.get (fB v c)).bz∨(S.get (fB v c)).bz= .undef)
  (hb:S.bB=s.bB) (eO: ∀b,b<s.bB→(S.get (bY b)).dC=(s.get (bY b)).dC):Weak (s.aD n) (S.aD n):=by
 have aV:(S.aD n).H=(s.aD n).H:=by
  show S.gi++h3 S=s.gi++h3 s
  have e2:h3 S=h3 s:=by unfold h3;rw[da]
  rw[e2]
  congr 1
  apply List.ext_getElem?
  intro b
  rw[qa,qa,hb]
  by_cases h:b<s.bB
  ·rw[if_pos h,if_pos h,eO b h]
  ·rw[if_neg h,if_neg h]
 rw[zB n s,zB n S,aV]
 refine Zg (by show((List.range n).map _).length=((List.range n).map _).length;simp) (fun t=> ?_) c5 aF fun t cells bu h=> ?_
 ·rw[FO,FO]
  by_cases h:t<n
  ·rw[if_pos h,if_pos h];exact cs t h
  ·rw[if_neg h,if_neg h];exact .inl rfl
 ·rw[w0] at h
  cases hm:kA s.vs t with
  | none=>rw[hm] at h;cases h
  | some m=>
   rw[hm] at h
   cases h
   obtain⟨q1,q2⟩:=hv t m bu hm
   refine⟨dd (hN S t 0 m),by rw[w0,q1];rfl,?_,fun i a a6=> ?_⟩
   ·show(dd _).length=(dd _).length
    rw[nH,nH,List.length_map,List.length_map,Al,Al]
   ·rw[G1] at a6 ⊢
    by_cases hi:i<m
    ·rw[if_pos hi] at a6 ⊢
     cases a6
     rcases q2 (0+i) with e | e
     ·left;rw[e]
     ·right;exact e
    ·rw[if_neg hi] at a6;cases a6
theorem Vp (l:List AV):l.all (np [])=true:=by
 have a0: ∀a,sl [] a=true:=fun a=>by cases a<;>rfl
 have h1: ∀a,qQ [] a=true:=fun a=>by
  unfold qQ
  split
  ·exact List.all_eq_true.2 fun x _=>a0 x
  ·exact a0 _
 have h2: ∀a,qR [] a=true:=fun a=>by
  unfold qR
  split
  ·exact List.all_eq_true.2 fun x _=>h1 x
  ·exact h1 _
 have aS: ∀a,np [] a=true:=fun a=>by
  unfold np
  split
  ·exact List.all_eq_true.2 fun x _=>h2 x
  ·exact h2 _
 exact List.all_eq_true.2 fun x _=>aS x
theorem Fits.le [FZ] {s S:TS} (h:s.gB S) (f:Fits s):Fits S:=f.congr fun k h1 _=>(h.get k).resolve_right fun q=>by have:=q.1;omega
theorem Zh [FZ] {n:Nat} (aC:n≤1000000) {s S:TS} (h:s.gB S):Weak (s.aD n) (S.aD n):=by
 have s_: ∀k,¬k<1000000→S.get k=s.get k:=fun k hk=>(h.get k).resolve_right fun q=>hk q.1
 refine N5 (DM (s_ _ (by unfold dE;omega))) (fun t bu=> ?_) [] (Vp _) (fun v m _ hm=>⟨by rw[h.vs];exact hm,fun c=> .inl (by rw[s_ _ (by unfold fB;omega)])⟩) h.bB fun b _=>by rw[s_ _ (by unfold bY;omega)]
 rcases h.get t with e | ⟨_,e⟩
 ·exact .inl (by rw[e])
 ·exact e
inductive lh:Type 1 where
 | nil
 | td (a b:lh)
 | lp (kT:List (Nat×Nat×bN)) (ey:List Nat) (ka:List (Nat×Nat)) (jG:List bN) (rd:List Nat) (fM:dr jG→List (Nat×TV)) (I:dr jG→Prop) (m:dr jG→Nat) (b:dr jG→lh)
def lh.fst:lh→lh
 | .td a _=>a
 | a=>a
def lh.snd:lh→lh
 | .td _ b=>b
 | a=>a
def z4:(jG:List bN)→(dr jG→aU)→aU
 | [],F=>F ()
 | e::r,F=> .all e.T fun x=>z4 r fun y=>F (x,y)
theorem Gy {R:Exit→TS→Prop}: ∀{jG:List bN} {F:dr jG→aU},(z4 jG F).den R→ ∀v,(F v).den R
 | [],F,h,()=>h
 | e::r,F,h,(x,y)=>Gy (h x) y
def D9:(e:bN)→TV→(e.T→aU)→aU
 | .int,v,K=>(match v with
  | .i _ m=>K m
  | _=> .no)
 | .u64,v,K=>(match v with
  | .i _ m=>K m
  | _=> .no)
 | .bool,v,K=>(match v with
  | .b x=>K x.den
  | _=> .no)
 | .str,v,K=>(match v with
  | .s x=>K x
  | _=> .no)
 | .nat,v,K=>(match v with
  | .blk g _ _ _ _=>K g
  | _=> .no)
 | .l e,v,K=>(match v with
  | .l dI xs _ _=>if h:dI=e then K (lm h xs) else .no
  | .blk _ dI xs _ _=>if h:dI=e then K (lm h xs) else .no
  | .nil _ _=>K []
  | _=> .no)
 | _,_,_=> .no
def zm (s:TS):(jG:List bN)→List Nat→(dr jG→aU)→aU
 | [],_,K=>K ()
 | e::r,k::yO,K=>D9 e (s.get k) fun x=>zm s r yO fun y=>K (x,y)
 | _,_,_=> .no
theorem Wj {R:Exit→TS→Prop} {e:bN} {v:TV} {K:e.T→aU} (h:(D9 e v K).den R): ∃x,(K x).den R:=by
 cases e with
 | int=>
  have h:(match v with
   | .i _ m=>K m
   | _=>aU.no).den R:=h
  split at h
  ·exact⟨_,h⟩
  ·exact h.elim
 | u64=>
  have h:(match v with
   | .i _ m=>K m
   | _=>aU.no).den R:=h
  split at h
  ·exact⟨_,h⟩
  ·exact h.elim
 | bool=>
  have h:(match v with
   | .b x=>K x.den
   | _=>aU.no).den R:=h
  split at h
  ·exact⟨_,h⟩
  ·exact h.elim
 | str=>
  have h:(match v with
   | .s x=>K x
   | _=>aU.no).den R:=h
  split at h
  ·exact⟨_,h⟩
  ·exact h.elim
 | nat=>
  have h:(match v with
   | .blk g _ _ _ _=>K g
   | _=>aU.no).den R:=h
  split at h
  ·exact⟨_,h⟩
  ·exact h.elim
 | l e=>
  have h:(match v with
   | .l dI xs _ _=>if h:dI=e then K (lm h xs) else aU.no
   | .blk _ dI xs _ _=>if h:dI=e then K (lm h xs) else aU.no
   | .nil _ _=>K []
   | _=>aU.no).den R:=h
  split at h
  ·split at h
   ·exact⟨_,h⟩
   ·exact h.elim
  ·split at h
   ·exact⟨_,h⟩
   ·exact h.elim
  ·exact⟨_,h⟩
  ·exact h.elim
 | _=>exact h.elim
theorem D_ {R:Exit→TS→Prop} {s:TS}: ∀{jG:List bN} {yO:List Nat} {K:dr jG→aU},(zm s jG yO K).den R→ ∃v,(K v).den R
 | [],_,K,h=>⟨(),h⟩
 | e::r,k::yO,K,h=>by
  obtain⟨x,h⟩:=Wj (show(D9 e (s.get k) _).den R from h)
  obtain⟨y,h⟩:=D_ h
  exact⟨(x,y),h⟩
 | e::r,[],K,h=>h.elim
def Ao (s:TS) (k:Nat) (w:TV) (t:aU):aU:=match w with
 | .ref b g m f=>(match s.get k with
  | .ref ca dy ft x2=>(match s.get (bY b) with
   | .blk _ _ xs KN _=> .eq ca b (.eq x2 f (.eq dy g (.eq ft KN (.eq m xs.length t))))
   | _=> .no)
  | _=> .no)
 | .blk g e xs _ _=>(match s.get k with
  | .blk dy dI Gh _ _=>if h:dI=e then .eq dy g (.eq (lm h Gh) xs t) else .no
  | _=> .no)
 | .b y=>(match s.get k with
  | .b x=> .eq x.den y.den t
  | _=> .no)
 | .i_ g c=>(match s.get k with
  | .i_ dy ea=> .eq dy g (.eq (dd ea) (dd c) (.eq ea.length c.length t))
  | _=> .no)
 | w=> .eq (s.get k) w t
def yN:TV→Bool
 | .blk _ _ _ _ _=>true
 | .i_ _ _=>true
 | .kn _ _ _=>true
 | _=>false
def CY:TV→Bool
 | .gm _ _ _ _=>true
 | .new _ _=>true
 | _=>false
theorem Px [FZ] {R:Exit→TS→Prop} {s:TS} {k:Nat} {w:TV} {t:aU} (h:(Ao s k w t).den R):(w.bz=(s.get k).bz∧(yN w=true→w.dC=(s.get k).dC)∧(CY w=true→s.get k=w))∧t.den R:=by
 unfold Ao at h
 split at h
 ·split at h
  ·rename_i ca dy ft x2 hk
   split at h
   ·rename_i aR jf xs KN aI hb
    obtain⟨h1,h2,aS,bt,cb,cE⟩:=h
    subst h1;subst h2;subst aS;subst bt;subst cb
    refine⟨⟨?_,(fun q=>by cases q),fun q=>by cases q⟩,cE⟩
    rw[hk,aI]
   ·exact h.elim
  ·exact h.elim
 ·split at h
  ·rename_i dy dI Gh ft yo hk
   split at h
   ·rename_i he
    subst he
    obtain⟨h1,h2,aS⟩:=h
    subst h1
    have h2:Gh=_:=h2
    subst h2
    refine⟨⟨?_,fun _=> ?_,fun q=>by cases q⟩,aS⟩<;>rw[hk]<;>rfl
   ·exact h.elim
  ·exact h.elim
 ·split at h
  ·rename_i y _ x hk
   obtain⟨h1,h2⟩:=h
   refine⟨⟨?_,(fun q=>by cases q),fun q=>by cases q⟩,h2⟩
   rw[hk];show AV.bool y.den= .bool x.den;rw[h1]
  ·exact h.elim
 ·split at h
  ·rename_i dy ea hk
   obtain⟨h1,h2,aS,bt⟩:=h
   refine⟨⟨by rw[hk];rfl,fun _=> ?_,fun q=>by cases q⟩,bt⟩
   rw[hk]
   show(⟨_,_,_⟩:Blk)=⟨_,_,_⟩
   rw[h1,h2,aS]
  ·exact h.elim
 ·obtain⟨h1,h2⟩:=h
  exact⟨⟨by rw[h1],(fun _=>by rw[h1]),fun _=>h1⟩,h2⟩
def Ap (s:TS):List (Nat×TV)→aU→aU
 | [],t=>t
 | (k,w)::r,t=>Ao s k w (Ap s r t)
theorem G3 [FZ] {R:Exit→TS→Prop} {s:TS} {t:aU}: ∀{l:List (Nat×TV)},(Ap s l t).den R→(∀k w,(k,w)∈l→w.bz=(s.get k).bz∧(yN w=true→w.dC=(s.get k).dC)∧(CY w=true→s.get k=w))∧t.den R
 | [],h=>⟨(fun k w h=>by cases h),h⟩
 | (k,w)::r,h=>by
  obtain⟨h1,h2⟩:=Px h
  obtain⟨aS,bt⟩:=G3 h2
  refine⟨fun jO w' hm=> ?_,bt⟩
  rcases List.mem_cons.1 hm with e | hm
  ·cases e;exact h1
  ·exact aS jO w' hm
def zD (vs:List (Nat×Nat)):List (Nat×Nat)→Bool
 | []=>true
 | (v,m)::r=>(match kA vs v with
  | some ft=>Nat.beq m ft
  | none=>false)&&zD vs r
def xn (s:TS):Nat→Bool
 | 0=>true
 | b+1=>yN (s.get (bY b))&&xn s b
def ti (ka:List (Nat×Nat)):List (Nat×Nat)→List Nat
 | []=>[]
 | (v,_)::r=>match(kA ka v).isSome with
  | true=>ti ka r
  | false=>v::ti ka r
def toHead (s S:TS) (t:aU):aU:=
 .eq (zD s.vs S.vs) true (.eq (Nat.beq S.bB s.bB) true (.eq (xn S s.bB) true (.eq (S.T.all fun p=>np (ti S.vs s.vs) p.2.bz) true (.eq (iX S) (iX s) (Ap s S.T t)))))
theorem DB: ∀{l:List (Nat×Nat)} {v m:Nat},kA l v=some m→(v,m)∈l
 | [],_,_,h=>by cases h
 | (k,ft)::r,v,m,h=>by
  unfold kA at h
  split at h
  ·rename_i hk;cases h;rw[Nat.eq_of_beq_eq_true hk];exact List.mem_cons_self ..
  ·exact List.mem_cons_of_mem _ (DB h)
theorem AK {ka:List (Nat×Nat)}: ∀{l:List (Nat×Nat)} {v m:Nat},(ti ka l).contains v=false→(v,m)∈l→(kA ka v).isSome=true
 | [],_,_,_,h=>by cases h
 | (k,ft)::r,v,m,bp,h=>by
  unfold ti at bp
  split at bp
  ·rename_i hk
   rcases List.mem_cons.1 h with e | h
   ·cases e;exact hk
   ·exact AK bp h
  ·rename_i hk
   simp only[List.contains_cons,Bool.or_eq_false_iff] at bp
   rcases List.mem_cons.1 h with e | h
   ·cases e;simp at bp
   ·exact AK bp.2 h
theorem NN {vs:List (Nat×Nat)}: ∀{l:List (Nat×Nat)},zD vs l=true→ ∀v m,(v,m)∈l→kA vs v=some m
 | [],_,_,_,h=>by cases h
 | (k,ft)::r,hs,v,m,h=>by
  simp only[zD,Bool.and_eq_true] at hs
  rcases List.mem_cons.1 h with e | h
  ·cases e
   have h1:=hs.1
   split at h1
   ·rename_i bE hm;rw[hm,Nat.eq_of_beq_eq_true h1]
   ·cases h1
  ·exact NN hs.2 v m h
theorem Gx {s:TS}: ∀{n:Nat},xn s n=true→ ∀b,b<n→yN (s.get (bY b))=true
 | 0,_,b,h=>by omega
 | n+1,hs,b,h=>by
  simp only[xn,Bool.and_eq_true] at hs
  rcases Nat.lt_or_ge b n with q | q
  ·exact Gx hs.2 b q
  ·have:b=n:=by omega
   subst this;exact hs.1
theorem toHead_sound [FZ] {n:Nat} {s S:TS} {t:aU} {R:Exit→TS→Prop} (eO:S.B=[]) (aQ:Fits s) (h:(toHead s S t).den R):Weak (s.aD n) (S.aD n)∧Fits S∧t.den R:=by
 obtain⟨h1,h2,aS,bt,da,cb⟩:=h
 obtain⟨cE,gp⟩:=G3 cb
 have tN:=Nat.eq_of_beq_eq_true h2
 have gR: ∀k,(∃v,(k,v)∈S.T∧S.get k=v)∨S.get k= .u:=fun k=>by
  unfold TS.get;rw[eO];exact Vk ..
 have Im: ∀k,(S.get k).bz=(s.get k).bz∨(S.get k).bz= .undef:=fun k=>by
  rcases gR k with⟨v,hm,e⟩ | e
  ·rw[e];exact .inl (cE k v hm).1
  ·rw[e];exact .inr rfl
 have tV: ∀k,CY (S.get k)=true→s.get k=S.get k:=fun k hk=>by
  rcases gR k with⟨v,hm,e⟩ | e
  ·rw[e] at hk ⊢;exact(cE k v hm).2.2 hk
  ·rw[e] at hk;cases hk
 have RG:Fits S:=fun V ids n8 h' ln=>by
  have e:=tV dE (by rw[ln];rfl)
  obtain⟨q1,q2,q3⟩:=aQ V ids n8 h' (by rw[e,ln])
  exact⟨q1,q2,fun id xs gY=>q3 id xs (by rw[tV fs (by rw[gY];rfl),gY])⟩
 refine⟨N5 da (fun t _=>Im t) (ti S.vs s.vs) ?_ (fun v m bp hm=> ?_) tN (fun b hb=> ?_),RG,gp⟩
 ·rw[List.all_eq_true]
  intro a a6
  obtain⟨k,_,rfl⟩:=List.mem_map.1 (show a∈(List.range n).map fun t=>(S.get t).bz from a6)
  rcases gR k with⟨v,hm,e⟩ | e
  ·rw[e];exact List.all_eq_true.1 bt (k,v) hm
  ·rw[e];rfl
 ·have hs:=AK bp (DB hm)
  cases aj:kA S.vs v with
  | none=>rw[aj] at hs;cases hs
  | some ft=>
   have:=NN h1 v ft (DB aj)
   rw[hm] at this
   cases this
   exact⟨rfl,fun c=>Im _⟩
 ·have hi:=Gx aS b hb
  rcases gR (bY b) with⟨v,hm,e⟩ | e
  ·rw[e] at hi ⊢;exact(cE _ v hm).2.1 hi
  ·rw[e] at hi;cases hi
def vk (n:Nat):List (Nat×Nat×bN)→TS→(TS→aU)→aU
 | [],s,K=>K s
 | p::r,s,K=>
  let s1:=s.hq s.bB (s.bB+1) (.blk 0 p.2.2 [] 0 rfl)
  match p.1 with
  | 0=> .eq (pU (cv n s (.tmp p.2.1)).bz) true (.eq s1.cy s.cy (.eq (iX s) true (vk n r (jT n s1 (some p.2.1) (.ref s.bB 0 0 false)) K)))
  | v+1=>
   let s2:=s1.add [(fB v p.2.1,.ref s.bB 0 0 false)] s1.vs s1.bB
   match kA s.vs v with
   | some m=> .eq (pU ((dd (hN s v 0 m)).getD p.2.1 .undef)) true (.eq s2.cy (lA s.cy v ((dd (hN s v 0 m)).set p.2.1 (.ref s.bB 0 0 0 false))) (.eq (ov [(fB v p.2.1,.ref s.bB 0 0 false)]) true (.eq (iX s) true (vk n r s2 K))))
   | none=> .no
theorem z3 [FZ] {n:Nat} (aC:n≤1000000) {R:Exit→TS→Prop} {K:TS→aU}: ∀{l:List (Nat×Nat×bN)} {s:TS},Fits s→(vk n l s K).den R→ ∃s',Weak (s.aD n) (s'.aD n)∧Fits s'∧(K s').den R
 | [],s,aQ,h=>⟨s,.refl _,aQ,h⟩
 | (p,q,e)::r,s,aQ,h=>by
  unfold vk at h
  simp only at h
  split at h
  ·obtain⟨h1,h2,da,h⟩:=h
   obtain⟨s',w,hf,h⟩:=z3 aC (zg aC (qo aQ)) h
   refine⟨s',Weak.trans ?_ w,hf,h⟩
   have cs:(cv n s (.tmp q)).bz=(s.aD n).T.getD q .undef:=(congrFun (kb n s) (.tmp q)).symm
   rw[cs] at h1
   have:=Weak.OC q e.k8 (L:=(s.aD n).L) (H:=(s.aD n).H) h1
   rw[zh aC]
   show Weak _ ⟨putA ((s.hq s.bB (s.bB+1) _).tT n) _ _,(s.hq s.bB (s.bB+1) _).cy,((s.hq s.bB (s.bB+1) _).aD n).H⟩
   rw[qn aC,h2,xz da]
   rw[zC da] at this
   exact this
  ·rename_i v
   split at h
   ·rename_i m hm
    obtain⟨h1,h2,eO,da,h⟩:=h
    obtain⟨s',w,hf,h⟩:=z3 aC (xm eO (qo aQ)) h
    refine⟨s',Weak.trans ?_ w,hf,h⟩
    have:=Weak.nG v q e.k8 (T:=(s.aD n).T) (H:=(s.aD n).H) (show ew (s.aD n).L v=some (dd (hN s v 0 m)) by rw[w0,hm];rfl) h1
    rw[zC da] at this
    show Weak _ ⟨(TS.add _ _ _ _).tT n,(TS.add _ _ _ _).cy,((TS.add _ _ _ _).aD n).H⟩
    rw[h2,xl aC eO,qn aC]
    have dN:=xk (n:=n) (s:=s.hq s.bB (s.bB+1) (.blk 0 e [] 0 rfl)) (vs:=(s.hq s.bB (s.bB+1) (.blk 0 e [] 0 rfl)).vs) eO
    rw[dN,xz da]
    exact this
   ·exact h.elim
def J9 (k:Nat):List (Nat×TV)→Bool
 | []=>false
 | p::r=>match Nat.beq p.1 k with
  | true=>true
  | false=>J9 k r
def C4 (s:TS) (fM:List (Nat×TV)):List Nat→List (Nat×TV)
 | []=>[]
 | k::r=>match J9 k fM with
  | true=>C4 s fM r
  | false=>(k,s.get k)::C4 s fM r
def N3 (v:Nat):Nat→Nat→List Nat
 | _,0=>[]
 | c,m+1=>fB v c::N3 v (c+1) m
def Kf:List (Nat×Nat)→List Nat
 | []=>[]
 | p::r=>N3 p.1 0 p.2++Kf r
def GR:Nat→List Nat
 | 0=>[]
 | b+1=>bY b::GR b
def e1 (ey:List Nat) (ka:List (Nat×Nat)) (k:Nat) (I:Int→Prop) (m:Int→Nat) (b:Int→lh):lh:= .lp [] ey ka [.int] [k] (fun v=>[(k,.i .i64 v.1)]) (fun v=>I v.1) (fun v=>m v.1) fun v=>b v.1
def aU.x1:aU→Bool
 | .jP ex _=>(match ex with
  | .normal=>false
  | _=>true)
 | .gW | .no | .all _ _=>false
 | .p _ t | .iV _ t | .eq _ _ t=>t.x1
 | .h5 _ _ x y | .two x y | .g3 x _ _ y=>(match x.x1 with
  | true=>true
  | false=>y.x1)
def rR:Code→Bool
 | .loop _=>true
 | .seq x y=>rR x || rR y
 | .cond _ x y=>rR x || rR y
 | .block _ x=>rR x
 | .scope x=>rR x
 | _=>false
def AU (iK:List (List (Nat×TV)×List (Nat×TV))) (t:aU):aU:=match iK with
 | []=>t
 | p::r=> .eq p.1 p.2 (AU r t)
theorem Hm {R:Exit→TS→Prop} {t:aU}: ∀{iK:List (List (Nat×TV)×List (Nat×TV))},(AU iK t).den R→(∀p∈iK,p.1=p.2)∧t.den R
 | [],h=>⟨(fun p h=>by cases h),h⟩
 | p::r,h=>by
  obtain⟨h1,h2⟩:=h
  obtain⟨aS,bt⟩:=Hm h2
  exact⟨fun q aj=>by
   rcases List.mem_cons.1 aj with rfl | aj
   ·exact h1
   ·exact aS q aj,bt⟩
structure xf (P:Program) where
 len:List Nat
 PT:List (Nat×List Item×List (List Nat))
 nB:List (qe P)
 zI:List (oj P)
def yS:List (Nat×List Item×List (List Nat))→Nat→(List Item→List (List Nat)→aU)→aU
 | [],_,_=> .no
 | p::r,id,K=>match Nat.beq p.1 id with
  | true=>K p.2.1 p.2.2
  | false=>yS r id K
section
variable {P:Program} (cf:gO P) (ez:xf P)
def vN (s:TS) (ey:List Nat) (ka:List (Nat×Nat)) (fM:List (Nat×TV)):TS:=⟨fM++C4 s fM (ey++(Kf ka++(dE::GR s.bB))),[],ka,s.bB⟩
def jC:Code→TS→lh→(Exit→TS→lh→aU)→aU
 | .skip,s,a,K=>K .normal s a
 | .ret,s,a,K=>K .ret s a
 | .exit id,s,a,K=>K (.exit id) s a
 | .region id ops draw,s,a,K=>(match draw with
  | false=>zr cf ⟨ez.len,ez.nB,ez.zI⟩ ops ops.toList s fun s=>K .normal s a
  | true=>yS ez.PT id fun ord je=>AI cf ⟨ez.len,ez.nB,ez.zI⟩ ops ord je s fun s=>K .normal s a)
 | .seq x y,s,a,K=>(match rR x with
  | true=>jC x s a fun ex s a=>match ex with
   | .normal=>jC y s a K
   | ex=>K ex s a
  | false=>match(jC x s a fun ex s _=> .jP ex s).lU with
   | .some S iK=>AU iK (.g3 ((jC x s a fun ex s _=> .jP ex s).bind fun ex s=>match ex with
    | .normal=> .gW
    | ex=>K ex s a.fst) (jC x s a fun ex s _=> .jP ex s).facts (jC x s a fun ex s _=> .jP ex s).kt (jC y S (match(jC x s a fun ex s _=> .jP ex s).x1 with
    | true=>a.snd
    | false=>a) K))
   | _=>jC x s a fun ex s a=>match ex with
    | .normal=>jC y s a K
    | ex=>K ex s a)
 | .cond c x y,s,a,K=>(match cv cf.n s c with
  | .b z=>zz z s fun b s=>match b with
   | true=>jC x s a.fst K
   | false=>jC y s a.snd K
  | _=> .no)
 | .block id c,s,a,K=>jC c s a fun ex s a=>match ex with
  | .exit fO=>(match Nat.beq fO id with
   | true=>K .normal s a
   | false=>K (.exit fO) s a)
  | ex=>K ex s a
 | .loop c,s,a,K=>(match a with
  | .lp kT ey ka jG rd fM I m b=>vk cf.n kT s fun s=>zm s jG rd fun g9=>toHead s (vN s ey ka (fM g9)) (.p (I g9) (z4 jG fun v=> .iV (I v) (jC c (vN s ey ka (fM v)) (b v) fun ex s' a=>match ex with
   | .normal=>zm s' jG rd fun eg=>toHead s' (vN s ey ka (fM eg)) (.p (I eg∧m eg<m v) .gW)
   | ex=>K ex s' a)))
  | _=> .no)
 | _,_,_,_=> .no
end
section
variable {P:Program} {cf:gO P} {ez:xf P}
theorem Vi {R:Exit→TS→Prop} {l:List (Nat×List Item×List (List Nat))} {id:Nat} {K:List Item→List (List Nat)→aU} (h:(yS l id K).den R): ∃o A,(K o A).den R:=by
 induction l with
 | nil=>exact h.elim
 | cons p r bO=>
  unfold yS at h
  split at h
  ·exact⟨_,_,h⟩
  ·exact bO h
theorem PU (aC:cf.n≤1000000) {ez:ol P} {R:Exit→TS→Prop} {ops:Array Oper} {ord:List Item} {je:List (List Nat)} {s:TS} {K:TS→aU} {Q:Exit→St→Prop} {id:Nat} (hK: ∀s (Z:FZ),(K s).den R→ @Fits Z s→Q .normal (@TS.aD Z cf.n s)) (Z:FZ) (aQ:Fits s) (h:(AI cf ez ops ord je s K).den R):WpS P (.region id ops true) Q (s.aD cf.n):=by
 unfold AI at h
 simp only at h
 split at h
 ·exact h.elim
 ·rename_i hb
  obtain⟨h1,h2,aS,bt,cb,gp,pB,h⟩:=h
  rw[zB]
  refine WpS.LQ (esc:=[]) ord je h1 h2 aS rfl _ gp pB ?_
  have:=LV aC (Kp:=fun T L H=>Q .normal ⟨T,L,H⟩) (fun s Z hs hf=>hK s Z hs hf) ord Z _ (xm hb aQ) bt h
  rw[cb,xk hb,xl aC hb] at this
  exact this
theorem Zj (aC:cf.n≤1000000): ∀(c:Code) {R:Exit→TS→Prop} {s:TS} {a:lh} {K:Exit→TS→lh→aU} {Q:Exit→St→Prop},(∀ex s a (Z:FZ),(K ex s a).den R→ @Fits Z s→Q ex (@TS.aD Z cf.n s))→ ∀Z:FZ,@Fits Z s→(jC cf ez c s a K).den R→WpS P c Q (@TS.aD Z cf.n s):=by
 intro c
 induction c with
 | skip=>intro R s a K Q hK Z aQ h;exact WpS.skip (hK _ _ _ Z h aQ)
 | ret=>intro R s a K Q hK Z aQ h;exact WpS.ret (hK _ _ _ Z h aQ)
 | exit id=>intro R s a K Q hK Z aQ h;exact WpS.exit (hK _ _ _ Z h aQ)
 | region id ops draw=>
  intro R s a K Q hK Z aQ h
  cases draw with
  | false=>
   rw[zB]
   refine WpS.LR (esc:=[]) rfl ?_
   exact Ef aC (Kp:=fun T L H=>Q .normal ⟨T,L,H⟩) (fun s Z hs hf=>hK _ s _ Z hs hf) ops.toList Z s aQ h
  | true=>
   obtain⟨ord,je,h⟩:=Vi h
   exact PU aC (fun s Z hs hf=>hK _ s _ Z hs hf) Z aQ h
 | cond c x y g1 gS=>
  intro R s a K Q hK Z aQ h
  unfold jC at h
  split at h
  ·rename_i z oR
   obtain⟨s',bF,e2,h⟩:=FM (n:=cf.n) h
   have hf:=aQ.congr fun k _ _=>e2 k
   rw[←bF]
   have hc:cc (s'.aD cf.n).T c= .bool z.den:=by
    rw[bF,congrFun (kb cf.n s) c]
    show(cv cf.n s c).bz=_
    rw[oR];rfl
   refine WpS.cond ?_
   rw[hc]
   refine⟨fun hb=> ?_,fun hb=> ?_⟩
   ·rw[hb] at h;exact g1 hK Z hf h
   ·rw[hb] at h;exact gS hK Z hf h
  ·exact h.elim
 | block id c bO=>
  intro R s a K Q hK Z aQ h
  refine WpS.block (bO (K:=fun ex s a=>match ex with
   | .exit fO=>(match Nat.beq fO id with
    | true=>K .normal s a
    | false=>K (.exit fO) s a)
   | ex=>K ex s a) (fun ex s a Z hs hf=> ?_) Z aQ h)
  cases ex with
  | exit fO=>
   show if fO=id then _ else _
   have hs:(match Nat.beq fO id with
    | true=>K .normal s a
    | false=>K (.exit fO) s a).den R:=hs
   split at hs
   ·rename_i hb;rw[if_pos (Nat.eq_of_beq_eq_true hb)];exact hK _ _ _ Z hs hf
   ·rename_i hb
    rw[if_neg fun e=>by subst e;rw[Nat.beq_refl] at hb;cases hb];exact hK _ _ _ Z hs hf
  | _=>exact hK _ _ _ Z hs hf
 | seq x y I8 I9=>
  intro R s a K Q hK Z aQ h
  have G9:(jC cf ez x s a fun ex s a=>match ex with
   | .normal=>jC cf ez y s a K
   | ex=>K ex s a).den R→WpS P (.seq x y) Q (s.aD cf.n):=fun h=>by
   refine WpS.seq (I8 (fun ex s a Z hs hf=> ?_) Z aQ h)
   cases ex with
   | normal=>exact I9 hK Z hf hs
   | _=>exact hK _ _ _ Z hs hf
  unfold jC at h
  split at h
  ·exact G9 h
  ·split at h
   ·rename_i S iK hm
    obtain⟨aj,h⟩:=Hm h
    obtain⟨h1,h2⟩:=h
    rw[aU.OX] at h1
    have aS:=aU.Vw hm aj h1
    refine WpS.seq (I8 (K:=fun ex s _=> .jP ex s) (fun ex s' hp Z hs hf=> ?_) Z aQ aS)
    have hs:_∧(ex= .normal→s'.gB S∧_∧_):=hs
    cases ex with
    | normal=>
     obtain⟨q1,q2,q3⟩:=hs.2 rfl
     exact WpS.jd (I9 hK Z (hf.le q1) (h2 (Qk q3 q2))) (Zh aC q1)
    | _=>exact hK _ _ _ Z hs.1 hf
   ·exact G9 h
 | loop c bO=>
  intro R s a K Q hK Z aQ h
  unfold jC at h
  split at h
  ·rename_i kT ey ka jG rd fM I m b
   obtain⟨s1,b_,wb,h⟩:=z3 aC aQ h
   obtain⟨g9,h⟩:=D_ h
   obtain⟨cR,yH,h⟩:=toHead_sound (n:=cf.n) rfl wb h
   obtain⟨a0,h⟩:=h
   have hv:=Gy h
   refine WpS.KE (V:=dr jG×FZ) (fun v=> @TS.aD v.2 cf.n (vN s1 ey ka (fM v.1))) (fun v=>I v.1∧ @Fits v.2 (vN s1 ey ka (fM v.1))) (fun v=>m v.1) rfl (g9,Z) (b_.trans cR) ⟨a0,yH⟩ fun v aM=> ?_
   refine bO (fun ex s' a Z' hs hf=> ?_) v.2 aM.2 (hv v.1 aM.1)
   cases ex with
   | normal=>
    obtain⟨eg,hs⟩:=D_ hs
    obtain⟨e7,yh,hs⟩:=toHead_sound (n:=cf.n) rfl hf hs
    exact⟨(eg,Z'),⟨hs.1.1,yh⟩,hs.1.2,e7⟩
   | _=>exact hK _ _ _ Z' hs hf
  ·exact h.elim
 | _=>intro R s a K Q hK Z aQ h;exact h.elim
end
end Go.Proofs.Ytglpfccgmfhkdaa.Fw
