/- The machine, part A: kinds of values, values told by their kinds, trees of conditions. -/
import Derived.Test.YtglpfccgmfhkdaaM2
set_option linter.unusedVariables false
namespace Go.Proofs.Ytglpfccgmfhkdaa.Fw
open Go
inductive bI where
 | int | u64 | u8 | bool | str | bp | kb | dr | fR | gK | held | frame | done | fault | stays | db | unit | nat
 | l (e:bI)
 | ptr (e:bI)
 | iq (f:Nat) (e:bI)
 deriving DecidableEq,Inhabited
@[reducible] def bI.T:bI→Type
 | .int=>Int
 | .u64=>Int
 | .u8=>UInt8
 | .bool=>Bool
 | .str=>ByteArray
 | .bp=>cA
 | .kb=>Way
 | .dr=>az
 | .fR=>Event
 | .gK=>a_
 | .held=>ad
 | .frame=>Frame
 | .done=>fJ
 | .fault=>jm
 | .stays=>nw
 | .db=>bc
 | .unit=>Unit
 | .nat=>Nat
 | .l e=>List e.T
 | .ptr e=>e.T
 | .iq _ e=>e.T
@[reducible] def bI.uO:(e:bI)→Inhabited e.T
 | .int=>inferInstanceAs (Inhabited Int)
 | .u64=>inferInstanceAs (Inhabited Int)
 | .u8=>inferInstanceAs (Inhabited UInt8)
 | .bool=>inferInstanceAs (Inhabited Bool)
 | .str=>inferInstanceAs (Inhabited ByteArray)
 | .bp=>inferInstanceAs (Inhabited cA)
 | .kb=>inferInstanceAs (Inhabited Way)
 | .dr=>inferInstanceAs (Inhabited az)
 | .fR=>inferInstanceAs (Inhabited Event)
 | .gK=>inferInstanceAs (Inhabited a_)
 | .held=>inferInstanceAs (Inhabited ad)
 | .frame=>inferInstanceAs (Inhabited Frame)
 | .done=>inferInstanceAs (Inhabited fJ)
 | .fault=>inferInstanceAs (Inhabited jm)
 | .stays=>inferInstanceAs (Inhabited nw)
 | .db=>inferInstanceAs (Inhabited bc)
 | .unit=>inferInstanceAs (Inhabited Unit)
 | .nat=>inferInstanceAs (Inhabited Nat)
 | .l e=>inferInstanceAs (Inhabited (List e.T))
 | .ptr e=>e.uO
 | .iq _ e=>e.uO
def tg (e:bI) (xs:List e.T) (i:Int):e.T:= @nth e.T e.uO xs i
def c7:List bI→Type
 | []=>Unit
 | e::r=>e.T×c7 r
def bI.kN:bI→List bI
 | .bp=>[.int,.int]
 | .kb=>[.l .int,.l .bp,.l .bp,.l .int,.l .int]
 | .dr=>[.int,.l .int,.l .kb,.l (.l .bool),.int]
 | .fR=>[.int,.int,.int]
 | .gK=>[.int,.int]
 | .held=>[.int,.int,.l .bool,.bool,.int]
 | .frame=>[.bool,.l .bool,.l .gK,.l .held]
 | .done=>[.int,.bool,.l .bool,.l .gK,.l .held]
 | .fault=>[.int,.int]
 | .stays=>[.l .int,.l .int,.l .int]
 | .db=>[.l .u8,.int,.u64]
 | e=>[e]
def bI.isS:bI→Bool
 | .bp | .kb | .dr | .fR | .gK | .held | .frame | .done | .fault | .stays | .db=>true
 | _=>false
def bI.mk:(e:bI)→c7 e.kN→e.T
 | .bp,(a,b,_)=>⟨a,b⟩
 | .kb,(a,b,c,d,e,_)=>⟨a,b,c,d,e⟩
 | .dr,(a,b,c,d,e,_)=>⟨a,b,c,d,e⟩
 | .fR,(a,b,c,_)=>⟨a,b,c⟩
 | .gK,(a,b,_)=>⟨a,b⟩
 | .held,(a,b,c,d,e,_)=>⟨a,b,c,d,e⟩
 | .frame,(a,b,c,d,_)=>⟨a,b,c,d⟩
 | .done,(a,b,c,d,e,_)=>⟨a,⟨b,c,d,e⟩⟩
 | .fault,(a,b,_)=>⟨a,b⟩
 | .stays,(a,b,c,_)=>⟨a,b,c⟩
 | .db,(a,b,c,_)=>⟨a,b,c⟩
 | .int,(a,_)=>a
 | .u64,(a,_)=>a
 | .u8,(a,_)=>a
 | .bool,(a,_)=>a
 | .str,(a,_)=>a
 | .unit,(a,_)=>a
 | .nat,(a,_)=>a
 | .l _,(a,_)=>a
 | .ptr _,(a,_)=>a
 | .iq _ _,(a,_)=>a
def bI.un:(e:bI)→e.T→c7 e.kN
 | .bp,x=>(x.sw,x.bp,())
 | .kb,x=>(x.af,x.a2,x.bB,x.cQ,x.cu,())
 | .dr,x=>(x.af,x.be,x.O,x.bW,x.dx,())
 | .fR,x=>(x.op,x.ai,x.bp,())
 | .gK,x=>(x.cH,x.a2,())
 | .held,x=>(x.ao,x.ag,x.ac,x.aq,x.ar,())
 | .frame,x=>(x.ok,x.av,x.au,x.O,())
 | .done,x=>(x.code,x.frame.ok,x.frame.av,x.frame.au,x.frame.O,())
 | .fault,x=>(x.code,x.pos,())
 | .stays,x=>(x.O,x.af,x.au,())
 | .db,x=>(x.code,x.pos,x.tC,())
 | .int,x=>(x,())
 | .u64,x=>(x,())
 | .u8,x=>(x,())
 | .bool,x=>(x,())
 | .str,x=>(x,())
 | .unit,x=>(x,())
 | .nat,x=>(x,())
 | .l _,x=>(x,())
 | .ptr _,x=>(x,())
 | .iq _ _,x=>(x,())
theorem bI.S6 (e:bI) (x:c7 e.kN):e.un (e.mk x)=x:=by cases e<;>rfl
def cb (fr:Bool):(e:bI)→e.T→List AV
 | .int,x=>c_ x
 | .u64,x=>[.int .u64 x]
 | .u8,x=>n_ x
 | .bool,x=>aY x
 | .str,x=>Ek x
 | .bp,x=>dp x
 | .kb,x=>dw fr x
 | .dr,x=>bg fr x
 | .fR,x=>jo x
 | .gK,x=>a7 x
 | .held,x=>dM fr x
 | .frame,x=>b1 fr x
 | .done,x=>sN fr x
 | .fault,x=>Eh x
 | .stays,x=>Ej fr x
 | .db,x=>Vf fr x
 | .l e,x=>[.bD (x.map (cb false e)) false fr]
 | .unit,_ | .nat,_ | .ptr _,_ | .iq _ _,_=>[.undef]
def oU (fr:Bool):(e:bI)→e.T→AV
 | .int,x=> .int .i64 x
 | .u64,x=> .int .u64 x
 | .u8,x=> .int .u8 x.toNat
 | .bool,x=> .bool x
 | .str,x=> .str x
 | .l e,x=> .bD (x.map (cb false e)) false fr
 | _,_=> .undef
def l4 (fr:Bool):(es:List bI)→c7 es→List AV
 | [],_=>[]
 | e::r,x=>oU fr e x.1::l4 fr r x.2
theorem qB (fr:Bool) (e:bI) (x:e.T):l4 fr e.kN (e.un x)=cb fr e x:=by
 cases e<;>first | rfl | (simp only[bI.kN,bI.un,l4,oU,cb];rfl)
def bI.mb:bI→Nat
 | .bp=>2
 | .kb=>5
 | .dr=>5
 | .fR=>3
 | .gK=>2
 | .held=>5
 | .frame=>4
 | .done=>5
 | .fault=>2
 | .stays=>3
 | .db=>3
 | _=>1
theorem rK (fr:Bool) (e:bI) (x:e.T):(cb fr e x).length=e.mb:=by cases e<;>rfl
def bI.o8:bI→Bool
 | .unit | .nat | .ptr _ | .iq _ _=>false
 | _=>true
theorem Vm {fr:Bool} {e:bI} (h:e.o8=true) (x:e.T):(cb fr e x).all ji=true:=by cases e<;>first | rfl | cases h
inductive eL where
 | t | f
 | v (b:Bool)
 | at(i:Nat) (b:Bool)
 | n (x:eL)
 | aG (x y:eL)
 | or (x y:eL)
 | ite (c x y:eL)
 deriving Inhabited
def eL.den:eL→Bool
 | .t=>true
 | .f=>false
 | .v b=>b
 | .at _ b=>b
 | .n x=> !x.den
 | .aG x y=>x.den&&y.den
 | .or x y=>x.den || y.den
 | .ite c x y=>bif c.den then x.den else y.den
def eL.not:eL→eL
 | .t=> .f
 | .f=> .t
 | x=> .n x
def eL.u7 (b x y:eL):eL:=match x with
 | .t=>(match y with
  | .t=> .t
  | .f=>b
  | y=> .or b y)
 | .f=>(match y with
  | .f=> .f
  | .t=> .n b
  | y=> .aG (.n b) y)
 | x=>(match y with
  | .f=> .aG b x
  | .t=> .or (.n b) x
  | y=> .ite b x y)
theorem eL.zA (b x y:eL):(eL.u7 b x y).den=bif b.den then x.den else y.den:=by
 cases x<;>cases y<;>simp only[eL.u7,eL.den]<;>cases b.den<;>simp
inductive TV where
 | u
 | i (k:IntKind) (n:Int)
 | b (x:eL)
 | s (x:ByteArray)
 | l (e:bI) (xs:List e.T) (full fr:Bool)
 | nil (full fr:Bool)
 | ref (b g n:Nat) (full:Bool)
 | ptr (b g:Nat) (i:Int) (n col:Nat)
 | lp (t col:Nat)
 | dA (e:bI) (x:e.T) (col:Nat)
 | agg (c:List TV)
 | tup (c:List TV)
 | fn (f:FuncId) (c:List TV)
 | o (a:AV)
 | blk (g:Nat) (e:bI) (xs:List e.T) (n:Nat) (h:xs.length=n)
 | eI (g:Nat) (c:List TV)
 | kz (g m:Nat) (ids:List Nat)
 | g4 (V:List ad) (ids:List Nat) (n:Nat) (h:V.length=n)
 | new (id:Nat) (xs:List Bool)
 | wv (w:Int) (ids:List Nat) (m n:Nat)
 | wu (w:Int) (ids:List Nat) (m:Nat) (j:Int)
 | zu (id m n:Nat)
 deriving Inhabited
class FZ where
 ws:List ad
 bs:List (List Bool)
mutual
def TV.bE:TV→AV
 | .u=> .undef
 | .i k n=> .int k n
 | .b x=> .bool x.den
 | .s x=> .str x
 | .l e xs full fr=> .bD (xs.map (cb false e)) full fr
 | .nil full fr=> .bD [] full fr
 | .ref b g n full=> .ref b g 0 n full
 | .ptr b g i _ c=> .ptr b g i.toNat c
 | .lp t c=> .fG t c
 | .dA e x c=> .dA (cb false e x) c
 | .agg c=> .agg (cS c)
 | .tup c=> .tup (cS c)
 | .fn f c=> .fn f (cS c)
 | .o a=>a
 | .blk _ _ _ _ _=> .undef
 | .eI _ _=> .undef
 | .kz _ _ _=> .undef
 | .g4 _ _ _ _=> .undef
 | .new _ _=> .undef
 | .wv w ids m k=> .ref (nth ids w+m) 0 0 k false
 | .wu w ids m j=> .ptr (nth ids w+m) 0 j.toNat 0
 | .zu id m k=> .ref (id+m) 0 0 k false
def cS:List TV→List AV
 | []=>[]
 | x::r=>x.bE::cS r
end
theorem n4 (l:List TV):cS l=l.map TV.bE:=by
 induction l with
 | nil=>rfl
 | cons x r bS=>rw[cS,bS];rfl
def TV.eo [Z:FZ]:TV→Blk
 | .blk g e xs _ _=>⟨g,e.mb,xs.map (cb true e)⟩
 | .eI g c=>⟨g,c.length,[cS c]⟩
 | .kz g m ids=>⟨g,5,a0 m Z.ws ids⟩
 | _=>⟨0,0,[]⟩
def Af (fr:Bool):(e:bI)→e.T→TV
 | .int,x=> .i .i64 x
 | .u64,x=> .i .u64 x
 | .u8,x=> .i .u8 x.toNat
 | .bool,x=> .b (.v x)
 | .str,x=> .s x
 | .l e,x=> .l e x false fr
 | _,_=> .u
def Dg (fr:Bool):(es:List bI)→c7 es→List TV
 | [],_=>[]
 | e::r,x=>Af fr e x.1::Dg fr r x.2
theorem Jv (fr:Bool) (e:bI) (x:e.T):(Af fr e x).bE=oU fr e x:=by cases e<;>rfl
theorem S1 (fr:Bool): ∀(es:List bI) (x:c7 es),cS (Dg fr es x)=l4 fr es x
 | [],_=>rfl
 | e::r,x=>by rw[Dg,cS,l4,Jv,S1 fr r]
def gI (fr:Bool) (e:bI) (x:e.T):List TV:=Dg fr e.kN (e.un x)
theorem v5 (fr:Bool) (e:bI) (x:e.T):cS (gI fr e x)=cb fr e x:=by rw[gI,S1,qB]
structure TS where
 T:List (Nat×TV)
 B:List (Nat×TV)
 vs:List (Nat×Nat)
 br:Nat
 deriving Inhabited
def fW:List (Nat×TV)→Nat→TV→TV
 | [],_,d=>d
 | (k,v)::r,t,d=>match Nat.beq k t with
  | true=>v
  | false=>fW r t d
def eG (v c:Nat):Nat:=1000010+(1000*v+c)
def dL:Nat:=1000000
def gd:Nat:=1000001
def bC (b:Nat):Nat:=1000000000000+b
def TS.get (s:TS) (k:Nat):TV:=fW s.T k (fW s.B k .u)
def TS.put (s:TS) (k:Nat) (v:TV):TS:=⟨(k,v)::s.T,s.B,s.vs,s.br⟩
def hW (s:TS) (v:Nat):Nat→Nat→List TV
 | _,0=>[]
 | c,m+1=>s.get (eG v c)::hW s v (c+1) m
def TS.tT (n:Nat) (s:TS):List AV:=(List.range n).map fun t=>(s.get t).bE
def TS.cw (s:TS):List (Nat×List AV):=s.vs.map fun p=>(p.1,cS (hW s p.1 0 p.2))
def iv (s:TS):Bool:=match s.get dL with
 | .g4 _ _ _ _=>false
 | _=>true
def g5 [Z:FZ] (s:TS):List Blk:=match iv s with
 | true=>[]
 | false=>Z.bs.map bm
def TS.gu [FZ] (s:TS):List Blk:=(List.range s.br).map fun b=>(s.get (bC b)).eo
def TS.aJ [FZ] (n:Nat) (s:TS):St:=⟨s.tT n,s.cw,s.gu++g5 s⟩
def Fits [Z:FZ] (s:TS):Prop:=
 (∀V ids n h,s.get dL= .g4 V ids n h→gy Z.ws ids Z.bs∧view Z.ws ids Z.bs=V∧ ∀id xs,s.get gd= .new id xs→id<Z.bs.length∧Z.bs.getD id []=xs∧ ∀j:Nat,ids[j]?≠some id)
theorem Fits.congr [FZ] {s s':TS} (h:Fits s) (e: ∀k,1000000≤k→k<1000010→s'.get k=s.get k):Fits s':=fun V ids n h' lC=>by
 rw[e dL (by unfold dL;omega) (by unfold dL;omega)] at lC
 obtain⟨h1,h2,a8⟩:=h V ids n h' lC
 refine⟨h1,h2,fun id xs hi=>a8 id xs ?_⟩
 rw[←hi,e gd (by unfold gd;omega) (by unfold gd;omega)]
theorem Fits.none [FZ] {s:TS} (h:iv s=true):Fits s:=fun V ids n h' lC=>by
 unfold iv at h;rw[lC] at h;cases h
theorem gJ (k:Nat) (v:TV) (r:List (Nat×TV)) (t:Nat) (d:TV):fW ((k,v)::r) t d=if k=t then v else fW r t d:=by
 show(match Nat.beq k t with
  | true=>v
  | false=>fW r t d)=_
 by_cases h:k=t
 ·subst h;rw[Nat.beq_refl,if_pos rfl]
 ·rw[if_neg h]
  cases hb:Nat.beq k t with
  | true=>exact absurd (Nat.eq_of_beq_eq_true hb) h
  | false=>rfl
theorem sc (A B:List (Nat×TV)) (t:Nat) (d:TV):fW (A++B) t d=fW A t (fW B t d):=by
 induction A with
 | nil=>rfl
 | cons p r bS=>obtain⟨k,v⟩:=p;rw[List.cons_append,gJ,gJ,bS]
theorem tb {A:List (Nat×TV)} {t:Nat} {d:TV} (h: ∀v,(t,v) ∉ A):fW A t d=d:=by
 induction A with
 | nil=>rfl
 | cons p r bS=>
  obtain⟨k,v⟩:=p
  rw[gJ,if_neg,bS fun w hw=>h w (List.mem_cons_of_mem _ hw)]
  rintro rfl;exact h v (List.mem_cons_self ..)
theorem TS.EW (s:TS) (k:Nat) (v:TV) (t:Nat):(s.put k v).get t=if k=t then v else s.get t:=gJ ..
inductive aW:Type 1 where
 | kM (ex:Exit) (s:TS)
 | hI
 | no
 | p (φ:Prop) (t:aW)
 | j3 (φ:Prop) (t:aW)
 | jc (b:eL) (s:TS) (x y:aW)
 | two (x y:aW)
 | hP (x:aW) (fy:List Prop) (b:eL) (y:aW)
 | all (α:Type) (f:α→aW)
 | eq {α:Type} (a b:α) (t:aW)
def qz:List Prop→Prop
 | []=>True
 | φ::r=>match r with
  | []=>φ
  | r=>φ∧qz r
theorem Ks: ∀{l:List Prop},(∀φ∈l,φ)→qz l
 | [],_=>trivial
 | [φ],h=>h φ (by simp)
 | φ::ψ::r,h=>⟨h φ (by simp),Ks (l:=ψ::r) fun x hx=>h x (List.mem_cons_of_mem _ hx)⟩
def wj (fy:List Prop):eL→List Prop
 | .t=>fy
 | b=>fy++[b.den=true]
def yx (fy:List Prop) (b:eL):Prop:=qz (wj fy b)
theorem Vz {fy:List Prop} {b:eL} (h: ∀φ∈fy,φ) (hb:b.den=true):yx fy b:=by
 unfold yx
 refine Ks fun φ fb=> ?_
 unfold wj at fb
 split at fb
 ·exact h φ fb
 ·rcases List.mem_append.1 fb with q | q
  ·exact h φ q
  ·rw[List.mem_singleton.1 q];exact hb
def aW.den:aW→(Exit→TS→Prop)→Prop
 | .kM ex s,R=>R ex s
 | .hI,_=>True
 | .no,_=>False
 | .p φ t,R=>φ∧t.den R
 | .j3 φ t,R=>φ→t.den R
 | .jc b _ x y,R=>(b.den=true→x.den R)∧(b.den=false→y.den R)
 | .two x y,R=>x.den R∧y.den R
 | .hP x fy b y,R=>x.den R∧(yx fy b→y.den R)
 | .all _ f,R=> ∀a,(f a).den R
 | .eq a b t,R=>a=b∧t.den R
def aW.bind:aW→(Exit→TS→aW)→aW
 | .kM ex s,K=>K ex s
 | .hI,_=> .hI
 | .no,_=> .no
 | .p φ t,K=> .p φ (t.bind K)
 | .j3 φ t,K=> .j3 φ (t.bind K)
 | .jc b s x y,K=> .jc b s (x.bind K) (y.bind K)
 | .two x y,K=> .two (x.bind K) (y.bind K)
 | .hP x fy b y,K=> .hP (x.bind K) fy b (y.bind K)
 | .all α f,K=> .all α fun a=>(f a).bind K
 | .eq a b t,K=> .eq a b (t.bind K)
theorem aW.T8 (t:aW) (K:Exit→TS→aW) (R:Exit→TS→Prop):(t.bind K).den R=t.den fun ex s=>(K ex s).den R:=by
 induction t with
 | kM ex s=>rfl
 | hI=>rfl
 | no=>rfl
 | p φ t bS=>simp only[aW.bind,aW.den,bS]
 | j3 φ t bS=>simp only[aW.bind,aW.den,bS]
 | jc b s x y h5 hO=>simp only[aW.bind,aW.den,h5,hO]
 | two x y h5 hO=>simp only[aW.bind,aW.den,h5,hO]
 | hP x fy b y h5 hO=>simp only[aW.bind,aW.den,h5,hO]
 | all α f bS=>simp only[aW.bind,aW.den,bS]
 | eq a b t bS=>simp only[aW.bind,aW.den,bS]
theorem aW.rJ {t:aW} {R x_:Exit→TS→Prop} (h:t.den R) (k: ∀ex s,R ex s→x_ ex s):t.den x_:=by
 induction t with
 | kM ex s=>exact k _ _ h
 | hI=>trivial
 | no=>exact h
 | p φ t bS=>exact⟨h.1,bS h.2⟩
 | j3 φ t bS=>exact fun q=>bS (h q)
 | jc b s x y h5 hO=>exact⟨fun q=>h5 (h.1 q),fun q=>hO (h.2 q)⟩
 | two x y h5 hO=>exact⟨h5 h.1,hO h.2⟩
 | hP x fy b y h5 hO=>exact⟨h5 h.1,fun q=>hO (h.2 q)⟩
 | all α f bS=>exact fun a=>bS a (h a)
 | eq a b t bS=>exact⟨h.1,bS h.2⟩
inductive f_:Type 1 where
 | hI
 | p (φ:Prop)
 | and (a b:f_)
 | j3 (φ:Prop) (c:f_)
 | all (α:Type) (f:α→f_)
def f_.and' (a b:f_):f_:=match a with
 | .hI=>b
 | a=>match b with
  | .hI=>a
  | b=> .and a b
def f_.w2 (φ:Prop) (c:f_):f_:=match c with
 | .hI=> .hI
 | c=> .j3 φ c
def f_.den:f_→Prop
 | .hI=>True
 | .p φ=>φ
 | .and a b=>a.den∧b.den
 | .j3 φ c=>φ→c.den
 | .all _ f=> ∀a,(f a).den
theorem f_.Az (a b:f_):(f_.and' a b).den↔a.den∧b.den:=by
 cases a<;>cases b<;>simp[f_.and',f_.den]
theorem f_.B4 (φ:Prop) (c:f_):(f_.w2 φ c).den↔(φ→c.den):=by
 cases c<;>simp[f_.w2,f_.den]
def f_.fact (fy:List Prop) (b:eL) (c:f_):f_:=match wj fy b with
 | []=>c
 | φ::r=> .w2 (qz (φ::r)) c
theorem f_.VA (fy:List Prop) (b:eL) (c:f_):(f_.fact fy b c).den↔(yx fy b→c.den):=by
 unfold f_.fact yx
 split
 ·rename_i h;rw[h];simp[qz]
 ·rename_i h;rw[h];exact f_.B4 _ _
def aW.n6:aW→f_
 | .kM _ _=> .hI
 | .hI=> .hI
 | .no=> .p False
 | .p φ t=> .and' (.p φ) t.n6
 | .j3 φ t=> .w2 φ t.n6
 | .jc b _ x y=> .and' (.w2 (b.den=true) x.n6) (.w2 (b.den=false) y.n6)
 | .two x y=> .and' x.n6 y.n6
 | .hP x fy b y=> .and' x.n6 (.fact fy b y.n6)
 | .all α f=> .all α fun a=>(f a).n6
 | .eq _ _ t=>t.n6
inductive rD:Type 1 where
 | u
 | v {α:Type} (a:α) (t:rD)
 | n (a b:rD)
 | f {α:Type} (g:α→rD)
def aW.lhs:aW→rD
 | .kM _ _ | .hI | .no=> .u
 | .p _ t | .j3 _ t=>t.lhs
 | .jc _ _ x y | .two x y | .hP x _ _ y=> .n x.lhs y.lhs
 | .all _ f=> .f fun a=>(f a).lhs
 | .eq a _ t=> .v a t.lhs
def aW.rhs:aW→rD
 | .kM _ _ | .hI | .no=> .u
 | .p _ t | .j3 _ t=>t.rhs
 | .jc _ _ x y | .two x y | .hP x _ _ y=> .n x.rhs y.rhs
 | .all _ f=> .f fun a=>(f a).rhs
 | .eq _ b t=> .v b t.rhs
theorem aW.full {t:aW} (h:t.n6.den) (e:t.lhs=t.rhs):t.den fun _ _=>True:=by
 induction t with
 | kM ex s=>trivial
 | hI=>trivial
 | no=>exact h
 | p φ t bS=>
  have h:=(f_.Az _ _).1 h
  exact⟨h.1,bS h.2 e⟩
 | j3 φ t bS=>exact fun q=>bS ((f_.B4 _ _).1 h q) e
 | jc b s x y h5 hO=>
  have h:=(f_.Az _ _).1 h
  injection e with bA e2
  exact⟨fun q=>h5 ((f_.B4 _ _).1 h.1 q) bA,fun q=>hO ((f_.B4 _ _).1 h.2 q) e2⟩
 | two x y h5 hO=>
  have h:=(f_.Az _ _).1 h
  injection e with bA e2
  exact⟨h5 h.1 bA,hO h.2 e2⟩
 | hP x fy b y h5 hO=>
  have h:=(f_.Az _ _).1 h
  injection e with bA e2
  exact⟨h5 h.1 bA,fun q=>hO ((f_.VA _ _ _).1 h.2 q) e2⟩
 | all α f bS=>
  injection e with _ e
  exact fun a=>bS a (h a) (congrFun e a)
 | eq a b t bS=>
  injection e with _ bA e2
  exact⟨bA,bS h e2⟩
def u9 (b:eL) (x y:TV):TV:=match x with
 | .i k n=>(match y with
  | .i kK m=>if k=kK then .i k (bif b.den then n else m) else .u
  | _=> .u)
 | .b x=>(match y with
  | .b y=> .b (eL.u7 b x y)
  | _=> .u)
 | _=> .u
def eL.sb:eL→eL→Bool
 | .at i _,.at j _=>Nat.beq i j
 | .t,.t=>true
 | .f,.f=>true
 | .n x,.n y=>x.sb y
 | .aG x y,.aG z w=>x.sb z&&y.sb w
 | .or x y,.or z w=>x.sb z&&y.sb w
 | .ite c x y,.ite d z w=>c.sb d&&x.sb z&&y.sb w
 | _,_=>false
def G0 (x y:TV):Bool:=match x with
 | .b x=>(match y with
  | .b y=>x.sb y
  | _=>false)
 | _=>false
def Ch (b:eL) (x y:TV):TV:=match G0 x y with
 | true=>x
 | false=>u9 b x y
def uU (s s':TS):List (Nat×TV)→List (List (Nat×TV)×List (Nat×TV))
 | []=>[]
 | p::r=>match G0 (s.get p.1) (s'.get p.1) with
  | true=>([(p.1,s.get p.1)],[(p.1,s'.get p.1)])::uU s s' r
  | false=>uU s s' r
inductive rE where
 | bad
 | none
 | some (s:TS) (jN:List (List (Nat×TV)×List (Nat×TV)))
def l1 {e d_:bI} (h:d_=e) (xs:List d_.T):List e.T:=h▸xs
def ET:(e:bI)→TV→e.T
 | .int,.i _ m=>m
 | .u64,.i _ m=>m
 | .bool,.b x=>x.den
 | .str,.s x=>x
 | .l e,.l d_ xs _ _=>if h:d_=e then l1 h xs else[]
 | e,_=>e.uO.default
def oV:(es:List bI)→List TV→c7 es
 | [],_=>()
 | e::r,v::vs=>(ET e v,oV r vs)
 | e::r,[]=>(e.uO.default,oV r [])
def qZ (c:List TV):bc:=bI.mk .db (oV bI.db.kN c)
def B7:TV→Bool
 | .eI _ _=>true
 | _=>false
def xi (s s':TS):List (Nat×TV)→Bool
 | []=>true
 | (k,_)::r=>match Nat.blt k 1000000 with
  | true=>xi s s' r
  | false=>match B7 (s.get k)&&B7 (s'.get k)&&Nat.ble 1000010 k with
   | true=>xi s s' r
   | false=>false
def abT (b:eL) (x y:TV):TV:=match x with
 | .eI g c=>(match y with
  | .eI _ c'=> .eI g (gI false .db (bif b.den then qZ c else qZ c'))
  | _=> .u)
 | _=> .u
def sf (b:eL) (k:Nat) (x y:TV):TV:=match Nat.blt k 1000000 with
 | true=>Ch b x y
 | false=>abT b x y
def acM (x y:TV):List (List (Nat×TV)×List (Nat×TV)):=match x with
 | .eI g c=>(match y with
  | .eI dK c'=>[([(g,.agg c)],[(dK,.agg (gI false .db (qZ c)))]),([(0,.agg c')],[(0,.agg (gI false .db (qZ c')))])]
  | _=>[])
 | _=>[]
def vh (s s':TS):List (Nat×TV)→List (List (Nat×TV)×List (Nat×TV))
 | []=>[]
 | p::r=>match Nat.blt p.1 1000000 with
  | true=>vh s s' r
  | false=>acM (s.get p.1) (s'.get p.1)++vh s s' r
def A6:List (Nat×Nat)→List (Nat×Nat)→Bool
 | [],[]=>true
 | (a,b)::r,(c,d)::q=>Nat.beq a c&&Nat.beq b d&&A6 r q
 | _,_=>false
def rE.jc (b:eL) (ed:TS) (x y:rE):rE:=match x with
 | .bad=> .bad
 | .none=>(match y with
  | .bad=> .bad
  | .none=> .none
  | .some s q=> .some ⟨s.T++ed.T,ed.B,s.vs,s.br⟩ ((s.B,ed.T++ed.B)::q))
 | .some s q=>(match y with
  | .bad=> .bad
  | .none=> .some ⟨s.T++ed.T,ed.B,s.vs,s.br⟩ ((s.B,ed.T++ed.B)::q)
  | .some s' tm=>match xi s s' (s.T++s'.T)&&A6 s.vs s'.vs&&Nat.beq s.br s'.br with
   | true=> .some ⟨(s.T++s'.T).map (fun p=>(p.1,sf b p.1 (s.get p.1) (s'.get p.1)))++ed.T,ed.B,s.vs,s.br⟩ ((s.B,ed.T++ed.B)::(s'.B,ed.T++ed.B)::(q++(tm++(uU s s' (s.T++s'.T)++vh s s' (s.T++s'.T)))))
   | false=> .bad)
def aW.m9:aW→rE
 | .kM ex s=>(match ex with
  | .normal=> .some s []
  | _=> .none)
 | .hI | .no=> .none
 | .p _ t | .j3 _ t | .eq _ _ t=>t.m9
 | .jc b s x y=>rE.jc b s x.m9 y.m9
 | .two _ _ | .all _ _=> .bad
 | .hP x _ _ y=>(match x.m9 with
  | .none=>y.m9
  | _=> .bad)
def aW.lz:aW→eL
 | .kM ex _=>(match ex with
  | .normal=> .t
  | _=> .f)
 | .hI | .no=> .f
 | .p _ t | .j3 _ t | .eq _ _ t=>t.lz
 | .jc b _ x y=>eL.u7 b x.lz y.lz
 | .two _ _ | .all _ _=> .t
 | .hP _ _ b y=>(match b with
  | .t=>y.lz
  | b=>eL.u7 b y.lz .f)
def aW.facts:aW→List Prop
 | .kM _ _ | .hI | .no | .two _ _ | .all _ _=>[]
 | .p _ t | .eq _ _ t=>t.facts
 | .j3 φ t=>φ::t.facts
 | .jc _ _ x y=>(match x.lz with
  | .f=>y.facts
  | _=>match y.lz with
   | .f=>x.facts
   | _=>[])
 | .hP _ fy _ y=>fy++y.facts
def JN (x y:TV):Prop:= ∃g c c',x= .eI g c∧y= .eI g c'∧cS c'=cS c
structure TS.gN (s S:TS):Prop where
 vs:S.vs=s.vs
 br:S.br=s.br
 get: ∀k,S.get k=s.get k∨(k<1000000∧((S.get k).bE=(s.get k).bE∨(S.get k).bE= .undef))∨(1000010≤k∧JN (s.get k) (S.get k))
theorem TS.gN.refl (s:TS):s.gN s:=⟨rfl,rfl,fun _=> .inl rfl⟩
theorem TS.gN.trans {a b c:TS} (h:a.gN b) (k:b.gN c):a.gN c:=⟨k.vs.trans h.vs,k.br.trans h.br,fun t=>by
 rcases k.get t with e | ⟨aL,e⟩ | ⟨aL,e⟩
 ·rw[e];exact h.get t
 ·refine .inr (.inl ⟨aL,?_⟩)
  rcases e with e | e
  ·rcases h.get t with q | ⟨_,q⟩ | ⟨hb,_⟩
   ·rw[e,q];exact .inl rfl
   ·rw[e];exact q
   ·omega
  ·exact .inr e
 ·refine .inr (.inr ⟨aL,?_⟩)
  rcases h.get t with q | ⟨hb,_⟩ | ⟨_,q⟩
  ·rw[←q];exact e
  ·omega
  ·obtain⟨g,x,y,bA,e2,dV⟩:=e
   obtain⟨dK,lm,agM,f1,f2,f3⟩:=q
   rw[bA] at f2
   cases f2
   exact⟨g,lm,y,f1,e2,dV.trans f3⟩⟩
theorem ab2 {s s':TS} {l:List (Nat×TV)} (h:xi s s' l=true) {k:Nat} {v:TV} (hm:(k,v)∈l) (hk: ¬k<1000000):1000010≤k∧(∃g c,s.get k= .eI g c)∧ ∃g c,s'.get k= .eI g c:=by
 induction l with
 | nil=>cases hm
 | cons p r bS=>
  obtain⟨a,w⟩:=p
  unfold xi at h
  split at h
  ·rename_i a4
   rcases List.mem_cons.1 hm with e | hm
   ·cases e;exact absurd (by rw[←Nat.blt_eq];exact a4) hk
   ·exact bS h hm
  ·split at h
   ·rename_i hc
    rcases List.mem_cons.1 hm with e | hm
    ·cases e
     simp only[Bool.and_eq_true] at hc
     have PU: ∀x:TV,B7 x=true→ ∃g c,x= .eI g c:=fun x hx=>by
      unfold B7 at hx
      split at hx
      ·exact⟨_,_,rfl⟩
      ·cases hx
     exact⟨Nat.le_of_ble_eq_true hc.2,PU _ hc.1.1,PU _ hc.1.2⟩
    ·exact bS h hm
   ·cases h
theorem PT {s s':TS}: ∀{l:List (Nat×TV)},(∀p∈vh s s' l,p.1=p.2)→ ∀k v,(k,v)∈l→ ¬k<1000000→ ∀(g:Nat) (c:List TV) (dK:Nat) (c':List TV),s.get k= .eI g c→s'.get k= .eI dK c'→g=dK∧c=gI false .db (qZ c)∧c'=gI false .db (qZ c')
 | [],_,k,v,h,_=>by cases h
 | p::r,aj,k,v,h,hk=>fun g c dK c' bA e2=>by
  unfold vh at aj
  rcases List.mem_cons.1 h with e | h
  ·cases e
   have hb:Nat.blt k 1000000=false:=by
    cases hb:Nat.blt k 1000000 with
    | true=>rw[Nat.blt_eq] at hb;exact absurd hb hk
    | false=>rfl
   simp only[hb,bA,e2] at aj
   have q1:=aj _ (List.mem_append_left _ (List.mem_cons_self ..))
   have q2:=aj _ (List.mem_append_left _ (List.mem_cons_of_mem _ (List.mem_cons_self ..)))
   injection q1 with M _
   injection q2 with U _
   have jn:=(Prod.mk.inj M)
   have dk:=(Prod.mk.inj U)
   exact⟨jn.1,TV.agg.inj jn.2,TV.agg.inj dk.2⟩
  ·refine PT (fun q hm=>aj q ?_) k v h hk g c dK c' bA e2
   split
   ·exact hm
   ·exact List.mem_append_right _ hm
theorem KM: ∀{l m:List (Nat×Nat)},A6 l m=true→l=m
 | [],[],_=>rfl
 | [],_::_,h=>by cases h
 | _::_,[],h=>by cases h
 | (a,b)::r,(c,d)::q,h=>by
  simp only[A6,Bool.and_eq_true] at h
  rw[Nat.eq_of_beq_eq_true h.1.1,Nat.eq_of_beq_eq_true h.1.2,KM h.2]
theorem ach {b:eL} {x y:TV} (h:b.den=true):(u9 b x y).bE=x.bE∨(u9 b x y).bE= .undef:=by
 unfold u9
 split
 ·split
  ·split
   ·left;simp[TV.bE,h]
   ·exact .inr rfl
  ·exact .inr rfl
 ·split
  ·left;simp[TV.bE,eL.zA,h]
  ·exact .inr rfl
 ·exact .inr rfl
theorem acg {b:eL} {x y:TV} (h:b.den=false):(u9 b x y).bE=y.bE∨(u9 b x y).bE= .undef:=by
 unfold u9
 split
 ·split
  ·split
   ·rename_i e;left;subst e;simp[TV.bE,h]
   ·exact .inr rfl
  ·exact .inr rfl
 ·split
  ·left;simp[TV.bE,eL.zA,h]
  ·exact .inr rfl
 ·exact .inr rfl
theorem acQ {s ed:TS} (h:s.B=ed.T++ed.B) (vs:List (Nat×Nat)) (br k:Nat):TS.get ⟨s.T++ed.T,ed.B,vs,br⟩ k=s.get k:=by
 unfold TS.get
 simp only
 rw[h,sc,sc]
theorem abB {l:List (Nat×TV)} {f:Nat→TV} {k:Nat} {d:TV}:((∃v,(k,v)∈l)∧fW (l.map fun p=>(p.1,f p.1)) k d=f k)∨((∀v,(k,v) ∉ l)∧fW (l.map fun p=>(p.1,f p.1)) k d=d):=by
 induction l with
 | nil=>exact .inr ⟨(fun v h=>by cases h),rfl⟩
 | cons p r bS=>
  obtain⟨a,w⟩:=p
  rw[List.map_cons,gJ]
  by_cases e:a=k
  ·subst e;exact .inl ⟨⟨w,List.mem_cons_self ..⟩,if_pos rfl⟩
  ·rw[if_neg e]
   rcases bS with⟨⟨v,q⟩,h⟩ | ⟨q,h⟩
   ·exact .inl ⟨⟨v,List.mem_cons_of_mem _ q⟩,h⟩
   ·refine .inr ⟨fun v hv=> ?_,h⟩
    rcases List.mem_cons.1 hv with hv | hv
    ·cases hv;exact e rfl
    ·exact q v hv
theorem Ou {s s':TS}: ∀{l:List (Nat×TV)},(∀p∈uU s s' l,p.1=p.2)→ ∀k v,(k,v)∈l→G0 (s.get k) (s'.get k)=true→s.get k=s'.get k
 | [],_,k,v,h,_=>by cases h
 | p::r,aj,k,v,h,aL=>by
  unfold uU at aj
  rcases List.mem_cons.1 h with e | h
  ·cases e
   rw[aL] at aj
   have:=aj _ (List.mem_cons_self ..)
   injection this with bA _
   exact(Prod.mk.inj bA).2
  ·refine Ou (fun q hm=>aj q ?_) k v h aL
   split
   ·exact List.mem_cons_of_mem _ hm
   ·exact hm
theorem abJ {b:eL} {ed s s':TS} (h1:s.B=ed.T++ed.B) (h2:s'.B=ed.T++ed.B) (df:xi s s' (s.T++s'.T)=true) (hv:s.vs=s'.vs) (aF:s.br=s'.br) (aj: ∀p∈uU s s' (s.T++s'.T)++vh s s' (s.T++s'.T),p.1=p.2):
  let S:TS:=⟨(s.T++s'.T).map (fun p=>(p.1,sf b p.1 (s.get p.1) (s'.get p.1)))++ed.T,ed.B,s.vs,s.br⟩
  (b.den=true→s.gN S)∧(b.den=false→s'.gN S):=by
 intro S
 have FE: ∀p∈uU s s' (s.T++s'.T),p.1=p.2:=fun p aI=>aj p (List.mem_append_left _ aI)
 have kp: ∀p∈vh s s' (s.T++s'.T),p.1=p.2:=fun p aI=>aj p (List.mem_append_right _ aI)
 have hp: ∀k,((∃v,(k,v)∈s.T++s'.T)∧S.get k=sf b k (s.get k) (s'.get k))∨((∀v,(k,v) ∉ s.T++s'.T)∧S.get k=fW ed.T k (fW ed.B k .u)):=fun k=>by
  have e:S.get k=fW (List.map (fun p=>(p.1,(fun k=>sf b k (s.get k) (s'.get k)) p.1)) (s.T++s'.T)) k (fW ed.T k (fW ed.B k .u)):=by
   show fW (_++ed.T) k _=_
   rw[sc]
  rw[e];exact abB (f:=fun k=>sf b k (s.get k) (s'.get k))
 have base: ∀(x:TS),x.B=ed.T++ed.B→ ∀k,(∀v,(k,v) ∉ x.T)→x.get k=fW ed.T k (fW ed.B k .u):=fun x hx k hk=>by
  unfold TS.get;rw[tb hk,hx,sc]
 have QM: ∀k,k<1000000→sf b k (s.get k) (s'.get k)=Ch b (s.get k) (s'.get k):=fun k hk=>by
  unfold sf;rw[show Nat.blt k 1000000=true by rw[Nat.blt_eq];exact hk]
 have J8: ∀k v,(k,v)∈s.T++s'.T→ ¬k<1000000→1000010≤k∧ ∃g c c',s.get k= .eI g c∧s'.get k= .eI g c'∧c=gI false .db (qZ c)∧c'=gI false .db (qZ c')∧sf b k (s.get k) (s'.get k)= .eI g (gI false .db (bif b.den then qZ c else qZ c')):=fun k v hm hk=>by
  obtain⟨dS,⟨g,c,bA⟩,dK,c',e2⟩:=ab2 df hm hk
  obtain⟨fs,fX,fw⟩:=PT kp k v hm hk _ _ _ _ bA e2
  subst fs
  refine⟨dS,g,c,c',bA,e2,fX,fw,?_⟩
  unfold sf
  have hb:Nat.blt k 1000000=false:=by
   cases hb:Nat.blt k 1000000 with
   | true=>rw[Nat.blt_eq] at hb;exact absurd hb hk
   | false=>rfl
  rw[hb,bA,e2];rfl
 refine⟨fun hb=>⟨rfl,rfl,fun k=> ?_⟩,fun hb=>⟨hv,aF,fun k=> ?_⟩⟩
 ·rcases hp k with⟨⟨v,q⟩,h⟩ | ⟨q,h⟩
  ·by_cases hk:k<1000000
   ·rw[h,QM k hk];refine .inr (.inl ⟨hk,?_⟩)
    unfold Ch
    split
    ·exact .inl rfl
    ·exact ach hb
   ·obtain⟨dS,g,c,c',bA,e2,fX,fw,dV⟩:=J8 k v q hk
    refine .inr (.inr ⟨dS,g,c,_,bA,h.trans dV,?_⟩)
    rw[hb];exact congrArg cS fX.symm
  ·rw[h];exact .inl (base s h1 k fun v hv=>q v (List.mem_append_left _ hv)).symm
 ·rcases hp k with⟨⟨v,q⟩,h⟩ | ⟨q,h⟩
  ·by_cases hk:k<1000000
   ·rw[h,QM k hk];refine .inr (.inl ⟨hk,?_⟩)
    unfold Ch
    split
    ·rename_i aL;rw[Ou FE k v q aL];exact .inl rfl
    ·exact acg hb
   ·obtain⟨dS,g,c,c',bA,e2,fX,fw,dV⟩:=J8 k v q hk
    refine .inr (.inr ⟨dS,g,c',_,e2,h.trans dV,?_⟩)
    rw[hb];exact congrArg cS fw.symm
  ·rw[h];exact .inl (base s' h2 k fun v hv=>q v (List.mem_append_right _ hv)).symm
theorem aW.OF: ∀{t:aW} {R:Exit→TS→Prop},t.m9= .none→t.den R→t.den fun ex s=>R ex s∧ex≠ .normal:=by
 intro t
 induction t with
 | kM ex s=>
  intro R h d
  refine⟨d,?_⟩
  rintro rfl;cases h
 | hI=>intros;trivial
 | no=>intro R h d;exact d
 | p φ t bS=>intro R h d;exact⟨d.1,bS h d.2⟩
 | j3 φ t bS=>intro R h d;exact fun q=>bS h (d q)
 | eq a b t bS=>intro R h d;exact⟨d.1,bS h d.2⟩
 | two x y h5 hO=>intro R h;cases h
 | all α f bS=>intro R h;cases h
 | hP x fy b y h5 hO=>
  intro R h d
  unfold aW.m9 at h
  split at h
  ·rename_i hx;exact⟨h5 hx d.1,fun q=>hO h (d.2 q)⟩
  ·cases h
 | jc b s x y h5 hO=>
  intro R h d
  have h:rE.jc b s x.m9 y.m9= .none:=h
  unfold rE.jc at h
  split at h
  ·cases h
  ·rename_i hx
   split at h
   ·cases h
   ·rename_i hy;exact⟨fun q=>h5 hx (d.1 q),fun q=>hO hy (d.2 q)⟩
   ·cases h
  ·split at h
   ·cases h
   ·cases h
   ·split at h<;>cases h
theorem aW.abM: ∀{t:aW} {R:Exit→TS→Prop} {S:TS} {jN:List (List (Nat×TV)×List (Nat×TV))},t.m9= .some S jN→(∀p∈jN,p.1=p.2)→t.den R→
  t.den fun ex s=>R ex s∧(ex= .normal→s.gN S∧t.lz.den=true∧ ∀φ∈t.facts,φ):=by
 intro t
 induction t with
 | kM ex s=>
  intro R S jN h aj d
  refine⟨d,?_⟩
  rintro rfl
  cases h
  exact⟨.refl s,rfl,fun φ h=>by cases h⟩
 | hI=>intros;trivial
 | no=>intro R S jN h aj d;exact d
 | p φ t bS=>intro R S jN h aj d;exact⟨d.1,bS h aj d.2⟩
 | j3 φ t bS=>
  intro R S jN h aj d q
  refine aW.rJ (bS h aj (d q)) fun ex s hs=>⟨hs.1,fun e=>⟨(hs.2 e).1,(hs.2 e).2.1,fun ψ FS=> ?_⟩⟩
  rcases List.mem_cons.1 FS with rfl | FS
  ·exact q
  ·exact(hs.2 e).2.2 ψ FS
 | eq a b t bS=>intro R S jN h aj d;exact⟨d.1,bS h aj d.2⟩
 | two x y h5 hO=>intro R S jN h;cases h
 | all α f bS=>intro R S jN h;cases h
 | hP x fy b y h5 hO=>
  intro R S jN h aj d
  unfold aW.m9 at h
  split at h
  ·rename_i hx
   refine⟨aW.rJ (aW.OF hx d.1) fun ex s hs=>⟨hs.1,fun e=>absurd e hs.2⟩,fun q=>aW.rJ (hO h aj (d.2 q)) fun ex s hs=>⟨hs.1,fun e=> ?_⟩⟩
   obtain⟨h1,h2,aP⟩:=hs.2 e
   have eE: ∀(l:List Prop),qz l→ ∀φ∈l,φ:=by
    intro l
    induction l with
    | nil=>intro _ φ fb;cases fb
    | cons a r bS=>
     intro hc φ fb
     cases r with
     | nil=>rw[List.mem_singleton.1 fb];exact hc
     | cons io CL=>
      have hc:a∧qz (io::CL):=hc
      rcases List.mem_cons.1 fb with rfl | fb
      ·exact hc.1
      ·exact bS hc.2 φ fb
   have eE:=eE _ q
   refine⟨h1,?_,fun φ fb=> ?_⟩
   ·unfold aW.lz
    split
    ·exact h2
    ·rename_i cm
     have hb:b.den=true:=eE _ (by
      unfold wj
      split
      ·exact absurd rfl cm
      ·simp)
     rw[eL.zA,hb,h2];rfl
   ·rcases List.mem_append.1 fb with fb | fb
    ·have hm: ∀b:eL,φ∈wj fy b:=fun b=>by
      unfold wj
      split
      ·exact fb
      ·exact List.mem_append_left _ fb
     exact eE φ (hm b)
    ·exact aP φ fb
  ·cases h
 | jc b ed x y h5 hO=>
  intro R S jN h aj d
  have h:rE.jc b ed x.m9 y.m9= .some S jN:=h
  have OT: ∀{z:aW} {R:Exit→TS→Prop},z.m9= .none→z.den R→z.den fun ex s=>R ex s∧(ex= .normal→False):=fun aO Vc=>aW.OF aO Vc
  have Ll:b.den=true→x.lz.den=true→(eL.u7 b x.lz y.lz).den=true:=fun h1 h2=>by rw[eL.zA,h1,h2];rfl
  have Lm:b.den=false→y.lz.den=true→(eL.u7 b x.lz y.lz).den=true:=fun h1 h2=>by rw[eL.zA,h1,h2];rfl
  have Lx:x.lz.den=true→(∀φ∈x.facts,φ)→ ∀φ∈(aW.jc b ed x y).facts,φ:=fun h1 h2 φ fb=>by
   unfold aW.facts at fb
   split at fb
   ·rename_i e;rw[e] at h1;cases h1
   ·split at fb
    ·exact h2 φ fb
    ·cases fb
  have Ly:y.lz.den=true→(∀φ∈y.facts,φ)→ ∀φ∈(aW.jc b ed x y).facts,φ:=fun h1 h2 φ fb=>by
   unfold aW.facts at fb
   split at fb
   ·exact h2 φ fb
   ·split at fb
    ·rename_i e;rw[e] at h1;cases h1
    ·cases fb
  have eI: ∀{s:TS},s.B=ed.T++ed.B→s.gN ⟨s.T++ed.T,ed.B,s.vs,s.br⟩:=fun dW=>⟨rfl,rfl,fun k=> .inl (acQ dW _ _ k)⟩
  unfold rE.jc at h
  split at h
  ·cases h
  ·rename_i hx
   split at h
   ·cases h
   ·cases h
   ·rename_i s q hy
    cases h
    have dW:=aj _ (List.mem_cons_self ..)
    refine⟨fun hb=>aW.rJ (OT hx (d.1 hb)) fun ex z aO=>⟨aO.1,fun e=>(aO.2 e).elim⟩,fun hb=>aW.rJ (hO hy (fun p aI=>aj p (List.mem_cons_of_mem _ aI)) (d.2 hb)) fun ex z aO=>⟨aO.1,fun e=> ?_⟩⟩
    obtain⟨h1,h2,aP⟩:=aO.2 e
    exact⟨h1.trans (eI dW),Lm hb h2,Ly h2 aP⟩
  ·rename_i s q hx
   split at h
   ·cases h
   ·rename_i hy
    cases h
    have dW:=aj _ (List.mem_cons_self ..)
    refine⟨fun hb=>aW.rJ (h5 hx (fun p aI=>aj p (List.mem_cons_of_mem _ aI)) (d.1 hb)) fun ex z aO=>⟨aO.1,fun e=> ?_⟩,fun hb=>aW.rJ (OT hy (d.2 hb)) fun ex z aO=>⟨aO.1,fun e=>(aO.2 e).elim⟩⟩
    obtain⟨h1,h2,aP⟩:=aO.2 e
    exact⟨h1.trans (eI dW),Ll hb h2,Lx h2 aP⟩
   ·rename_i s' tm hy
    split at h
    ·rename_i hc
     cases h
     simp only[Bool.and_eq_true] at hc
     obtain⟨⟨nx,DL⟩,DM⟩:=hc
     have XB:=aj _ (List.mem_cons_self ..)
     have XC:=aj _ (List.mem_cons_of_mem _ (List.mem_cons_self ..))
     obtain⟨aR,bn⟩:=abJ (b:=b) XB XC nx (KM DL) (Nat.eq_of_beq_eq_true DM) (fun p aI=>aj p (List.mem_cons_of_mem _ (List.mem_cons_of_mem _ (List.mem_append_right _ (List.mem_append_right _ aI)))))
     refine⟨fun hb=>aW.rJ (h5 hx (fun p aI=>aj p (List.mem_cons_of_mem _ (List.mem_cons_of_mem _ (List.mem_append_left _ aI)))) (d.1 hb)) fun ex z aO=>⟨aO.1,fun e=> ?_⟩,
      fun hb=>aW.rJ (hO hy (fun p aI=>aj p (List.mem_cons_of_mem _ (List.mem_cons_of_mem _ (List.mem_append_right _ (List.mem_append_left _ aI))))) (d.2 hb)) fun ex z aO=>⟨aO.1,fun e=> ?_⟩⟩
     ·obtain⟨h1,h2,aP⟩:=aO.2 e
      exact⟨h1.trans (aR hb),Ll hb h2,Lx h2 aP⟩
     ·obtain⟨h1,h2,aP⟩:=aO.2 e
      exact⟨h1.trans (bn hb),Lm hb h2,Ly h2 aP⟩
    ·cases h
def kP:List (Nat×Nat)→Nat→Option Nat
 | [],_=>none
 | (k,m)::r,t=>match Nat.beq k t with
  | true=>some m
  | false=>kP r t
section
variable [FZ] {n:Nat} {s:TS}
theorem z9 (t:Nat):(s.aJ n).T.getD t .undef=if t<n then(s.get t).bE else .undef:=by
 show((List.range n).map fun t=>(s.get t).bE).getD t .undef=_
 rw[List.getD_eq_getElem?_getD,List.getElem?_map]
 by_cases h:t<n
 ·rw[List.getElem?_range h,if_pos h];rfl
 ·rw[List.getElem?_eq_none (by simpa using h),if_neg h];rfl
theorem vu (v:Nat):eW (s.aJ n).L v=(kP s.vs v).map fun m=>cS (hW s v 0 m):=by
 show eW (s.vs.map fun p=>(p.1,cS (hW s p.1 0 p.2))) v=_
 induction s.vs with
 | nil=>rfl
 | cons p r bS=>
  obtain⟨k,m⟩:=p
  rw[List.map_cons]
  unfold eW kP
  by_cases h:v=k
  ·subst h;simp
  ·have:Nat.beq k v=false:=by
    cases hb:Nat.beq k v with
    | true=>exact absurd (Nat.eq_of_beq_eq_true hb).symm h
    | false=>rfl
   simp only[h,if_false,this];exact bS
theorem qe (b:Nat):s.gu[b]?=if b<s.br then some (s.get (bC b)).eo else none:=by
 show((List.range s.br).map fun b=>(s.get (bC b)).eo)[b]?=_
 rw[List.getElem?_map]
 by_cases h:b<s.br
 ·rw[List.getElem?_range h,if_pos h];rfl
 ·rw[List.getElem?_eq_none (by simpa using h),if_neg h];rfl
theorem nn:s.gu.length=s.br:=by show((List.range s.br).map _).length=_;simp
theorem rp {b:Nat} (h:b<s.br):(s.aJ n).H[b]?=some (s.get (bC b)).eo:=by
 show(s.gu++g5 s)[b]?=_
 rw[List.getElem?_append_left (by rw[nn];exact h),qe,if_pos h]
theorem C6 (h:iv s=true):(s.aJ n).H.length=s.br:=by
 show(s.gu++g5 s).length=_
 unfold g5;rw[h];simp[nn]
end
def AW:Value→TV
 | .int k n=> .i k n
 | .bool b=> .b (match b with
  | true=> .t
  | false=> .f)
 | .string x=> .s x
 | .slice none 0 0=> .nil true true
 | .pointer none=> .o .gf
 | .nilIface=> .o .gC
 | _=> .u
theorem UU (v:Value):(AW v).bE=oT v:=by
 unfold AW oT
 split
 ·rfl
 ·rename_i b;cases b<;>rfl
 ·rfl
 ·rfl
 ·rfl
 ·rfl
 ·rename_i h1 h2 aP a8 cs cT
  split
  ·exact absurd rfl (h1 _ _)
  ·exact absurd rfl (h2 _)
  ·exact absurd rfl (aP _)
  ·exact absurd rfl a8
  ·exact absurd rfl cs
  ·exact absurd rfl cT
  ·rfl
def cP (n:Nat) (s:TS):Operand→TV
 | .tmp t=>(match Nat.blt t n with
  | true=>s.get t
  | false=> .u)
 | .const v=>AW v
 | .func f=> .fn f []
 | .global _=> .u
theorem k9 [FZ] (n:Nat) (s:TS):cv (s.aJ n).T=fun x=>(cP n s x).bE:=by
 funext x
 cases x with
 | tmp t=>
  show(s.aJ n).T.getD t .undef=_
  rw[z9]
  unfold cP
  by_cases h:t<n
  ·have hb:Nat.blt t n=true:=by rw[Nat.blt_eq];exact h
   simp only[if_pos h,hb]
  ·have hb:Nat.blt t n=false:=by
    cases hb:Nat.blt t n with
    | true=>rw[Nat.blt_eq] at hb;exact absurd hb h
    | false=>rfl
   simp only[if_neg h,hb];rfl
 | const v=>exact(UU v).symm
 | func f=>rfl
 | global g=>rfl
def Lf (x:eL) (K:eL→aW):aW:=match x with
 | .t=>K .t
 | .f=>K .f
 | .v p=>K (.v p)
 | .at i p=>K (.at i p)
 | .n p=>K (.n p)
 | .aG p q=>K (.aG p q)
 | .or p q=>K (.or p q)
 | .ite p q r=>K (.ite p q r)
theorem WY (x:eL) (K:eL→aW):Lf x K=K x:=by cases x<;>rfl
def pE (v:TV) (K:TV→aW):aW:=match v with
 | .u=>K .u
 | .i k m=>K (.i k m)
 | .b x=>Lf x fun x=>K (.b x)
 | .s x=>K (.s x)
 | .l e xs f r=>K (.l e xs f r)
 | .nil f r=>K (.nil f r)
 | .ref p g m f=>K (.ref p g m f)
 | .ptr p g j m c=>K (.ptr p g j m c)
 | .lp t c=>K (.lp t c)
 | .dA e x c=>K (.dA e x c)
 | .agg c=>K (.agg c)
 | .tup c=>K (.tup c)
 | .fn f c=>K (.fn f c)
 | .o a=>K (.o a)
 | .blk g e xs m h=>K (.blk g e xs m h)
 | .eI g c=>K (.eI g c)
 | .kz g m ids=>K (.kz g m ids)
 | .g4 V ids n h=>K (.g4 V ids n h)
 | .new id xs=>K (.new id xs)
 | .wv w ids m n=>K (.wv w ids m n)
 | .wu w ids m j=>K (.wu w ids m j)
 | .zu id m n=>K (.zu id m n)
theorem qE (v:TV) (K:TV→aW):pE v K=K v:=by
 cases v with
 | b x=>exact WY x fun x=>K (.b x)
 | _=>rfl
def oa:(e:bI)→e.T→AV
 | .ptr e,x=> .dA (cb false e x) 0
 | .iq f .unit,_=> .fn f []
 | .iq f e,x=> .fn f [oa e x]
 | e,x=>match e.isS with
  | true=> .agg (cb false e x)
  | false=>oU false e x
def ob:(es:List bI)→c7 es→List AV
 | [],_=>[]
 | e::r,x=>oa e x.1::ob r x.2
def we (e:bI) (x:e.T):AV:=match e.isS with
 | true=> .agg (cb true e x)
 | false=>oU true e x
def l5:(es:List bI)→c7 es→List AV
 | [],_=>[]
 | e::r,x=>we e x.1::l5 r x.2
def k0:(es:List bI)→c7 es→AV
 | [e],x=>we e x.1
 | es,x=> .tup (l5 es x)
def CP (e:bI) (x:e.T):TV:=match e.isS with
 | true=> .agg (gI true e x)
 | false=>Af true e x
def CQ:(es:List bI)→c7 es→List TV
 | [],_=>[]
 | e::r,x=>CP e x.1::CQ r x.2
def CR:(es:List bI)→c7 es→TV
 | [e],x=>CP e x.1
 | es,x=> .tup (CQ es x)
theorem P2 (e:bI) (x:e.T):(CP e x).bE=we e x:=by
 unfold CP we
 cases e.isS with
 | true=>show AV.agg (cS _)=_;rw[v5]
 | false=>exact Jv true e x
theorem P3: ∀(es:List bI) (x:c7 es),cS (CQ es x)=l5 es x
 | [],_=>rfl
 | e::r,x=>by rw[CQ,cS,l5,P2,P3 r]
theorem HW (es:List bI) (x:c7 es):(CR es x).bE=k0 es x:=by
 match es,x with
 | [],x=>rfl
 | [e],x=>exact P2 e x.1
 | e::d_::r,x=>show AV.tup (cS _)=_;rw[P3];rfl
structure ey (P:Program) where
 f:FuncId
 ps:List bI
 rs:List bI
 pre:Option (c7 ps→Prop)
 fn:c7 ps→c7 rs
 ok: ∀x,(match pre with
  | none=>True
  | some p=>p x)→b2 P f (ob ps x) (k0 rs (fn x))
def UA {e d_:bI} (h:d_=e) (x:d_.T):e.T:=h▸x
def AU (a5:IntKind) (v:TV) (K:Int→List Prop→aW):aW:=match v with
 | .i k n=>if k=a5 then K n [] else .no
 | _=> .no
def D3 (v:TV) (K:Bool→List Prop→aW):aW:=match v with
 | .b x=>K x.den []
 | _=> .no
def D7 (v:TV) (K:ByteArray→List Prop→aW):aW:=match v with
 | .s x=>K x []
 | _=> .no
def D2 (e:bI) (g n:Nat) (v:TV) (K:List e.T→List Prop→aW):aW:=match v with
 | .blk dK d_ xs pZ _=>if h:d_=e then .eq dK g (.eq pZ n (K (l1 h xs) [xs.length≤4611686018427387904])) else .no
 | _=> .no
def D8 (s:TS) (e:bI) (g n:Nat) (v:TV) (K:List e.T→List Prop→aW):aW:=match v with
 | .kz dK m ids=>(match s.get dL with
  | .g4 V dh bX _=>if h:bI.held=e then .eq dh ids (.eq dK 0 (.eq g 0 (.eq n bX (.eq m s.br (K (l1 h V) [V.length≤4611686018427387904]))))) else .no
  | _=> .no)
 | v=>D2 e g n v K
def D5 (s:TS) (e:bI) (v:TV) (K:List e.T→List Prop→aW):aW:=match v with
 | .l d_ xs _ _=>if h:d_=e then K (l1 h xs) [] else .no
 | .nil _ _=>K [] []
 | .ref b g n _=>(match Nat.blt b s.br with
  | true=>D8 s e g n (s.get (bC b)) K
  | false=> .no)
 | _=> .no
def n7 (s:TS):(e:bI)→TV→(e.T→List Prop→aW)→aW
 | .int,v,K=>AU .i64 v K
 | .u64,v,K=>AU .u64 v K
 | .bool,v,K=>D3 v K
 | .str,v,K=>D7 v K
 | .l e,v,K=>D5 s e v K
 | _,_,_=> .no
def yp (s:TS):(es:List bI)→List TV→(c7 es→List Prop→aW)→aW
 | [],[],K=>K () []
 | e::r,v::vs,K=>n7 s e v fun x o=>yp s r vs fun y lH=>K (x,y) (o++lH)
 | _,_,_=> .no
def n8 (s:TS) (e:bI) (v:TV) (K:e.T→List Prop→aW):aW:=match e.isS with
 | true=>(match v with
  | .agg c=>yp s e.kN c fun x o=>K (e.mk x) o
  | _=> .no)
 | false=>n7 s e v K
def D6 (s:TS) (e:bI) (v:TV) (K:e.T→List Prop→aW):aW:=match v with
 | .lp t c=>(match Nat.beq c 0 with
  | true=>(match kP s.vs t with
   | some m=>yp s e.kN (hW s t 0 m) fun x o=>K (e.mk x) o
   | none=> .no)
  | false=> .no)
 | .dA d_ x c=>(match Nat.beq c 0 with
  | true=>if h:d_=e then K (UA h x) [] else .no
  | false=> .no)
 | _=> .no
def D4 (f:Nat) (v:TV) (K:Unit→List Prop→aW):aW:=match v with
 | .fn g c=>(match Nat.beq f g with
  | true=>(match c with
   | []=>K () []
   | _=> .no)
  | false=> .no)
 | _=> .no
def AT (f:Nat) (v:TV) (K:TV→aW):aW:=match v with
 | .fn g c=>(match Nat.beq f g with
  | true=>(match c with
   | [w]=>K w
   | _=> .no)
  | false=> .no)
 | _=> .no
def conv (s:TS):(e:bI)→TV→(e.T→List Prop→aW)→aW
 | .ptr e,v,K=>D6 s e v K
 | .iq f .unit,v,K=>D4 f v K
 | .iq f e,v,K=>AT f v fun w=>match e.isS with
  | true=> .no
  | false=>conv s e w K
 | .bp,v,K=>n8 s .bp v K
 | .kb,v,K=>n8 s .kb v K
 | .dr,v,K=>n8 s .dr v K
 | .fR,v,K=>n8 s .fR v K
 | .gK,v,K=>n8 s .gK v K
 | .held,v,K=>n8 s .held v K
 | .frame,v,K=>n8 s .frame v K
 | .done,v,K=>n8 s .done v K
 | .fault,v,K=>n8 s .fault v K
 | .stays,v,K=>n8 s .stays v K
 | .db,v,K=>n8 s .db v K
 | .int,v,K=>n7 s .int v K
 | .u64,v,K=>n7 s .u64 v K
 | .u8,v,K=>n7 s .u8 v K
 | .bool,v,K=>n7 s .bool v K
 | .str,v,K=>n7 s .str v K
 | .unit,v,K=>n7 s .unit v K
 | .nat,v,K=>n7 s .nat v K
 | .l e,v,K=>n7 s (.l e) v K
def DW (s:TS):(es:List bI)→List TV→(c7 es→List Prop→aW)→aW
 | [],[],K=>K () []
 | e::r,v::vs,K=>conv s e v fun x o=>DW s r vs fun y lH=>K (x,y) (o++lH)
 | _,_,_=> .no
section
variable {n:Nat} {s:TS} {R:Exit→TS→Prop}
theorem UC {L:List (Nat×List AV)} {H:List Blk} (e:bI) (x:e.T):oL L H (cb true e x) (cb false e x):=by
 rw[←qB,←qB]
 have key: ∀(es:List bI) (y:c7 es),oL L H (l4 true es y) (l4 false es y):=by
  intro es
  induction es with
  | nil=>intro y;exact .nil
  | cons e r bS=>
   intro y
   refine .cons ?_ (bS y.2)
   cases e<;>first | exact .int _ _ | exact .bool _ | exact .str _ | exact cI | exact .undef _
 exact key _ _
end
section
variable {n:Nat} {s:TS} {R:Exit→TS→Prop}
theorem KA {k:IntKind} {v:TV} {K:Int→List Prop→aW} (h:(AU k v K).den R): ∃m,v= .i k m∧(K m []).den R:=by
 unfold AU at h
 split at h
 ·split at h
  ·rename_i e;subst e;exact⟨_,rfl,h⟩
  ·exact h.elim
 ·exact h.elim
end
section
variable {n:Nat} {s:TS} {R:Exit→TS→Prop}
theorem UO {v:TV} {K:Bool→List Prop→aW} (h:(D3 v K).den R): ∃x,v= .b x∧(K x.den []).den R:=by
 unfold D3 at h
 split at h
 ·exact⟨_,rfl,h⟩
 ·exact h.elim
end
section
variable {n:Nat} {s:TS} {R:Exit→TS→Prop}
theorem UT {v:TV} {K:ByteArray→List Prop→aW} (h:(D7 v K).den R): ∃x,v= .s x∧(K x []).den R:=by
 unfold D7 at h
 split at h
 ·exact⟨_,rfl,h⟩
 ·exact h.elim
end
section
variable {n:Nat} {s:TS} {R:Exit→TS→Prop}
theorem UN {e:bI} {g m:Nat} {v:TV} {K:List e.T→List Prop→aW} (h:(D2 e g m v K).den R): ∃xs,∃hx:xs.length=m,v= .blk g e xs m hx∧(K xs [xs.length≤4611686018427387904]).den R:=by
 unfold D2 at h
 split at h
 ·rename_i dK d_ xs pZ hx
  split at h
  ·rename_i bY
   subst bY
   obtain⟨h1,h2,h⟩:=h
   subst h1;subst h2
   exact⟨xs,hx,rfl,h⟩
  ·exact h.elim
 ·exact h.elim
end
section
variable {n:Nat} {s:TS} {R:Exit→TS→Prop}
theorem ad3 {L:List (Nat×List AV)} {H:List Blk} {a b:AV} (h:da L H a b) (hb: ∀l,b≠ .agg l):ga L H a b:=by
 rcases h with⟨l,fq,_,e,_⟩ | h
 ·exact absurd e (hb fq)
 ·exact h
end
section
variable {n:Nat} {s:TS} {R:Exit→TS→Prop}
theorem Vj (fr:Bool) (e:bI) (x:e.T): ∀l,oU fr e x≠ .agg l:=by
 intro l h;cases e<;>cases h
end
section
variable {n:Nat} {s:TS} {R:Exit→TS→Prop}
theorem UP {f:Nat} {v:TV} {K:Unit→List Prop→aW} (h:(D4 f v K).den R):v= .fn f []∧(K () []).den R:=by
 unfold D4 at h
 split at h
 ·split at h
  ·rename_i hf
   obtain rfl:=Nat.eq_of_beq_eq_true hf
   split at h
   ·exact⟨rfl,h⟩
   ·exact h.elim
  ·exact h.elim
 ·exact h.elim
end
section
variable {n:Nat} {s:TS} {R:Exit→TS→Prop}
theorem UQ {f:Nat} {v:TV} {K:TV→aW} (h:(AT f v K).den R): ∃w,v= .fn f [w]∧(K w).den R:=by
 unfold AT at h
 split at h
 ·split at h
  ·rename_i hf
   obtain rfl:=Nat.eq_of_beq_eq_true hf
   split at h
   ·exact⟨_,rfl,h⟩
   ·exact h.elim
  ·exact h.elim
 ·exact h.elim
end
section
variable {n:Nat} {s:TS} {R:Exit→TS→Prop}
theorem Vn {e:bI} (h:e.isS=false) (x:e.T): ∀l,oa e x≠ .agg l:=by
 intro l
 cases e with
 | iq f e=>cases e<;>(intro h;cases h)
 | ptr e=>intro h;cases h
 | _=>first | (cases h;done) | exact Vj false _ x l
end
section
variable [FZ] {n:Nat} {s:TS} {R:Exit→TS→Prop}
theorem rL {V:List ad} {ids:List Nat} {bX:Nat} {hv:V.length=bX} (hk:s.get dL= .g4 V ids bX hv):(s.aJ n).H=s.gu++List.map bm ‹FZ›.bs:=by
 show s.gu++g5 s=_
 unfold g5 iv
 rw[hk]
theorem K2 {V:List ad} {ids:List Nat} {bX:Nat} {hv:V.length=bX} (hk:s.get dL= .g4 V ids bX hv) {id:Nat} {k:Blk} (h:(List.map bm ‹FZ›.bs)[id]?=some k):(s.aJ n).H[id+s.br]?=some k:=by
 rw[rL hk,List.getElem?_append_right (by rw[nn];omega),nn,Nat.add_sub_cancel];exact h
variable (aO:Fits s)
include aO in
theorem UW {e:bI} {b g m:Nat} {eD:Bool} {K:List e.T→List Prop→aW} (hb:b<s.br) (h:(D8 s e g m (s.get (bC b)) K).den R): ∃x o,(K x o).den R∧((∀φ∈o,φ)→ga (s.aJ n).L (s.aJ n).H (.ref b g 0 m eD) (.bD (List.map (cb false e) x) false false)):=by
 unfold D8 at h
 split at h
 ·rename_i dK hQ ids hg
  split at h
  ·rename_i V dh bX kI hk
   split at h
   ·rename_i he
    subst he
    obtain⟨h1,h2,aP,a8,cs,h⟩:=h
    subst h1;subst h2;subst aP;subst a8;subst cs;subst kI
    refine⟨_,_,h,fun aC=> ?_⟩
    have aL:=aC _ (List.mem_singleton.2 rfl)
    obtain⟨q1,q2,q3⟩:=aO V dh _ _ hk
    have pR:V.length= ‹FZ›.ws.length:=by rw[←q2];exact jl q1.ok
    have:=tB (L:=(s.aJ n).L) (H:=(s.aJ n).H) (b:=b) (s:=s.br) (n:=V.length) (full:=eD) (ws:= ‹FZ›.ws) (ids:=dh) (bs:= ‹FZ›.bs) pR (by rw[rp hb,hg];rfl) (fun id k jH=>K2 hk jH) q1.ok (by omega) (fun x hx=>by have:=q1.len x hx;omega)
    rw[q2] at this
    exact this
   ·exact h.elim
  ·exact h.elim
 ·obtain⟨xs,hx,hg,h'⟩:=UN h
  subst hx
  refine⟨_,_,h',fun aC=> ?_⟩
  have aL:=aC _ (List.mem_singleton.2 rfl)
  exact Qk (eT:=cb true e) (by rw[rp hb,hg];rfl) (fun x=>UC e x) aL
include aO in
theorem UR {e:bI} {v:TV} {K:List e.T→List Prop→aW} (h:(D5 s e v K).den R): ∃x o,(K x o).den R∧((∀φ∈o,φ)→ga (s.aJ n).L (s.aJ n).H v.bE (.bD (List.map (cb false e) x) false false)):=by
 unfold D5 at h
 split at h
 ·split at h
  ·rename_i bY;subst bY;exact⟨_,_,h,fun _=>cI⟩
  ·exact h.elim
 ·exact⟨_,_,h,fun _=>by rw[List.map_nil];exact cI⟩
 ·rename_i b g oC eD
  split at h
  ·rename_i hb
   exact UW aO (by rw[←Nat.blt_eq];exact hb) h
  ·exact h.elim
 ·exact h.elim
include aO in
theorem DV {e:bI} {v:TV} {K:e.T→List Prop→aW} (h:(n7 s e v K).den R): ∃x o,(K x o).den R∧((∀φ∈o,φ)→ga (s.aJ n).L (s.aJ n).H v.bE (oU false e x)):=by
 cases e with
 | int=>obtain⟨m,rfl,h⟩:=KA h;exact⟨m,_,h,fun _=> .int _ _⟩
 | u64=>obtain⟨m,rfl,h⟩:=KA h;exact⟨m,_,h,fun _=> .int _ _⟩
 | bool=>obtain⟨x,rfl,h⟩:=UO h;exact⟨_,_,h,fun _=> .bool _⟩
 | str=>obtain⟨x,rfl,h⟩:=UT h;exact⟨_,_,h,fun _=> .str _⟩
 | l e=>exact UR aO h
 | _=>exact h.elim
include aO in
theorem AR: ∀{es:List bI} {vs:List TV} {K:c7 es→List Prop→aW},(yp s es vs K).den R→ ∃x o,(K x o).den R∧((∀φ∈o,φ)→aD (ga (s.aJ n).L (s.aJ n).H) (cS vs) (l4 false es x))
 | [],[],K,h=>⟨(),[],h,fun _=>aD.nil⟩
 | e::r,v::vs,K,h=>by
  obtain⟨x,o,h,df⟩:=DV aO (n:=n) (show(n7 s e v _).den R from h)
  obtain⟨y,lH,h,g9⟩:=AR h
  exact⟨(x,y),o++lH,h,fun aC=>aD.cons (df fun φ fb=>aC φ (List.mem_append_left _ fb)) (g9 fun φ fb=>aC φ (List.mem_append_right _ fb))⟩
 | [],_::_,K,h=>h.elim
 | _::_,[],K,h=>h.elim
include aO in
theorem UL {e:bI} {v:TV} {K:e.T→List Prop→aW} (h:(n8 s e v K).den R): ∃x o,(K x o).den R∧((∀φ∈o,φ)→da (s.aJ n).L (s.aJ n).H v.bE (match e.isS with
  | true=> .agg (cb false e x)
  | false=>oU false e x)):=by
 unfold n8 at h
 cases lB:e.isS with
 | true=>
  rw[lB] at h
  simp only at h
  split at h
  ·rename_i c
   obtain⟨x,o,h,k⟩:=AR aO (n:=n) h
   refine⟨_,o,h,fun aC=> ?_⟩
   show da _ _ (.agg (cS c)) (.agg (cb false e (e.mk x)))
   rw[←qB,bI.S6]
   exact da.agg (k aC)
  ·exact h.elim
 | false=>
  rw[lB] at h
  obtain⟨x,o,h,k⟩:=DV aO (n:=n) (show(n7 s e v K).den R from h)
  exact⟨x,o,h,fun aC=> .inr (k aC)⟩
include aO in
theorem US {e:bI} {v:TV} {K:e.T→List Prop→aW} (h:(D6 s e v K).den R): ∃x o,(K x o).den R∧((∀φ∈o,φ)→da (s.aJ n).L (s.aJ n).H v.bE (.dA (cb false e x) 0)):=by
 unfold D6 at h
 split at h
 ·rename_i t c
  split at h
  ·rename_i hc
   obtain rfl:=Nat.eq_of_beq_eq_true hc
   split at h
   ·rename_i m hm
    obtain⟨x,o,h,k⟩:=AR aO (n:=n) h
    refine⟨_,o,h,fun aC=> .inr ?_⟩
    have k:=k aC
    show ga _ _ (.fG t 0) (.dA (cb false e (e.mk x)) 0)
    rw[←qB,bI.S6]
    exact .fG (cells:=cS (hW s t 0 m)) (by rw[vu,hm];rfl) k.1 k.2
   ·exact h.elim
  ·exact h.elim
 ·rename_i d_ x c
  split at h
  ·rename_i hc
   obtain rfl:=Nat.eq_of_beq_eq_true hc
   split at h
   ·rename_i bY;subst bY;exact⟨_,_,h,fun _=> .inr (.dA _ _)⟩
   ·exact h.elim
  ·exact h.elim
 ·exact h.elim
include aO in
theorem DX: ∀{e:bI} {v:TV} {K:e.T→List Prop→aW},(conv s e v K).den R→ ∃x o,(K x o).den R∧((∀φ∈o,φ)→da (s.aJ n).L (s.aJ n).H v.bE (oa e x)):=by
 intro e
 induction e with
 | ptr e bS=>intro v K h;exact US aO h
 | iq f e bS=>
  intro v K h
  have key:(∀x,oa (.iq f e) x= .fn f [oa e x])→(AT f v fun w=>match e.isS with
   | true=> .no
   | false=>conv s e w K).den R→ ∃x o,(K x o).den R∧((∀φ∈o,φ)→da (s.aJ n).L (s.aJ n).H v.bE (oa (.iq f e) x)):=by
   intro he h
   obtain⟨w,rfl,h'⟩:=UQ h
   cases lB:e.isS with
   | true=>rw[lB] at h';exact h'.elim
   | false=>
    rw[lB] at h'
    obtain⟨x,o,h2,k⟩:=bS h'
    refine⟨x,o,h2,fun aC=> .inr ?_⟩
    rw[he]
    refine ga.fn (caps:=[w.bE]) rfl fun j a b h1 h2=> ?_
    cases j with
    | zero=>cases h1;cases h2;exact ad3 (k aC) (Vn lB x)
    | succ j=>cases h1
  cases e with
  | unit=>
   obtain⟨rfl,h'⟩:=UP h
   exact⟨(),[],h',fun _=> .inr (ga.fn (caps:=[]) rfl fun j a b h1 _=>by cases h1)⟩
  | _=>exact key (fun x=>rfl) h
 | _=>
  intro v K h
  first
  | exact UL aO (n:=n) h
  | (obtain⟨x,o,h,k⟩:=DV aO (n:=n) h;exact⟨x,o,h,fun aC=> .inr (k aC)⟩)
include aO in
theorem Ku: ∀{es:List bI} {vs:List TV} {K:c7 es→List Prop→aW},(DW s es vs K).den R→ ∃x o,(K x o).den R∧((∀φ∈o,φ)→aD (da (s.aJ n).L (s.aJ n).H) (cS vs) (ob es x))
 | [],[],K,h=>⟨(),[],h,fun _=>aD.nil⟩
 | e::r,v::vs,K,h=>by
  obtain⟨x,o,h,df⟩:=DX aO (n:=n) (show(conv s e v _).den R from h)
  obtain⟨y,lH,h,g9⟩:=Ku h
  exact⟨(x,y),o++lH,h,fun aC=>aD.cons (df fun φ fb=>aC φ (List.mem_append_left _ fb)) (g9 fun φ fb=>aC φ (List.mem_append_right _ fb))⟩
 | [],_::_,K,h=>h.elim
 | _::_,[],K,h=>h.elim
end
def Cr (l:List Prop) (t:aW):aW:=match l with
 | []=>t
 | l=> .p (qz l) t
theorem Kt: ∀{l:List Prop},qz l→ ∀φ∈l,φ
 | [],_,φ,h=>by cases h
 | [a],hc,φ,h=>by rw[List.mem_singleton.1 h];exact hc
 | a::b::r,hc,φ,h=>by
  have hc:a∧qz (b::r):=hc
  rcases List.mem_cons.1 h with rfl | h
  ·exact hc.1
  ·exact Kt hc.2 φ h
theorem O3 {l:List Prop} {t:aW} {R:Exit→TS→Prop} (h:(Cr l t).den R):(∀φ∈l,φ)∧t.den R:=by
 unfold Cr at h
 split at h
 ·exact⟨(fun φ h=>by cases h),h⟩
 ·exact⟨Kt h.1,h.2⟩
def Bi {P:Program}:List (ey P)→FuncId→(ey P→aW)→aW
 | [],_,_=> .no
 | c::r,f,K=>match Nat.beq c.f f with
  | true=>K c
  | false=>Bi r f K
def xf:TV→Bool
 | .tup _=>false
 | .o a=>e6 a
 | _=>true
theorem Cn {v:TV} (h:xf v=true):e6 v.bE=true:=by cases v<;>first | rfl | exact h | cases h
def Hz {P:Program} (c:ey P) (x:c7 c.ps):List Prop:=match c.pre with
 | none=>[]
 | some p=>[p x]
def DN {P:Program} (qf:List (ey P)) (f:FuncId) (args:List TV) (s:TS) (K:TV→aW):aW:=match args.all xf with
 | false=> .no
 | true=>Bi qf f fun c=>DW s c.ps args fun x o=>Cr (o++Hz c x) (K (CR c.rs (c.fn x)))
theorem K9 {P:Program} {f:FuncId} {K:ey P→aW} {R:Exit→TS→Prop}: ∀{qf:List (ey P)},(Bi qf f K).den R→ ∃c,c.f=f∧(K c).den R
 | [],h=>h.elim
 | c::r,h=>by
  unfold Bi at h
  split at h
  ·rename_i hf;exact⟨c,Nat.eq_of_beq_eq_true hf,h⟩
  ·exact K9 h
theorem Ux [FZ] {P:Program} {qf:List (ey P)} {f:FuncId} {args:List TV} {s:TS} {K:TV→aW} {R:Exit→TS→Prop} {n:Nat} {Kp:AV→Prop} (aO:Fits s) (hK: ∀v,(K v).den R→Kp v.bE) (h:(DN qf f args s K).den R):
  oS P f (cS args) (s.aJ n).L (s.aJ n).H Kp:=by
 unfold DN at h
 split at h
 ·exact h.elim
 ·rename_i aF
  obtain⟨c,rfl,h1⟩:=K9 h
  obtain⟨x,o,h2,k⟩:=Ku aO (n:=n) h1
  obtain⟨aC,aP⟩:=O3 h2
  refine⟨?_,_,_,k fun φ fb=>aC φ (List.mem_append_left _ fb),c.ok x ?_,?_⟩
  ·rw[List.all_eq_true] at aF ⊢
   intro a a4
   rw[n4] at a4
   obtain⟨v,hv,rfl⟩:=List.mem_map.1 a4
   exact Cn (aF v hv)
  ·have aI: ∀φ∈Hz c x,φ:=fun φ fb=>aC φ (List.mem_append_right _ fb)
   unfold Hz at aI
   revert aI
   cases c.pre with
   | none=>intro _;trivial
   | some p=>intro aI;exact aI _ (List.mem_singleton.2 rfl)
  ·rw[←HW];exact hK _ aP
inductive As:Type 1 where
 | no
 | v (x:TV)
 | c (φ:Prop) (x:TV)
 | lZ (φ ψ:Prop) (x:TV)
def rQ (F:List Blk→(AV→Prop)→Prop) (K:TV→aW):As→aW
 | .no=> .no
 | .v x=> .eq F (fun _ Q=>Q x.bE) (pE x K)
 | .c φ x=> .eq F (fun _ Q=>φ∧Q x.bE) (.p φ (pE x K))
 | .lZ φ ψ x=> .eq F (fun _ Q=>φ∧ψ∧Q x.bE) (.p (φ∧ψ) (pE x K))
theorem sT {F:List Blk→(AV→Prop)→Prop} (H:List Blk) {K:TV→aW} {g:As} {R:Exit→TS→Prop} {Kp:AV→Prop} (hK: ∀v,(K v).den R→Kp v.bE) (h:(rQ F K g).den R):F H Kp:=by
 cases g with
 | no=>exact h.elim
 | v x=>obtain⟨e,h⟩:=h;rw[qE] at h;rw[e];exact hK _ h
 | c φ x=>obtain⟨e,h1,h⟩:=h;rw[qE] at h;rw[e];exact⟨h1,hK _ h⟩
 | lZ φ ψ x=>obtain⟨e,h1,h⟩:=h;rw[qE] at h;rw[e];exact⟨h1.1,h1.2,hK _ h⟩
def qy:TV→List TV
 | .agg c=>c
 | v=>[v]
def vy (P:Program) (t:TypeId) (cells:List TV) (c:Nat):TV:=match w4 P t with
 | true=> .agg ((cells.drop c).take (P.cellsOf t))
 | false=>cells.getD c .u
def Xd (op:BinOp) (x y:TV):As:=match x with
 | .i k a=>(match y with
  | .i _ b=>(match op with
   | .add=> .v (.i k (k.wrap (a+b)))
   | .sub=> .v (.i k (k.wrap (a - b)))
   | .mul=> .v (.i k (k.wrap (a*b)))
   | .quo=> .c (b≠0) (.i k (k.wrap (a.tdiv b)))
   | .rem=> .c (b≠0) (.i k (a.tmod b))
   | .and=> .v (.i k (k.wrap (BitVec.ofInt k.bits a&&&BitVec.ofInt k.bits b).toNat))
   | .shl=> .c (0≤b) (.i k (k.wrap (a*2 ^ (min b.toNat k.bits))))
   | .shr=> .c (0≤b) (.i k (a.fdiv (2 ^ (min b.toNat k.bits))))
   | .eql=> .v (.b (.v (a==b)))
   | .neq=> .v (.b (.v (a !=b)))
   | .lss=> .v (.b (.v (decide (a<b))))
   | .leq=> .v (.b (.v (decide (a≤b))))
   | .gtr=> .v (.b (.v (decide (a>b))))
   | .geq=> .v (.b (.v (decide (a ≥ b))))
   | _=> .no)
  | _=> .no)
 | .b p=>(match y with
  | .b q=>(match op with
   | .eql=> .v (.b (.v (p.den==q.den)))
   | .neq=> .v (.b (.v (p.den !=q.den)))
   | _=> .no)
  | _=> .no)
 | .s p=>(match y with
  | .s q=>(match op with
   | .add=> .c (p.size+q.size≤9223372036854775807) (.s (p++q))
   | .eql=> .v (.b (.v (p.toList==q.toList)))
   | .neq=> .v (.b (.v (!(p.toList==q.toList))))
   | _=> .no)
  | _=> .no)
 | .agg l=>(match y with
  | .agg m=>(match l,m with
   | [.i _ a,.i _ b],[.i _ c,.i _ d]=>(match op with
    | .eql=> .v (.b (.v (a==c&&b==d)))
    | .neq=> .v (.b (.v (!(a==c&&b==d))))
    | _=> .no)
   | _,_=> .no)
  | _=> .no)
 | _=> .no
def Ao (P:Program) (t:TypeId):List TV:=match(P.info? t).bind (·.zero) with
 | some z=>z.cells.toList.map AW
 | none=>[]
def K3 (pl:List (Nat×Nat)) (cells:List TV):List (Nat×TV)→List TV
 | []=>cells
 | (i,v)::r=>match pl[i]? with
  | some p=>K3 pl (cells.take p.1++qy v++cells.drop (p.1+(qy v).length)) r
  | none=>cells
def W5 (e:bI) (v:TV):e.T:=match e.isS with
 | true=>e.mk (oV e.kN (qy v))
 | false=>ET e v
def W0:TV→Bool
 | .l _ _ _ fr=>fr
 | .nil _ fr=>fr
 | .agg c=>c.all fun v=>match v with
  | .l _ _ _ fr=>fr
  | .nil _ fr=>fr
  | _=>true
 | _=>true
def Ow (e:bI) (xs:List e.T) (l:List TV):TV:=match l with
 | []=> .nil true true
 | l=> .l e xs true (l.all W0)
def Cc (s:TS) (e:bI):List TV→(List e.T→aW)→aW
 | [],K=>K []
 | v::r,K=>conv s e v fun x _=>Cc s e r fun xs=>K (x::xs)
theorem G3 [FZ] {n:Nat} {s:TS} {e:bI} {R:Exit→TS→Prop} (aO:Fits s): ∀{l:List TV} {K:List e.T→aW},(Cc s e l K).den R→ ∃xs,(K xs).den R
 | [],K,h=>⟨_,h⟩
 | v::r,K,h=>by
  obtain⟨x,o,h,_⟩:=DX aO (n:=n) (show(conv s e v _).den R from h)
  obtain⟨xs,h⟩:=G3 (n:=n) aO h
  exact⟨_,h⟩
def w6:List (Nat×bI)→Nat→(bI→aW)→aW
 | [],_,_=> .no
 | (k,e)::r,t,K=>match Nat.beq k t with
  | true=>K e
  | false=>w6 r t K
structure hl (P:Program) where
 n:Nat
 yu:List (Nat×bI)
 qf:List (ey P)
section
variable {P:Program} (cf:hl P) (s:TS)
def gs (P:Program) (n:Nat) (s:TS) (op:Op):As:=match op with
 | .nilCheck x=> .v (cP n s x)
 | .load t a=>(match cP n s a with
  | .lp v c=>(match kP s.vs v with
   | some m=> .v (vy P t (hW s v 0 m) c)
   | none=> .no)
  | .dA e x c=> .v (vy P t (gI false e x) c)
  | _=> .no)
 | .fieldAddr t x f=>(match Bd P t f with
  | some fd=>(match cP n s x with
   | .lp v c=> .v (.lp v (c+fd.offset))
   | .dA e x c=> .v (.dA e x (c+fd.offset))
   | .ptr b g i m c=> .v (.ptr b g i m (c+fd.offset))
   | _=> .no)
  | none=> .no)
 | .unOp op _ x=>(match cP n s x with
  | .b z=>(match op with
   | .not=> .v (.b z.not)
   | _=> .no)
  | .i k m=>(match op with
   | .neg=> .v (.i k (k.wrap (0 - m)))
   | _=> .no)
  | _=> .no)
 | .convert _ d x=>(match cP n s x with
  | .i _ m=>(match w3 P d with
   | some k=> .v (.i k (k.wrap m))
   | none=> .no)
  | _=> .no)
 | .binOp op _ x y _=>Xd op (cP n s x) (cP n s y)
 | .build t ps=>(match Hs P t with
  | some pl=> .v (.agg (K3 pl (Ao P t) (ps.toList.map fun p=>(p.1,cP n s p.2))))
  | none=> .no)
 | .index _ x i=>(match cP n s x with
  | .s z=>(match cP n s i with
   | .i _ m=> .lZ (0≤m) (m<z.size) (.i .u8 (z.data.getD m.toNat 0).toNat)
   | _=> .no)
  | _=> .no)
 | .extract x i=>(match cP n s x with
  | .tup l=> .v (l.getD i .u)
  | _=> .no)
 | .makeFunc fn _ caps=>(match fn with
  | .func f=> .v (.fn f (caps.toList.map (cP n s)))
  | _=> .no)
 | _=> .no
def s8 (P:Program) (t:TypeId):Option Nat:=match jp P t with
 | some e=>(match(P.info? e).isSome with
  | true=>some (P.cellsOf e)
  | false=>none)
 | none=>none
theorem w0 {P:Program} {t:TypeId} {m:Nat} (h:s8 P t=some m): ∃e,jp P t=some e∧(P.info? e).isSome=true∧P.cellsOf e=m:=by
 unfold s8 at h
 split at h
 ·rename_i e he
  split at h
  ·rename_i hi;exact⟨e,he,hi,Option.some.inj h⟩
  ·cases h
 ·cases h
def rH (s:TS) (b g:Nat) (K:(e:bI)→(xs:List e.T)→(m:Nat)→xs.length=m→aW):aW:=match Nat.blt b s.br with
 | true=>(match s.get (bC b) with
  | .blk dK e xs m h=> .eq dK g (K e xs m h)
  | _=> .no)
 | false=> .no
theorem vV [FZ] {n:Nat} {s:TS} {b g:Nat} {K:(e:bI)→(xs:List e.T)→(m:Nat)→xs.length=m→aW} {R:Exit→TS→Prop} (h:(rH s b g K).den R):
  ∃e xs m hm,(K e xs m hm).den R∧b<s.br∧(s.aJ n).H[b]?=some ⟨g,e.mb,xs.map (cb true e)⟩:=by
 unfold rH at h
 split at h
 ·rename_i hb
  have hb:b<s.br:=by rw[←Nat.blt_eq];exact hb
  split at h
  ·rename_i dK e xs m hm hg
   obtain⟨h1,h⟩:=h
   subst h1
   exact⟨e,xs,m,hm,h,hb,by rw[rp hb,hg];rfl⟩
  ·exact h.elim
 ·exact h.elim
def AQ (V:List ad) (ids:List Nat) (m:Nat) (i:Int):List TV:=[.i .i64 (nth V i).ao,.i .i64 (nth V i).ag,.wv i ids m (nth V i).ac.length,.b (.v (nth V i).aq),.i .i64 (nth V i).ar]
theorem Dj {ws:List ad} {ids:List Nat} {bs:List (List Bool)} {i:Int} (ok:ke ws ids bs) (h:i.toNat<(view ws ids bs).length):nth (view ws ids bs) i={nth ws i with ac:=bs.getD (nth ids i) []}:=by
 have aL:=jl ok
 have h1:=gV (xs:=ws) (i:=i) (by omega)
 have h2:=gV (xs:=ids) (i:=i) (by have:=ok.len;omega)
 have:=xV (bs:=bs) h1 h2
 rw[gV h] at this
 exact Option.some.inj this
theorem acZ [Z:FZ] {V:List ad} {ids:List Nat} {m:Nat} {i:Int} (G:gy Z.ws ids Z.bs) (e:view Z.ws ids Z.bs=V) (h:i.toNat<V.length):(a0 m Z.ws ids)[i.toNat]?=some (cS (AQ V ids m i)):=by
 subst e
 have aL:=jl G.ok
 have L4:=G.ok.len
 rw[dO L4 (by omega)]
 have hb:=G.ok.ac i.toNat _ _ (gV (xs:=Z.ws) (i:=i) (by omega)) (gV (xs:=ids) (i:=i) (by omega))
 unfold AQ
 rw[Dj G.ok h]
 show some (ki m (nth Z.ws i) (nth ids i))=some _
 unfold ki
 rw[hb];rfl
def FV (P:Program) (t:TypeId) (b g m:Nat) (i:Int) (s:TS) (v:TV) (K:TV→aW):aW:=match v with
 | .kz dK _ _=>(match Nat.blt b s.br with
  | true=> .eq dK g (.eq (s8 P t) (some 5) (.p (0≤i∧i.toNat<m) (K (.ptr b g i m 0))))
  | false=> .no)
 | _=>rH s b g fun e _ _ _=> .eq (s8 P t) (some e.mb) (.p (0≤i∧i.toNat<m) (K (.ptr b g i m 0)))
def FW (P:Program) (t:TypeId) (w:Int) (ids:List Nat) (m k:Nat) (i:Int) (s:TS) (K:TV→aW):aW:=match s.get dL with
 | .g4 V dh _ _=> .eq dh ids (.eq m s.br (.eq (s8 P t) (some 1) (.p (w.toNat<V.length∧0≤i∧i.toNat<k) (K (.wu w ids m i)))))
 | _=> .no
def FX (P:Program) (t:TypeId) (x i:TV) (s:TS) (K:TV→aW):aW:=match i with
 | .i _ i=>(match x with
  | .l e xs _ _=> .eq (s8 P t) (some e.mb) (.p (0≤i∧i.toNat<xs.length) (K (.dA e (tg e xs i) 0)))
  | .ref b g m _=>FV P t b g m i s (s.get (bC b)) K
  | .wv w ids m k=>FW P t w ids m k i s K
  | _=> .no)
 | _=> .no
def GW (P:Program) (t:TypeId) (w:Int) (ids:List Nat) (m:Nat) (j:Int) (s:TS) (K:TV→aW):aW:=match s.get dL with
 | .g4 V dh _ _=> .eq dh ids (.eq m s.br (.p (w.toNat<V.length∧j.toNat<(nth V w).ac.length) (rQ (fun _ Q=>jA P t [AV.bool (nth (nth V w).ac j)] 0 Q) K (.v (vy P t [.b (.v (nth (nth V w).ac j))] 0)))))
 | _=> .no
def GX (P:Program) (t:TypeId) (b g:Nat) (i:Int) (m c:Nat) (s:TS) (K:TV→aW):aW:=match s.get (bC b) with
 | .kz dK hQ ids=>(match Nat.blt b s.br with
  | true=>(match s.get dL with
   | .g4 V dh _ _=> .eq dK g (.eq dh ids (.p (i.toNat<V.length) (rQ (fun _ Q=>jA P t (cS (AQ V ids hQ i)) c Q) K (.v (vy P t (AQ V ids hQ i) c)))))
   | _=> .no)
  | false=> .no)
 | .eI dK ba=>(match Nat.blt b s.br with
  | true=> .eq dK g (.eq i 0 (rQ (fun _ Q=>jA P t (cS ba) c Q) K (.v (vy P t ba c))))
  | false=> .no)
 | _=>rH s b g fun e xs fB _=> .eq fB m (.p (i.toNat<m) (rQ (fun _ Q=>jA P t (cb true e (tg e xs i)) c Q) K (.v (vy P t (gI true e (tg e xs i)) c))))
def Ie (P:Program) (t:TypeId) (x:TV) (lo hi:Option TV) (K:TV→aW):aW:=match x with
 | .l e xs _ fr=>(match lo with
  | none=>(match hi with
   | some (.i _ b)=> .eq (s8 P t) (some e.mb) (.p (0≤b∧b≤(xs.length:Int)) (K (.l e (xs.take b.toNat) false fr)))
   | _=> .no)
  | some (.i _ a)=>(match hi with
   | none=> .eq (s8 P t) (some e.mb) (.p (0≤a∧a≤(xs.length:Int)) (K (.l e (xs.drop a.toNat) false fr)))
   | _=> .no)
  | _=> .no)
 | _=> .no
def GY (P:Program) (t:TypeId) (x:TV) (K:TV→aW):aW:=match x with
 | .l _ xs _ _=> .eq (j4 P t x.bE) true (K (.i .i64 xs.length))
 | .nil _ _=> .eq (j4 P t x.bE) true (K (.i .i64 (0:Nat)))
 | .s z=> .eq (j4 P t x.bE) true (K (.i .i64 z.size))
 | .ref _ _ m _=> .eq (j4 P t x.bE) true (K (.i .i64 m))
 | .wv _ _ _ k=> .eq (j4 P t x.bE) true (K (.i .i64 k))
 | _=> .no
def so (o:Oper) (K:TV→aW):aW:=match o.op with
 | .move x=>pE (cP cf.n s x) K
 | .assign x=>pE (cP cf.n s x) K
 | .indexAddr t x i=>FX P t (cP cf.n s x) (cP cf.n s i) s K
 | .load t a=>(match cP cf.n s a with
  | .ptr b g i m c=>GX P t b g i m c s K
  | .wu w ids m j=>GW P t w ids m j s K
  | _=>rQ (fun H Q=>jY P o (fun x=>(cP cf.n s x).bE) s.cw H Q) K (gs P cf.n s o.op))
 | .slice t x lo hi mx=>(match mx with
  | none=>Ie P t (cP cf.n s x) (lo.map (cP cf.n s)) (hi.map (cP cf.n s)) K
  | some _=> .no)
 | .call c=>(match c.callee with
  | .builtin b=>(match b with
   | .len=>(match c.args.toList,c.argTypes.toList with
    | [x],[t]=>GY P t (cP cf.n s x) K
    | _,_=> .no)
   | _=> .no)
  | .value f=>(match cP cf.n s f with
   | .fn g caps=>DN cf.qf g (c.args.toList.map (cP cf.n s)++caps) s K
   | _=> .no)
  | _=> .no)
 | .buildSlice t m ps=>w6 cf.yu t fun e=>Cc s e (ps.toList.map fun p=>cP cf.n s p.2) fun xs=>rQ (fun H Q=>jY P o (fun x=>(cP cf.n s x).bE) s.cw H Q) K (.v (Ow e xs (ps.toList.map fun p=>cP cf.n s p.2)))
 | op=>rQ (fun H Q=>jY P o (fun x=>(cP cf.n s x).bE) s.cw H Q) K (gs P cf.n s op)
end
theorem Hh {e:bI} {xs:List e.T} {i:Int} (h:i.toNat<xs.length) (fr:Bool):(xs.map (cb fr e))[i.toNat]?=some (cb fr e (tg e xs i)):=by
 rw[List.getElem?_map]
 have:xs[i.toNat]?=some (tg e xs i):=by
  have:= @gV e.T e.uO xs i h
  exact this
 rw[this];rfl
section
variable {P:Program} {cf:hl P} {s:TS} {R:Exit→TS→Prop} {K:TV→aW} {Kp:AV→Prop}
theorem adr {t:TypeId} {x:TV} {lo hi:Option TV} {H:List Blk} (hK: ∀v,(K v).den R→Kp v.bE) (h:(Ie P t x lo hi K).den R):vo P t x.bE (lo.map TV.bE) (hi.map TV.bE) H Kp:=by
 unfold Ie at h
 split at h
 ·rename_i e xs eD fr
  have eX: ∀{m:Nat},m=e.mb→ ∀(i:Nat) (row:List AV),(List.map (cb false e) xs)[i]?=some row→row.length=m:=fun hm i row aK=>by
   rw[List.getElem?_map] at aK
   cases hx:xs[i]? with
   | none=>rw[hx] at aK;cases aK
   | some x=>rw[hx] at aK;cases aK;rw[rK,hm]
  split at h
  ·split at h
   ·rename_i k b
    obtain⟨h1,h2,h⟩:=h
    obtain⟨nT,q1,q2,q3⟩:=w0 h1
    refine et q1 ?_
    rw[if_pos q2]
    refine⟨h2.1,Nat.zero_le _,by rw[List.length_map];omega,eX q3,?_⟩
    rw[List.drop_zero,Nat.sub_zero,←List.map_take];exact hK _ h
   ·exact h.elim
  ·split at h
   ·rename_i k a
    obtain⟨h1,h2,h⟩:=h
    obtain⟨nT,q1,q2,q3⟩:=w0 h1
    refine et q1 ?_
    rw[if_pos q2]
    refine⟨h2.1,by rw[List.length_map];omega,Nat.le_refl _,eX q3,?_⟩
    rw[List.take_of_length_le (by rw[List.length_drop];omega),←List.map_drop];exact hK _ h
   ·exact h.elim
  ·exact h.elim
 ·exact h.elim
end
section
variable {P:Program} {cf:hl P} {s:TS} {R:Exit→TS→Prop} {K:TV→aW} {Kp:AV→Prop}
theorem abl {t:TypeId} {x:TV} (hK: ∀v,(K v).den R→Kp v.bE) (h:(GY P t x K).den R):e7 (j4 P t x.bE) (sa x.bE Kp):=by
 unfold GY at h
 split at h
 ·obtain⟨h1,h⟩:=h
  rw[h1]
  show Kp (.int .i64 ((List.map _ _).length:Nat))
  rw[List.length_map];exact hK _ h
 ·obtain⟨h1,h⟩:=h;rw[h1];exact hK _ h
 ·obtain⟨h1,h⟩:=h;rw[h1];exact hK _ h
 ·obtain⟨h1,h⟩:=h;rw[h1];exact hK _ h
 ·obtain⟨h1,h⟩:=h;rw[h1];exact hK _ h
 ·exact h.elim
end
section
variable {P:Program} {cf:hl P} {s:TS} {R:Exit→TS→Prop} {K:TV→aW} {Kp:AV→Prop}
theorem G4 {l:List (Nat×bI)} {t:Nat} {K:bI→aW} (h:(w6 l t K).den R): ∃e,(K e).den R:=by
 induction l with
 | nil=>exact h.elim
 | cons p r bS=>
  obtain⟨k,e⟩:=p
  unfold w6 at h
  split at h
  ·exact⟨e,h⟩
  ·exact bS h
end
section
variable [FZ] {P:Program} {cf:hl P} {s:TS} {R:Exit→TS→Prop} {K:TV→aW} {Kp:AV→Prop}
variable (aO:Fits s)
theorem Zm {t:TypeId} {b g m:Nat} {i:Int} {k:IntKind} {eD:Bool} (hK: ∀v,(K v).den R→Kp v.bE) (h:(FV P t b g m i s (s.get (bC b)) K).den R):wZ P t (.ref b g 0 m eD) (.int k i) (s.aJ cf.n).H Kp:=by
 unfold FV at h
 split at h
 ·rename_i dK hQ ids hg
  split at h
  ·rename_i hb
   have hb:b<s.br:=by rw[←Nat.blt_eq];exact hb
   obtain⟨h1,h2,aP,h⟩:=h
   subst h1
   obtain⟨nT,q1,q2,q3⟩:=w0 h2
   refine et q1 ?_
   rw[if_pos q2]
   refine et (by rw[rp hb,hg]) ⟨rfl,q3.symm,aP.1,by have:=aP.2;omega,?_⟩
   rw[Nat.zero_add];exact hK _ h
  ·exact h.elim
 ·obtain⟨e,xs,fB,hm,h,hb,aV⟩:=vV (n:=cf.n) h
  obtain⟨h1,h2,h⟩:=h
  obtain⟨nT,q1,q2,q3⟩:=w0 h1
  refine et q1 ?_
  rw[if_pos q2]
  refine et aV ⟨rfl,q3.symm,h2.1,by have:=h2.2;omega,?_⟩
  rw[Nat.zero_add];exact hK _ h
include aO in
theorem EF {V:List ad} {ids:List Nat} {w:Int} {bX:Nat} {hv:V.length=bX} (hk:s.get dL= .g4 V ids bX hv) (hw:w.toNat<V.length):(s.aJ cf.n).H[nth ids w+s.br]?=some (bm (nth V w).ac):=by
 obtain⟨G,e,_⟩:=aO V ids _ _ hk
 have aL:=jl G.ok
 rw[e] at aL
 have gR:=G.ok.lt w.toNat _ (gV (xs:=ids) (i:=w) (by have:=G.ok.len;omega))
 refine K2 hk ?_
 rw[sQ gR,←e,Dj G.ok (by rw[e];exact hw)]
include aO in
theorem Zo {t:TypeId} {w:Int} {ids:List Nat} {m c:Nat} {i:Int} {k:IntKind} (hK: ∀v,(K v).den R→Kp v.bE) (h:(FW P t w ids m c i s K).den R):wZ P t (.ref (nth ids w+m) 0 0 c false) (.int k i) (s.aJ cf.n).H Kp:=by
 unfold FW at h
 split at h
 ·rename_i V dh bX kI hk
  obtain⟨h1,h2,aP,a8,h⟩:=h
  subst h1;subst h2
  obtain⟨nT,q1,q2,q3⟩:=w0 aP
  refine et q1 ?_
  rw[if_pos q2]
  refine et (EF aO hk a8.1) ⟨rfl,q3.symm,a8.2.1,by have:=a8.2.2;omega,?_⟩
  rw[Nat.zero_add];exact hK _ h
 ·exact h.elim
include aO in
theorem Zr {t:TypeId} {x i:TV} (hK: ∀v,(K v).den R→Kp v.bE) (h:(FX P t x i s K).den R):wZ P t x.bE i.bE (s.aJ cf.n).H Kp:=by
 unfold FX at h
 split at h
 ·split at h
  ·obtain⟨h1,h2,h⟩:=h
   obtain⟨nT,q1,q2,q3⟩:=w0 h1
   refine et q1 ?_
   rw[if_pos q2]
   exact⟨h2.1,et (Hh h2.2 false) ⟨by rw[rK,q3],hK _ h⟩⟩
  ·exact Zm hK h
  ·exact Zo aO hK h
  ·exact h.elim
 ·exact h.elim
include aO in
theorem abc {t:TypeId} {w:Int} {ids:List Nat} {m:Nat} {j:Int} (hK: ∀v,(K v).den R→Kp v.bE) (h:(GW P t w ids m j s K).den R):o4 P t (.ptr (nth ids w+m) 0 j.toNat 0) (s.aJ cf.n).L (s.aJ cf.n).H Kp:=by
 unfold GW at h
 split at h
 ·rename_i V dh bX kI hk
  obtain⟨h1,h2,aP,h⟩:=h
  subst h1;subst h2
  exact et (EF aO hk aP.1) ⟨rfl,et (ym aP.2) (sT [] hK h)⟩
 ·exact h.elim
include aO in
theorem abd {t:TypeId} {b g m c:Nat} {i:Int} (hK: ∀v,(K v).den R→Kp v.bE) (h:(GX P t b g i m c s K).den R):o4 P t (.ptr b g i.toNat c) (s.aJ cf.n).L (s.aJ cf.n).H Kp:=by
 unfold GX at h
 split at h
 ·rename_i dK hQ ids hg
  split at h
  ·rename_i hb
   have hb:b<s.br:=by rw[←Nat.blt_eq];exact hb
   split at h
   ·rename_i V dh bX kI hk
    obtain⟨h1,h2,aP,h⟩:=h
    subst h1;subst h2
    obtain⟨G,e,_⟩:=aO V dh _ _ hk
    exact et (by rw[rp hb,hg]) ⟨rfl,et (acZ G e aP) (sT [] hK h)⟩
   ·exact h.elim
  ·exact h.elim
 ·rename_i dK ba hg
  split at h
  ·rename_i hb
   have hb:b<s.br:=by rw[←Nat.blt_eq];exact hb
   obtain⟨h1,h2,h⟩:=h
   subst h1;subst h2
   exact et (by rw[rp hb,hg]) ⟨rfl,et (a:=cS ba) rfl (sT [] hK h)⟩
  ·exact h.elim
 ·obtain⟨e,xs,fB,hm,h,hb,aV⟩:=vV (n:=cf.n) h
  obtain⟨h1,h2,h⟩:=h
  refine et aV ⟨rfl,et (Hh (by omega) true) ?_⟩
  exact sT [] hK h
include aO in
theorem PV {o:Oper} (hK: ∀v,(K v).den R→Kp v.bE) (h:(so cf s o K).den R):jY P o (cv (s.aJ cf.n).T) (s.aJ cf.n).L (s.aJ cf.n).H Kp:=by
 rw[k9]
 obtain⟨dst,op,ty,pos,after,guard⟩:=o
 unfold so at h
 split at h
 ·rename_i x fU;cases fU;rw[qE] at h;exact hK _ h
 ·rename_i x fU;cases fU;rw[qE] at h;exact hK _ h
 ·rename_i t x i fU;cases fU;exact Zr aO hK h
 ·rename_i t a fU
  cases fU
  split at h
  ·rename_i b g i m c a4
   show o4 P t (cP cf.n s a).bE _ _ Kp
   rw[a4];exact abd aO hK h
  ·rename_i w ids m j a4
   show o4 P t (cP cf.n s a).bE _ _ Kp
   rw[a4];exact abc aO hK h
  ·exact sT (F:=fun H Q=>jY P _ _ _ H Q) _ hK h
 ·rename_i t x lo hi mx fU
  cases fU
  split at h
  ·have:=adr (H:=(s.aJ cf.n).H) hK h
   show vo P t _ (lo.map _) (hi.map _) _ Kp
   rw[Option.map_map,Option.map_map] at this
   exact this
  ·exact h.elim
 ·rename_i c fU
  cases fU
  obtain⟨callee,args,argTypes⟩:=c
  split at h
  ·rename_i b hb
   cases hb
   split at h
   ·show(match args.toList,argTypes.toList with
     | [x],[t]=>e7 (j4 P t ((fun x=>(cP cf.n s x).bE) x)) (sa ((fun x=>(cP cf.n s x).bE) x) Kp)
     | _,_=>False)
    split at h
    ·rename_i x t h1 h2
     simp only at h1 h2
     simp only[h1,h2];exact abl hK h
    ·exact h.elim
   ·exact h.elim
  ·rename_i f hf
   cases hf
   show l0 (cP cf.n s f).bE fun g caps=>oS P g (args.toList.map (fun x=>(cP cf.n s x).bE)++caps) _ _ Kp
   split at h
   ·rename_i g caps hc
    rw[hc]
    have:=Ux (n:=cf.n) aO hK h
    rw[n4,List.map_append,List.map_map] at this
    show oS P g (_++cS caps) _ _ Kp
    rw[n4];exact this
   ·exact h.elim
  ·exact h.elim
 ·rename_i t m ps fU
  cases fU
  obtain⟨e,h⟩:=G4 h
  obtain⟨xs,h⟩:=G3 (n:=cf.n) aO h
  exact sT (F:=fun H Q=>jY P _ _ _ H Q) _ hK h
 ·exact sT (F:=fun H Q=>jY P _ _ _ H Q) _ hK h
end
theorem fu {n:Int} (h1: -9223372036854775808≤n) (h2:n≤9223372036854775807):IntKind.i64.wrap n=n:=by
 rw[IntKind.wrap_i64];omega
def b4 (x a b:Int):Bool:=decide (a≤x)&&decide (x≤b)
theorem jd {x a b:Int}:b4 x a b=true↔a≤x∧x≤b:=by simp[b4]
theorem gq {α:Type} [Inhabited α] {xs:List α} {i:Int} (h:i.toNat<xs.length):nth xs i=xs[i.toNat]:=by
 have:=gV h
 rw[List.getElem?_eq_getElem h] at this
 exact(Option.some.inj this).symm
theorem dq {α:Type} [Inhabited α] {xs:List α} {i:Int} (h:i.toNat<xs.length):nth xs i∈xs:=by rw[gq h];exact List.getElem_mem h
theorem iJ {α:Type} [Inhabited α] {xs:List α} {i:Nat} (h:i<xs.length):nth xs (i:Int)=xs[i]:=by rw[gq (by simpa using h)];simp
def first {α:Type} (xs:List α) (p:α→Bool):Option Nat:=xs.findIdx? p
theorem VH {α:Type} {xs:List α} {p:α→Bool} (h: ∀x∈xs,p x=false):first xs p=none:=by
 unfold first;rw[List.findIdx?_eq_none_iff];exact h
theorem VI {α:Type} [Inhabited α] {xs:List α} {p:α→Bool} {i:Int} (h: ∀x∈xs.take i.toNat,p x=false) (hi:i.toNat<xs.length) (aI:p (nth xs i)=true):first xs p=some i.toNat:=by
 unfold first
 rw[List.findIdx?_eq_some_iff_getElem]
 refine⟨hi,by rw[←gq hi];exact aI,fun j aM=> ?_⟩
 have:=h xs[j] (by rw[List.mem_take_iff_getElem];exact⟨j,by omega,rfl⟩)
 simp[this]
def xj (o:Option Nat):Int:=match o with
 | some i=>i
 | none=> -1
def nG (xs:List Int) (v:Int):Int:=xj (first xs (fun x=>v==x))
def fS (xs:List Int) (v:Int):Bool:=xs.contains v
def r6 (xs:List Bool) (v:Bool):Int:=xj (first xs (fun x=>v==x))
def jZ (xs:List Bool) (v:Bool):Bool:=xs.contains v
def aa {α:Type} (x:α):α:=x
def meets (a b:List Int):Bool:=a.any fun x=>b.contains x
def dup (l:List Int):Bool:= !decide l.Nodup
def bz (w:Way):List cA:=w.a2++w.bB
def hD (l:List Int) (n:Int):Bool:=decide (l.length≤30)&&l.all (fun x=>b4 x 0 (n - 1))&&decide l.Nodup
def lF (p:az) (l:List cA):Bool:=decide (l.length≤30)&&l.all (fun x=>b4 x.sw 0 (p.be.length - 1)&&b4 x.bp 1 2)&&decide (l.map (·.sw)).Nodup
def g1 (p:az) (w:Way):Bool:=
 decide (w.af≠[])&&hD w.af p.af&&hD w.cQ p.af&&hD w.cu p.af&&lF p w.a2&&lF p w.bB&&
 decide ((bz w).map (·.sw)).Nodup&&w.a2.all (fun x=>w.af.contains (nth p.be x.sw))&& !meets w.af w.cQ
def rG (p:az) (i k:Nat):Bool:=nth (nth p.bW i) k
def n5 (p:az) (i k:Nat):Bool:=(rG p i k !=rG p k i) || (decide (i≠k)&& !rG p i k&&meets (nth p.O i).af (nth p.O k).af)
def o9 (p:az):jm:=if p.bW.length=p.O.length then
  match first p.bW (fun b=>decide (b.length≠p.O.length)) with
  | some k=>⟨4,k⟩
  | none=>match first (List.range p.O.length) (fun i=>(List.range p.O.length).any fun k=>n5 p i k) with
   | some k=>⟨5,k⟩
   | none=>⟨0,0⟩
 else⟨4,0⟩
def xp (p:az):jm:=match first p.O (fun w=> !g1 p w) with
 | some k=>⟨3,k⟩
 | none=>o9 p
def xo (p:az):jm:=match first p.be (fun s=> !b4 s 0 (p.af - 1)) with
 | some k=>⟨2,k⟩
 | none=>xp p
def hR (p:az):jm:=if b4 p.af 1 60&&b4 p.dx 1 300&&decide (p.be.length≤40)&&decide (p.O.length≤100) then xo p else⟨1,0⟩
def ea (p:az):Bool:=decide (hR p=⟨0,0⟩)
def eZ (p:az) (e:Event):Bool:=
 if e.op=1∨e.op=2 then b4 e.ai 0 (p.O.length - 1)&&decide (e.bp=0)
 else if e.op=3∨e.op=4 then b4 e.ai 0 (p.af - 1)&&decide (e.bp=0)
 else if e.op=5 then b4 e.ai 0 (p.be.length - 1)&&b4 e.bp 0 2
 else if e.op=6 then b4 e.ai 0 (p.be.length - 1)&&b4 e.bp 1 2
 else if e.op=7 then decide (e.ai=0)&&decide (e.bp=0)
 else false
def small {α:Type} (a:List α):Prop:=a.length≤1048576
def eqv {α:Type} [DecidableEq α] (a b:α):Bool:=decide (a=b)
def rC {α:Type} (a:α):Bool:=true
def zC (l:List Int) (n:Int):Prop:= -9223372036854775808<n∧n≤9223372036854775807
def HA (p:az) (w:Way):Prop:= -9223372036854775808<p.af∧p.af≤9223372036854775807
def Pq (p:az) (e:Event):Prop:= -9223372036854775808<p.af∧p.af≤9223372036854775807
def xq (w:Way):Prop:=w.a2.length≤1048576∧w.bB.length≤1048576
def cl (N:Int) (p:Int→Bool) (v:Int):Prop:=0≤v∧v≤N∧ ∀j:Int,0≤j→j<v→p j=false
def cy (N:Int) (v:Int):Nat:=(N - v).toNat
theorem c6 {N:Int} {p:Int→Bool} (h:0≤N):cl N p 0:=⟨Int.le_refl _,h,fun j aU h1=>by omega⟩
theorem iE {N v:Int} (aF:N≤4611686018427387904) (aU:0≤v) (hv:v<N):IntKind.i64.wrap (v+1)=v+1:=fu (by omega) (by omega)
theorem cG {N v:Int} {p:Int→Bool} (aF:N≤4611686018427387904) (h:cl N p v) (hv:decide (v<N)=true) (aI:p v=false):cl N p (IntKind.i64.wrap (v+1))∧cy N (IntKind.i64.wrap (v+1))<cy N v:=by
 obtain⟨aU,h1,h2⟩:=h
 have hv:v<N:=by simpa using hv
 rw[iE aF aU hv]
 refine⟨⟨by omega,by omega,fun j ck e4=> ?_⟩,by unfold cy;omega⟩
 rcases Int.lt_or_eq_of_le (show j≤v by omega) with aL | rfl
 ·exact h2 j ck aL
 ·exact aI
theorem gG {N v:Int} {p:Int→Bool} (h:cl N p v) (hv:decide (v<N)=false): ∀j:Int,0≤j→j<N→p j=false:=by
 obtain⟨aU,h1,h2⟩:=h
 have hv: ¬v<N:=by simpa using hv
 exact fun j ck e4=>h2 j ck (by omega)
theorem b8 {α:Type} {xs:List α} {v:Int} {p:Int→Bool} (h:cl xs.length p v) (hv:decide (v<(xs.length:Int))=true):0≤v∧v.toNat<xs.length:=by
 have hv:v<(xs.length:Int):=by simpa using hv
 exact⟨h.1,by have:=h.1;omega⟩
theorem cq {α:Type} {xs:List α} (h:xs.length≤4611686018427387904):(xs.length:Int)≤4611686018427387904:=by omega
theorem dd {α:Type} (xs:List α):0≤(xs.length:Int):=by omega
theorem mn {α:Type} [Inhabited α] {xs:List α} {q:α→Bool} (h: ∀j:Int,0≤j→j<xs.length→q (nth xs j)=false): ∀x∈xs,q x=false:=fun x hx=>by
 obtain⟨i,hi,rfl⟩:=List.mem_iff_getElem.1 hx
 have:=h i (by omega) (by omega)
 rwa [iJ hi] at this
theorem qh {α:Type} [Inhabited α] {xs:List α} {q:α→Bool} {v:Int} (h:cl xs.length (fun j=>q (nth xs j)) v) (hv:decide (v<(xs.length:Int))=true) (aI:q (nth xs v)=true):first xs q=some v.toNat:=by
 have hi:=b8 h hv
 refine VI (fun x hx=> ?_) hi.2 aI
 obtain⟨i,gb,rfl⟩:=List.mem_take_iff_getElem.1 hx
 have:q (nth xs (i:Int))=false:=h.2.2 i (by omega) (by omega)
 rwa [iJ (by omega)] at this
theorem qi {α:Type} [Inhabited α] {xs:List α} {q:α→Bool} {v:Int} (h:cl xs.length (fun j=>q (nth xs j)) v) (hv:decide (v<(xs.length:Int))=false):first xs q=none:=
 VH (mn (gG h hv))
theorem Di {α:Type} [Inhabited α] {xs:List α} {q:α→Bool} {v:Int} (h:cl xs.length (fun j=>q (nth xs j)) v) (hv:decide (v<(xs.length:Int))=true) (aI:q (nth xs v)=true):xs.any q=true:=by
 rw[List.any_eq_true];exact⟨_,dq (b8 h hv).2,aI⟩
theorem Ah {α:Type} [Inhabited α] {xs:List α} {q:α→Bool} {v:Int} (h:cl xs.length (fun j=>q (nth xs j)) v) (hv:decide (v<(xs.length:Int))=false):xs.any q=false:=by
 rw[List.any_eq_false]
 intro x hx
 rw[mn (gG h hv) x hx];simp
theorem not_eq {b:Bool} (h:(!b)=true):b=false:=by simpa using h
theorem H7 {α:Type} [Inhabited α] {a b:List α} (aL:a.length=b.length) (h: ∀j:Int,0≤j→j<a.length→nth a j=nth b j):a=b:=by
 apply List.ext_getElem aL
 intro i h1 h2
 have:=h i (by omega) (by omega)
 rwa [iJ h1,iJ h2] at this
theorem Er {α:Type} [Inhabited α] [DecidableEq α] {a b:List α} {ne:Int→Bool} (cm: ∀v,ne v=true↔nth a v≠nth b v):
  ((a.length≤4611686018427387904)∧(b.length≤4611686018427387904)→((a.length:Int) !=(b.length:Int))=true→false=eqv a b)∧((a.length≤4611686018427387904)∧(b.length≤4611686018427387904)∧((!((a.length:Int) !=(b.length:Int)))=true)→
   cl a.length ne 0∧ ∀(v:Int),cl a.length ne v→(((decide (v<(a.length:Int)))=false→true=eqv a b)∧((decide (v<(a.length:Int)))=true→(((0≤v∧v.toNat<a.length)∧(0≤v∧v.toNat<b.length))∧((ne v)=true→false=eqv a b))∧
    ((!(ne v))=true→cl a.length ne (IntKind.i64.wrap (v+1))∧cy a.length (IntKind.i64.wrap (v+1))<cy a.length v)))):=by
 refine⟨fun _ h=> ?_,fun⟨h1,h2,aP⟩=> ?_⟩
 ·have:a≠b:=fun e=>by subst e;simp at h
  simp[eqv,this]
 ·have aL:a.length=b.length:=by have:(a.length:Int)=b.length:=by simpa using aP
                                omega
  refine⟨c6 (dd a),fun v aX=>⟨fun hv=> ?_,fun hv=>⟨⟨⟨b8 aX hv,by rw[←aL];exact b8 aX hv⟩,fun aF=> ?_⟩,fun aF=>cG (cq h1) aX hv (not_eq aF)⟩⟩⟩
  ·have:a=b:=H7 aL fun j ck e4=>by
    have aj:=gG aX hv j ck e4
    by_cases he:nth a j=nth b j
    ·exact he
    ·rw[(cm j).2 he] at aj;cases aj
   simp[eqv,this]
  ·have:a≠b:=fun e=>(cm v).1 aF (by rw[e])
   simp[eqv,this]
theorem uk {xs:List Int} {x:Int}:fS xs x=true↔x∈xs:=by unfold fS;simp
theorem XP {xs:List Int} {x k:Int} (hk:k.toNat<xs.length) (h:(x==nth xs k)=true):fS xs x=true:=by
 rw[uk,show x=nth xs k by simpa using h];exact dq hk
theorem XN {xs:List Int} {x:Int} (h: ∀j:Int,0≤j→j<xs.length→(x==nth xs j)=false):fS xs x=false:=by
 rw[←Bool.not_eq_true,uk]
 intro hm
 have:=mn (q:=fun y=>x==y) h x hm
 simp at this
theorem Zp (xs:List Int) (x:Int):(decide (nG xs x ≥ 0))=fS xs x:=by
 unfold nG
 cases h:first xs (fun y=>x==y) with
 | none=>
  unfold first at h
  rw[List.findIdx?_eq_none_iff] at h
  have:fS xs x=false:=by
   rw[←Bool.not_eq_true,uk]
   intro hm
   have:=h x hm
   simp at this
  rw[this];rfl
 | some i=>
  unfold first at h
  rw[List.findIdx?_eq_some_iff_getElem] at h
  obtain⟨hi,aI,_⟩:=h
  have:fS xs x=true:=by rw[uk,show x=xs[i] by simpa using aI];exact List.getElem_mem hi
  rw[this]
  show decide ((i:Int) ≥ 0)=true
  simp
theorem Vb {xs:List Int} {v:Int} (aU:0≤v) (hv:v.toNat<xs.length) (h:fS (xs.take v.toNat) (nth xs v)=true):dup xs=true:=by
 rw[uk] at h
 unfold dup
 simp only[Bool.not_eq_true',decide_eq_false_iff_not]
 intro aF
 obtain⟨i,hi,he⟩:=List.mem_take_iff_getElem.1 h
 rw[gq hv] at he
 exact(List.pairwise_iff_getElem.1 aF) i v.toNat (by omega) hv (by omega) he
theorem KG {xs:List Int} (h: ∀j:Int,0≤j→j<xs.length→fS (xs.take j.toNat) (nth xs j)=false):dup xs=false:=by
 unfold dup
 simp only[Bool.not_eq_false',decide_eq_true_eq]
 unfold List.Nodup
 rw[List.pairwise_iff_getElem]
 intro i j hi aM bf he
 have:=h j (by omega) (by omega)
 rw[←Bool.not_eq_true,uk,iJ aM] at this
 exact this (by rw[List.mem_take_iff_getElem];exact⟨i,by omega,he⟩)
theorem HZ (x n:Int):(decide (x<0) || decide (x ≥ n))= !b4 x 0 (n - 1):=by
 rw[Bool.eq_iff_iff]
 simp[b4]
 omega
theorem OL {α:Type} {l:List α} (k:Nat):decide ((l.length:Int)≤(k:Int))=decide (l.length≤k):=decide_eq_decide.2 (by omega)
theorem abW {α:Type} [Inhabited α] {β:Type} [DecidableEq β] {l:List α} {f:α→β} (h: ∀i j:Int,0≤i→i<j→j<l.length→f (nth l i)≠f (nth l j)):(l.map f).Nodup:=by
 unfold List.Nodup
 rw[List.pairwise_iff_getElem]
 intro i j hi aM bf
 simp only[List.length_map] at hi aM
 rw[List.getElem_map,List.getElem_map]
 have:=h i j (by omega) (by omega) (by omega)
 rwa [iJ hi,iJ aM] at this
theorem OR {α:Type} [Inhabited α] {β:Type} [DecidableEq β] {l:List α} {f:α→β} {i j:Int} (aU:0≤i) (h1:i<j) (h2:j<l.length) (he:f (nth l i)=f (nth l j)): ¬(l.map f).Nodup:=by
 intro aF
 have:=(List.pairwise_iff_getElem.1 aF) i.toNat j.toNat (by simp;omega) (by simp;omega) (by omega)
 rw[List.getElem_map,List.getElem_map,←gq (by omega),←gq (by omega)] at this
 exact this he
theorem map_id' {α:Type} (l:List α):l.map (fun x=>x)=l:=by simp
theorem pY {l:List Int} {n:Int}:hD l n=true↔l.length≤30∧(∀x∈l,b4 x 0 (n - 1)=true)∧l.Nodup:=by
 unfold hD;simp[and_assoc]
theorem abv {l:List Int} {n:Int} (h: ∀j:Int,0≤j→j<l.length→(!b4 (nth l j) 0 (n - 1) || fS (l.take j.toNat) (nth l j))=false):hD l n=decide (l.length≤30):=by
 have h1: ∀x∈l,b4 x 0 (n - 1)=true:=fun x hx=>by
  have:=mn (q:=fun x=> !b4 x 0 (n - 1)) (fun j ck e4=>(Bool.or_eq_false_iff.1 (h j ck e4)).1) x hx
  simpa using this
 have h2:dup l=false:=KG fun j ck e4=>(Bool.or_eq_false_iff.1 (h j ck e4)).2
 have h2:l.Nodup:=by unfold dup at h2;simpa using h2
 rw[Bool.eq_iff_iff,pY]
 simp only[decide_eq_true_eq]
 exact⟨fun h=>h.1,fun h=>⟨h,h1,h2⟩⟩
theorem Ov {l:List Int} {n:Int} {v:Int} (hv:v.toNat<l.length) (h:(!b4 (nth l v) 0 (n - 1))=true):hD l n=false:=by
 rw[←Bool.not_eq_true,pY]
 intro bY
 have:=bY.2.1 _ (dq hv)
 simp[this] at h
theorem abu {l:List Int} {n:Int} {i j:Int} (aU:0≤i) (h1:i<j) (h2:j<l.length) (he:(nth l i==nth l j)=true):hD l n=false:=by
 rw[←Bool.not_eq_true,pY]
 intro bY
 have:=OR (f:=fun x=>x) aU h1 h2 (by simpa using he)
 rw[map_id'] at this
 exact this bY.2.2
theorem XO {l:List Int} {v:Int} (aU:0≤v) (hv:v<l.length) (h: ∀j:Int,0≤j→j<v→(nth l j==nth l v)=false):fS (l.take v.toNat) (nth l v)=false:=by
 rw[←Bool.not_eq_true,uk]
 intro hm
 obtain⟨i,hi,he⟩:=List.mem_take_iff_getElem.1 hm
 have:=h i (by omega) (by omega)
 rw[iJ (by omega),he] at this
 simp at this
theorem mD {p:az} {l:List cA}:lF p l=true↔l.length≤30∧(∀x∈l,(b4 x.sw 0 (p.be.length - 1)&&b4 x.bp 1 2)=true)∧(l.map (·.sw)).Nodup:=by
 unfold lF;simp[and_assoc]
def o5 (p:az) (x:cA):Bool:=(!b4 x.sw 0 (p.be.length - 1)) || (!b4 x.bp 1 2)
theorem zj (p:az) (x:cA):o5 p x= !(b4 x.sw 0 (p.be.length - 1)&&b4 x.bp 1 2):=by unfold o5;rw[Bool.not_and]
def zk (l:List cA) (j:Int):Bool:=(l.take j.toNat).any fun y=>y.sw==(nth l j).sw
theorem abr {p:az} {l:List cA} (h: ∀j:Int,0≤j→j<l.length→(o5 p (nth l j) || zk l j)=false):lF p l=decide (l.length≤30):=by
 have h1: ∀x∈l,(b4 x.sw 0 (p.be.length - 1)&&b4 x.bp 1 2)=true:=fun x hx=>by
  have:=mn (q:=o5 p) (fun j ck e4=>(Bool.or_eq_false_iff.1 (h j ck e4)).1) x hx
  rw[zj] at this
  simpa using this
 have h2:(l.map (·.sw)).Nodup   :=abW fun i j aU h1 aM=>by
  have:=(Bool.or_eq_false_iff.1 (h j (by omega) aM)).2
  unfold zk at this
  rw[List.any_eq_false] at this
  have:=this (nth l i) (by rw[gq (by omega)];exact List.mem_take_iff_getElem.2 ⟨i.toNat,by omega,rfl⟩)
  simpa using this
 rw[Bool.eq_iff_iff,mD]
 simp only[decide_eq_true_eq]
 exact⟨fun h=>h.1,fun h=>⟨h,h1,h2⟩⟩
theorem abt {p:az} {l:List cA} {v:Int} (hv:v.toNat<l.length) (h:o5 p (nth l v)=true):lF p l=false:=by
 rw[←Bool.not_eq_true,mD]
 intro bY
 rw[zj,bY.2.1 _ (dq hv)] at h
 cases h
theorem abq {p:az} {l:List cA} {i j:Int} (aU:0≤i) (h1:i<j) (h2:j<l.length) (he:((nth l i).sw==(nth l j).sw)=true):lF p l=false:=by
 rw[←Bool.not_eq_true,mD]
 exact fun bY=>OR (f:=fun x:cA=>x.sw) aU h1 h2 (by simpa using he) bY.2.2
theorem abo {l:List cA} {v:Int} (aU:0≤v) (hv:v<l.length) (h: ∀j:Int,0≤j→j<v→((nth l j).sw==(nth l v).sw)=false):zk l v=false:=by
 unfold zk
 rw[List.any_eq_false]
 intro y hy
 obtain⟨i,hi,rfl⟩:=List.mem_take_iff_getElem.1 hy
 have:=h i (by omega) (by omega)
 rw[iJ (by omega)] at this
 rw[this];simp
theorem OE (a b:List Int):meets a b=meets b a:=by
 unfold meets
 rw[Bool.eq_iff_iff]
 simp only[List.any_eq_true,List.contains_iff_mem]
 exact⟨fun⟨x,h1,h2⟩=>⟨x,h2,h1⟩,fun⟨x,h1,h2⟩=>⟨x,h2,h1⟩⟩
theorem uX (x:Int) (b:List Int):meets [x] b=b.contains x:=by unfold meets;simp
theorem nY {p:az} {w:Way}:g1 p w=true↔w.af≠[]∧hD w.af p.af=true∧hD w.cQ p.af=true∧hD w.cu p.af=true∧lF p w.a2=true∧lF p w.bB=true∧
  ((bz w).map (·.sw)).Nodup∧(∀x∈w.a2,w.af.contains (nth p.be x.sw)=true)∧meets w.af w.cQ=false:=by
 unfold g1;simp[and_assoc]
theorem Ci {w:Way}:((bz w).map (·.sw)).Nodup↔(w.a2.map (·.sw)).Nodup∧(w.bB.map (·.sw)).Nodup∧ ∀x∈w.a2,∀y∈w.bB,x.sw≠y.sw:=by
 unfold bz
 rw[List.map_append,List.nodup_append]
 simp only[List.mem_map]
 constructor
 ·rintro⟨h1,h2,aP⟩;exact⟨h1,h2,fun x hx y hy=>aP _ ⟨x,hx,rfl⟩ _ ⟨y,hy,rfl⟩⟩
 ·rintro⟨h1,h2,aP⟩
  refine⟨h1,h2,?_⟩
  rintro a ⟨x,hx,rfl⟩ b ⟨y,hy,rfl⟩
  exact aP x hx y hy
def kS (p:az):Bool:=b4 p.af 1 60&&b4 p.dx 1 300&&decide (p.be.length≤40)&&decide (p.O.length≤100)
theorem Hu {p:az} (h:kS p=false):hR p=⟨1,0⟩:=by
 unfold hR;unfold kS at h;rw[if_neg (by rw[h];simp)]
theorem Hw {p:az} (h:kS p=true):hR p=xo p:=by
 unfold hR;unfold kS at h;rw[if_pos h]
theorem Pl {p:az} {k:Nat} (hb:kS p=true) (h:first p.be (fun s=> !b4 s 0 (p.af - 1))=some k):hR p=⟨2,k⟩:=by rw[Hw hb];unfold xo;rw[h]
theorem Pn {p:az} (hb:kS p=true) (h:first p.be (fun s=> !b4 s 0 (p.af - 1))=none):hR p=xp p:=by rw[Hw hb];unfold xo;rw[h]
theorem Pm {p:az} {k:Nat} (hb:kS p=true) (h:first p.be (fun s=> !b4 s 0 (p.af - 1))=none) (hw:first p.O (fun w=> !g1 p w)=some k):hR p=⟨3,k⟩:=by rw[Pn hb h];unfold xp;rw[hw]
theorem Hv {p:az} (hb:kS p=true) (h:first p.be (fun s=> !b4 s 0 (p.af - 1))=none) (hw:first p.O (fun w=> !g1 p w)=none):hR p=o9 p:=by rw[Pn hb h];unfold xp;rw[hw]
theorem Pk {p:az} (h:p.bW.length≠p.O.length):o9 p=⟨4,0⟩:=by unfold o9;rw[if_neg h]
theorem Ph {p:az} {k:Nat} (h:p.bW.length=p.O.length) (hb:first p.bW (fun b=>decide (b.length≠p.O.length))=some k):o9 p=⟨4,k⟩:=by unfold o9;rw[if_pos h,hb]
theorem Pj {p:az} {k:Nat} (h:p.bW.length=p.O.length) (hb:first p.bW (fun b=>decide (b.length≠p.O.length))=none) (aj:first (List.range p.O.length) (fun i=>(List.range p.O.length).any fun k=>n5 p i k)=some k):o9 p=⟨5,k⟩:=by
 unfold o9;rw[if_pos h,hb];simp only;rw[aj]
theorem Ht {p:az} (h:p.bW.length=p.O.length) (hb:first p.bW (fun b=>decide (b.length≠p.O.length))=none) (aj:first (List.range p.O.length) (fun i=>(List.range p.O.length).any fun k=>n5 p i k)=none):o9 p=⟨0,0⟩:=by
 unfold o9;rw[if_pos h,hb];simp only;rw[aj]
theorem sj {p:az}:kS p=true↔(1≤p.af∧p.af≤60)∧(1≤p.dx∧p.dx≤300)∧p.be.length≤40∧p.O.length≤100:=by
 unfold kS b4;simp[and_assoc]
theorem EL {n:Nat} {q:Nat→Bool} {v:Int} (aU:0≤v) (hv:v<n) (h: ∀j:Int,0≤j→j<v→q j.toNat=false) (aj:q v.toNat=true):first (List.range n) q=some v.toNat:=by
 unfold first
 rw[List.findIdx?_eq_some_iff_getElem]
 refine⟨by simp;omega,by simpa using aj,fun j aM=> ?_⟩
 have:=h j (by omega) (by omega)
 simpa using this
theorem EK {n:Nat} {q:Nat→Bool} (h: ∀j:Int,0≤j→j<n→q j.toNat=false):first (List.range n) q=none:=by
 unfold first
 rw[List.findIdx?_eq_none_iff]
 intro x hx
 have:=h x (by omega) (by have:=List.mem_range.1 hx;omega)
 simpa using this
theorem JW {n:Nat} {q:Nat→Bool} {v:Int} (aU:0≤v) (hv:v<n) (h:q v.toNat=true):(List.range n).any q=true:=by
 rw[List.any_eq_true];exact⟨v.toNat,List.mem_range.2 (by omega),h⟩
theorem OK {n:Nat} {q:Nat→Bool} (h: ∀j:Int,0≤j→j<n→q j.toNat=false):(List.range n).any q=false:=by
 rw[List.any_eq_false]
 intro x hx
 have:=h x (by omega) (by have:=List.mem_range.1 hx;omega)
 simp only[Int.toNat_natCast] at this
 rw[this];simp
theorem ig {α:Type} [Inhabited α] {xs:List α} {i:Int} (h:0≤i):nth xs (i.toNat:Int)=nth xs i:=by rw[Int.toNat_of_nonneg h]
theorem abn (p:az) (x:cA):((decide (x.sw<0)) || ((decide (x.sw ≥ (p.be.length:Int))) || ((x.bp !=1)&&(x.bp !=2))))=o5 p x:=by
 unfold o5
 rw[←HZ,Bool.or_assoc]
 congr 2
 rw[Bool.eq_iff_iff]
 simp[b4]
 omega
def p1 (p:az) (w:Way) (j:Int):Bool:=o5 p (nth (bz w) j) || (decide (j<(w.a2.length:Int))&& !(fS w.af (nth p.be (nth (bz w) j).sw)))
theorem OM {w:Way} {j:Int} (aU:0≤j) (h:j<w.a2.length):nth (bz w) j=nth w.a2 j:=by
 rw[gq (xs:=w.a2) (by omega),gq (by unfold bz;rw[List.length_append];omega)]
 unfold bz
 rw[List.getElem_append_left]
theorem Xb {p:az} {w:Way} (h:g1 p w=true): ∀l∈[w.af,w.cQ,w.cu],hD l p.af=true:=by
 obtain⟨-,h1,h2,aP,-⟩:=nY.1 h
 intro l aL
 simp only[List.mem_cons,List.not_mem_nil,or_false] at aL
 rcases aL with rfl | rfl | rfl
 ·exact h1
 ·exact h2
 ·exact aP
theorem Xc {p:az} {w:Way} (h:g1 p w=true) {j:Int} (aU:0≤j) (aM:j.toNat<(bz w).length):p1 p w j=false:=by
 obtain⟨-,-,-,-,a8,cs,-,cT,-⟩:=nY.1 h
 have hm:=dq aM
 have hb:o5 p (nth (bz w) j)=false:=by
  rw[zj]
  unfold bz at hm ⊢
  rcases List.mem_append.1 hm with hm | hm
  ·rw[(mD.1 a8).2.1 _ hm];rfl
  ·rw[(mD.1 cs).2.1 _ hm];rfl
 unfold p1
 rw[hb,Bool.false_or]
 by_cases aL:j<(w.a2.length:Int)
 ·rw[OM aU aL]
  have:fS w.af (nth p.be (nth w.a2 j).sw)=true:=cT _ (dq (by omega))
  rw[this];simp
 ·simp[aL]
theorem Xa {p:az} {w:Way} (h1:w.af≠[]) (aL: ∀l∈[w.af,w.cQ,w.cu],hD l p.af=true) (aP:w.a2.length≤30) (a8:w.bB.length≤30)
  (aF: ∀j:Int,0≤j→j<(bz w).length→p1 p w j=false):((!(dup ((bz w).map (·.sw))))&&(!(meets w.af w.cQ)))=g1 p w:=by
 have hb: ∀x∈bz w,(b4 x.sw 0 (p.be.length - 1)&&b4 x.bp 1 2)=true:=fun x hx=>by
  have:=mn (q:=o5 p) (fun j ck e4=>by have:=aF j ck e4;unfold p1 at this;exact(Bool.or_eq_false_iff.1 this).1) x hx
  rw[zj] at this
  simpa using this
 have hc: ∀x∈w.a2,w.af.contains (nth p.be x.sw)=true:=fun x hx=>by
  have:=mn (q:=fun x=> !(fS w.af (nth p.be x.sw))) (fun j ck e4=>by
   have:=aF j ck (by unfold bz;rw[List.length_append];omega)
   unfold p1 at this
   have:=(Bool.or_eq_false_iff.1 this).2
   rw[OM ck e4] at this
   simpa[e4] using this) x hx
  simp only[Bool.not_eq_false'] at this
  exact this
 rw[Bool.eq_iff_iff,nY]
 simp only[Bool.and_eq_true,Bool.not_eq_true',dup,Bool.not_eq_false',decide_eq_true_eq]
 constructor
 ·rintro⟨bj,hm⟩
  have pK:=Ci.1 bj
  exact⟨h1,aL _ (by simp),aL _ (by simp),aL _ (by simp),mD.2 ⟨aP,fun x hx=>hb x (by unfold bz;exact List.mem_append_left _ hx),pK.1⟩,mD.2 ⟨a8,fun x hx=>hb x (by unfold bz;exact List.mem_append_right _ hx),pK.2.1⟩,bj,hc,hm⟩
 ·rintro⟨-,-,-,-,-,-,bj,-,hm⟩
  exact⟨bj,hm⟩
theorem J5 {p:az} {i k:Int} (aU:0≤i) (h1:0≤k):(((nth (nth p.bW i) k) !=(nth (nth p.bW k) i)) || ((i !=k)&&((!(nth (nth p.bW i) k))&&(meets (nth p.O i).af (nth p.O k).af))))=n5 p i.toNat k.toNat:=by
 unfold n5 rG
 rw[Int.toNat_of_nonneg aU,Int.toNat_of_nonneg h1]
 have:(i !=k)=decide (i.toNat≠k.toNat):=by
  rw[Bool.eq_iff_iff];simp;omega
 rw[this,Bool.and_assoc]
def qV (n:Int) (e:Event):Bool:=decide (e.ai ≥ 0)&&decide (e.ai<n)
theorem zx (x a b:Int):(bif (x==a) then(x==a) else(x==b))=decide (x=a∨x=b):=by
 by_cases h:x=a
 ·simp[h]
 ·have h1:(x==a)=false:=by simp[h]
  rw[h1,Bool.eq_iff_iff]
  simp[h]
theorem Eu {p:az} {e:Event} (h:e.op=1∨e.op=2):eZ p e=(b4 e.ai 0 (p.O.length - 1)&&decide (e.bp=0)):=by unfold eZ;rw[if_pos h]
theorem Ev {p:az} {e:Event} (h1: ¬(e.op=1∨e.op=2)) (h:e.op=3∨e.op=4):eZ p e=(b4 e.ai 0 (p.af - 1)&&decide (e.bp=0)):=by unfold eZ;rw[if_neg h1,if_pos h]
theorem A7 {p:az} {e:Event} (h:e.op=5):eZ p e=(b4 e.ai 0 (p.be.length - 1)&&b4 e.bp 0 2):=by unfold eZ;simp[h]
theorem A8 {p:az} {e:Event} (h:e.op=6):eZ p e=(b4 e.ai 0 (p.be.length - 1)&&b4 e.bp 1 2):=by unfold eZ;simp[h]
theorem KQ {p:az} {e:Event} (h:e.op=7):eZ p e=(decide (e.ai=0)&&decide (e.bp=0)):=by unfold eZ;simp[h]
theorem KS {p:az} {e:Event} (h1: ¬(e.op=1∨e.op=2)) (aP: ¬(e.op=3∨e.op=4)) (cs:e.op≠5) (cT:e.op≠6) (gk:e.op≠7):eZ p e=false:=by unfold eZ;rw[if_neg h1,if_neg aP,if_neg cs,if_neg cT,if_neg gk]
theorem qt (x y:Int):(x==y)=decide (x=y):=by rw[Bool.eq_iff_iff];simp
theorem Jq (n:Int) (e:Event):qV n e=b4 e.ai 0 (n - 1):=by
 unfold qV b4
 rw[Bool.eq_iff_iff];simp;omega
theorem acp (p:az):((hR p).code==0)=ea p:=by
 have key:(hR p).code=0→(hR p).pos=0:=by
  unfold hR xo xp o9
  split
  ·split
   ·intro h;cases h
   ·split
    ·intro h;cases h
    ·split
     ·split
      ·intro h;cases h
      ·split
       ·intro h;cases h
       ·intro _;rfl
     ·intro h;cases h
  ·intro h;cases h
 unfold ea
 rw[Bool.eq_iff_iff]
 simp only[beq_iff_eq,decide_eq_true_eq]
 constructor
 ·intro h
  have:=key h
  cases aj:hR p with
  | mk c q=>rw[aj] at h this;simp at h this;rw[h,this]
 ·intro h;rw[h]
theorem aco (p:az):((hR p).code==0&&(hR p).pos==0)=ea p:=by
 unfold ea
 rw[Bool.eq_iff_iff]
 simp only[Bool.and_eq_true,beq_iff_eq,decide_eq_true_eq]
 constructor
 ·rintro⟨h1,h2⟩
  cases aj:hR p with
  | mk c q=>rw[aj] at h1 h2;simp at h1 h2;rw[h1,h2]
 ·intro h;rw[h];exact⟨rfl,rfl⟩
theorem acm {p:az} (h:ea p=true):kS p=true:=by
 cases hb:kS p with
 | true=>rfl
 | false=>unfold ea at h;rw[Hu hb] at h;simp at h
def jz (f:Frame):Prop:=f.av.length≤1048576∧f.au.length≤1048576∧f.O.length≤1048576∧ ∀h∈f.O,h.ac.length≤1048576
structure sC (p:az):Prop where
 c0:0≤p.af∧p.af≤60
 O:p.O.length≤100
 sw:p.be.length≤40
 af: ∀w∈p.O,w.af≠[]∧w.af.length≤30∧ ∀x∈w.af,0≤x∧x<p.af
 cQ: ∀w∈p.O,w.cQ.length≤30∧ ∀x∈w.cQ,0≤x∧x<p.af
 cu: ∀w∈p.O,w.cu.length≤30∧ ∀x∈w.cu,0≤x∧x<p.af
 a2: ∀w∈p.O,w.a2.length≤30∧w.bB.length≤30∧ ∀x∈bz w,0≤x.sw∧x.sw<p.be.length
 be: ∀x∈p.be,0≤x∧x<p.af
structure il (p:az) (f:Frame):Prop where
 av:(f.av.length:Int)=p.af
 au:f.au.length=p.be.length
 O:f.O.length=p.O.length
 ac: ∀(i:Nat) (h:ad) (w:Way),f.O[i]?=some h→p.O[i]?=some w→h.ac.length=w.af.length
 ag: ∀h∈f.O,0≤h.ag∧h.ag≤h.ac.length
def dG (f:Frame) (x:Int):Bool:=nth f.av x
def gh (f:Frame) (l:List Int):Bool:=l.any (dG f)
def vp (f:Frame) (l:List Int):Prop:= ∀x∈l,0≤x∧x<f.av.length
def gg (p:az) (f:Frame) (i:Int):Bool:=
 (bz (nth p.O i)).all (fun l=>decide (nth f.au l.sw=⟨l.bp,l.bp⟩))&& !gh f (nth p.O i).af&& !gh f (nth p.O i).cQ
def xr (p:az) (f:Frame) (i:Int):Prop:=sC p∧il p f∧0≤i∧i<p.O.length
def hq (n:Nat):ad:=⟨0,0,List.replicate n false,false,0⟩
def a6 (p:az) (i:Int):ad:=hq (nth p.O i).af.length
def w1 (p:az) (i:Int):Prop:=sC p∧0≤i∧i<p.O.length
def fF (s:List Int) (f:Frame) (ac:List Bool):Nat→Nat→Nat
 | 0,g=>g
 | n+1,g=>if g<s.length∧ac.getD g false=true∧dG f (s.getD g 0)=false∧(g+1=s.length∨ac.getD (g+1) false=true) then fF s f ac n (g+1) else g
def gW (s:List Int) (f:Frame) (h:ad):ad:=
 let ac:=List.zipWith (fun b x=>b || dG f x) h.ac s
 let g:=fF s f ac s.length h.ag.toNat
 if g=s.length then hq s.length else{h with ac:=ac,ag:=g}
def mm (p:az) (f:Frame) (i:Nat):ad:=
 let h:=nth f.O i
 let s:=(nth p.O i).af
 if h.ao=0 then h else
 let h:=if h.ao≠4∧dG f (nth s 0)=true then{h with ao:=4,ar:=0} else h
 let h:=if h.ao=1∨h.ao=2 then(if gg p f i=true then{h with ao:=2,aq:=true} else{h with ao:=1}) else h
 if h.ao=4 then gW s f h else h
def ij (p:az):Nat→Frame→Frame
 | 0,f=>f
 | n+1,f=>let g:=ij p n f;{g with O:=g.O.set n (mm p g n)}
def ee (p:az) (f:Frame):Frame:=ij p f.O.length f
def tD (p:az) (f:Frame):Prop:=sC p∧il p f
structure dt (V:List ad) (ids:List Nat) (v:Int) (h:ad) (ws:List ad) (bs:List (List Bool)):Prop where
 ok:ke ws ids bs
 kQ: ∀i j k:Nat,ids[i]?=some k→ids[j]?=some k→i=j
 lt:v.toNat<ws.length
 g0:view ws ids bs=V.set v.toNat h
 len: ∀b∈bs,b.length≤1048576
section
variable {V:List ad} {ids:List Nat} {v:Int} {h:ad} {ws:List ad} {bs:List (List Bool)}
theorem dt.fA (F:dt V ids v h ws bs):ws.length=ids.length∧v.toNat<ws.length:=⟨F.ok.len,F.lt⟩
theorem dt.tI (F:dt V ids v h ws bs):V.length=ws.length:=by
 have:=congrArg List.length F.g0
 rw[jl F.ok,List.length_set] at this;exact this.symm
theorem dt.id (F:dt V ids v h ws bs):ids[v.toNat]?=some (nth ids v):=gV (by rw[←F.ok.len];exact F.lt)
theorem dt.qT (F:dt V ids v h ws bs):nth ids v<bs.length:=F.ok.lt _ _ F.id
theorem dt.row (F:dt V ids v h ws bs):h={nth ws v with ac:=bs.getD (nth ids v) []}:=by
 have h1:=xV (bs:=bs) (gV F.lt) F.id
 rw[F.g0,List.getElem?_set_self (by rw[F.tI];exact F.lt)] at h1
 exact Option.some.inj h1
theorem dt.ao (F:dt V ids v h ws bs):(nth ws v).ao=h.ao:=by rw[F.row]
theorem dt.ag (F:dt V ids v h ws bs):(nth ws v).ag=h.ag:=by rw[F.row]
theorem dt.aq (F:dt V ids v h ws bs):(nth ws v).aq=h.aq:=by rw[F.row]
theorem dt.ar (F:dt V ids v h ws bs):(nth ws v).ar=h.ar:=by rw[F.row]
theorem dt.ac (F:dt V ids v h ws bs):bs.getD (nth ids v) []=h.ac:=by rw[F.row]
theorem dt.qu (F:dt V ids v h ws bs):(nth ws v).ac.length=h.ac.length:=by
 rw[←F.ac];exact F.ok.ac _ _ _ (gV F.lt) F.id
theorem dt.start (ok:ke ws ids bs) (kQ: ∀i j k:Nat,ids[i]?=some k→ids[j]?=some k→i=j) (lt:v.toNat<ws.length) (g0:view ws ids bs=V) (len: ∀b∈bs,b.length≤1048576):dt V ids v (nth V v) ws bs:=by
 have aL:v.toNat<V.length:=by rw[←g0,jl ok];exact lt
 exact⟨ok,kQ,lt,by rw[g0,gq aL];exact(List.set_getElem_self _).symm,len⟩
theorem dt.rj (F:dt V ids v h ws bs) (x:ad) (hx:x.ac.length=h.ac.length):dt V ids v {x with ac:=h.ac} (ws.set v.toNat x) bs where
 ok:=⟨by rw[List.length_set];exact F.ok.len,F.ok.lt,fun i id y h1 h2=>by
  rw[List.getElem?_set] at h1
  split at h1
  ·rename_i e;subst e
   rw[if_pos F.lt] at h1;cases h1
   rw[F.id] at h2;cases h2
   rw[hx,F.ac]
  ·exact F.ok.ac i id y h1 h2⟩
 kQ:=F.kQ
 lt:=by rw[List.length_set];exact F.lt
 g0:=by
  apply List.ext_getElem?
  intro j
  have aM:=congrArg (·[j]?) F.g0
  simp only[view,List.getElem?_zipWith,List.getElem?_set] at aM ⊢
  by_cases e:v.toNat=j
  ·subst e
   have hv:=F.tI
   have:=F.lt
   rw[if_pos rfl,if_pos rfl,if_pos this,if_pos (by omega),F.id]
   show some _=some _
   rw[F.ac]
  ·rw[if_neg e] at aM ⊢
   rw[if_neg e];exact aM
 len:=F.len
theorem dt.setState (F:dt V ids v h ws bs) (x:Int):dt V ids v {h with ao:=x} (ws.set v.toNat ({ao:=x,ag:=(nth ws v).ag,ac:=(nth ws v).ac,aq:=(nth ws v).aq,ar:=(nth ws v).ar}:ad)) bs:=by
 have:=F.rj ({ao:=x,ag:=(nth ws v).ag,ac:=(nth ws v).ac,aq:=(nth ws v).aq,ar:=(nth ws v).ar}:ad) F.qu
 simpa only[F.ag,F.aq,F.ar] using this
theorem dt.Qn (F:dt V ids v h ws bs) (x:Int):dt V ids v {h with ag:=x} (ws.set v.toNat ({ao:=(nth ws v).ao,ag:=x,ac:=(nth ws v).ac,aq:=(nth ws v).aq,ar:=(nth ws v).ar}:ad)) bs:=by
 have:=F.rj ({ao:=(nth ws v).ao,ag:=x,ac:=(nth ws v).ac,aq:=(nth ws v).aq,ar:=(nth ws v).ar}:ad) F.qu
 simpa only[F.ao,F.aq,F.ar] using this
theorem dt.Qr (F:dt V ids v h ws bs) (x:Bool):dt V ids v {h with aq:=x} (ws.set v.toNat ({ao:=(nth ws v).ao,ag:=(nth ws v).ag,ac:=(nth ws v).ac,aq:=x,ar:=(nth ws v).ar}:ad)) bs:=by
 have:=F.rj ({ao:=(nth ws v).ao,ag:=(nth ws v).ag,ac:=(nth ws v).ac,aq:=x,ar:=(nth ws v).ar}:ad) F.qu
 simpa only[F.ao,F.ag,F.ar] using this
theorem dt.xI (F:dt V ids v h ws bs) (x:Int):dt V ids v {h with ar:=x} (ws.set v.toNat ({ao:=(nth ws v).ao,ag:=(nth ws v).ag,ac:=(nth ws v).ac,aq:=(nth ws v).aq,ar:=x}:ad)) bs:=by
 have:=F.rj ({ao:=(nth ws v).ao,ag:=(nth ws v).ag,ac:=(nth ws v).ac,aq:=(nth ws v).aq,ar:=x}:ad) F.qu
 simpa only[F.ao,F.ag,F.aq] using this
theorem dt.H9 (F:dt V ids v h ws bs) (b:List Bool) (hb:b.length=h.ac.length):dt V ids v {h with ac:=b} ws (bs.set (nth ids v) b) where
 ok:=⟨F.ok.len,fun i id hi=>by rw[List.length_set];exact F.ok.lt i id hi,fun i id y h1 h2=>by
  rw[F.ok.ac i id y h1 h2,List.getD_eq_getElem?_getD,List.getD_eq_getElem?_getD,List.getElem?_set]
  split
  ·rename_i e;subst e
   rw[if_pos F.qT,←List.getD_eq_getElem?_getD,F.ac];exact hb.symm
  ·rfl⟩
 kQ:=F.kQ
 lt:=F.lt
 g0:=by
  apply List.ext_getElem?
  intro j
  have aM:=congrArg (·[j]?) F.g0
  simp only[view,List.getElem?_zipWith,List.getElem?_set] at aM ⊢
  by_cases e:v.toNat=j
  ·subst e
   have hv:=F.tI
   have:=F.lt
   rw[if_pos rfl,if_pos (by omega),F.id,gV F.lt]
   simp only[List.getD_eq_getElem?_getD,List.getElem?_set,if_pos F.qT]
   rw[F.row];simp
  ·rw[if_neg e] at aM ⊢
   rw[←aM]
   cases h1:ws[j]? with
   | none=>rfl
   | some y=>
    cases h2:ids[j]? with
    | none=>rfl
    | some id=>
     have cm:nth ids v≠id:=fun gR=>by
      have aP:=F.id
      rw[gR] at aP
      exact e (F.kQ _ _ _ aP h2)
     simp only[List.getD_eq_getElem?_getD,List.getElem?_set,if_neg cm]
 len:=fun x hx=>by
  rcases List.mem_or_eq_of_mem_set hx with hx | rfl
  ·exact F.len x hx
  ·rw[hb,←F.ac,List.getD_eq_getElem?_getD,List.getElem?_eq_getElem F.qT];exact F.len _ (List.getElem_mem F.qT)
theorem dt.new (F:dt V ids v h ws bs) (x:ad) (hx:x.ac.length≤1048576):dt V (ids.set v.toNat bs.length) v x (ws.set v.toNat x) (bs++[x.ac]) where
 ok:=⟨by rw[List.length_set,List.length_set];exact F.ok.len,fun i id hi=>by
   rw[List.getElem?_set] at hi
   rw[List.length_append,List.length_singleton]
   split at hi
   ·split at hi
    ·cases hi;omega
    ·cases hi
   ·have:=F.ok.lt i id hi;omega,fun i id y h1 h2=>by
   rw[List.getElem?_set] at h1 h2
   split at h1
   ·rename_i e;subst e
    have:=F.ok.len
    have:=F.lt
    rw[if_pos F.lt] at h1;rw[if_pos rfl,if_pos (by omega)] at h2
    cases h1;cases h2;simp
   ·rename_i e
    rw[if_neg e] at h2
    rw[F.ok.ac i id y h1 h2,List.getD_eq_getElem?_getD,List.getD_eq_getElem?_getD,List.getElem?_append_left (F.ok.lt i id h2)]⟩
 kQ:=fun i j k hi aM=>by
  rw[List.getElem?_set] at hi aM
  have bf: ∀q,ids[q]?≠some bs.length:=fun q aj=>by have:=F.ok.lt q _ aj;omega
  split at hi
  ·rename_i e;subst e
   split at hi
   ·cases hi
    split at aM
    ·rename_i e;exact e
    ·exact absurd aM (bf j)
   ·cases hi
  ·split at aM
   ·rename_i e;subst e
    split at aM
    ·cases aM;exact absurd hi (bf i)
    ·cases aM
   ·exact F.kQ i j k hi aM
 lt:=by rw[List.length_set];exact F.lt
 g0:=by
  apply List.ext_getElem?
  intro j
  have aM:=congrArg (·[j]?) F.g0
  simp only[view,List.getElem?_zipWith,List.getElem?_set] at aM ⊢
  by_cases e:v.toNat=j
  ·subst e
   have hv:=F.tI
   have:=F.lt
   have:=F.ok.len
   rw[if_pos rfl,if_pos rfl,if_pos rfl,if_pos F.lt,if_pos (by omega),if_pos (by omega)]
   simp
  ·rw[if_neg e] at aM ⊢
   rw[if_neg e,if_neg e,←aM]
   cases h1:ws[j]? with
   | none=>rfl
   | some y=>
    cases h2:ids[j]? with
    | none=>rfl
    | some id=>
     simp only
     rw[List.getD_eq_getElem?_getD,List.getD_eq_getElem?_getD,List.getElem?_append_left (F.ok.lt j id h2)]
 len:=fun b hb=>by
  rcases List.mem_append.1 hb with hb | hb
  ·exact F.len b hb
  ·rw[List.mem_singleton.1 hb];exact hx
end
theorem wk (ws:List ad):ke ws (List.range ws.length) (ws.map ad.ac)∧(∀i j k:Nat,(List.range ws.length)[i]?=some k→(List.range ws.length)[j]?=some k→i=j)∧view ws (List.range ws.length) (ws.map ad.ac)=ws:=by
 refine⟨⟨by simp,fun i id h=> ?_,fun i id h h1 h2=> ?_⟩,fun i j k h1 h2=> ?_,?_⟩
 ·obtain⟨hi,rfl⟩:=List.getElem?_eq_some_iff.1 h
  simpa using hi
 ·obtain⟨hi,rfl⟩:=List.getElem?_eq_some_iff.1 h2
  simp[h1]
 ·obtain⟨hi,rfl⟩:=List.getElem?_eq_some_iff.1 h1
  obtain⟨aM,e⟩:=List.getElem?_eq_some_iff.1 h2
  simpa using e.symm
 ·apply List.ext_getElem?
  intro j
  unfold view
  rw[List.getElem?_zipWith]
  rcases Nat.lt_or_ge j ws.length with aM | aM
  ·rw[List.getElem?_range aM,List.getElem?_eq_getElem aM]
   simp[aM]
  ·rw[List.getElem?_eq_none aM]
theorem qc (p:az) (f:Frame): ∀n,(ij p n f).ok=f.ok∧(ij p n f).av=f.av∧(ij p n f).au=f.au
 | 0=>⟨rfl,rfl,rfl⟩
 | n+1=>qc p f n
theorem EY {s:List Int} {f:Frame} {ac:List Bool}: ∀(n g:Nat),g≤s.length→g≤fF s f ac n g∧fF s f ac n g≤s.length
 | 0,g,h=>⟨Nat.le_refl _,h⟩
 | n+1,g,h=>by
  unfold fF
  split
  ·rename_i hc
   have:=EY (f:=f) (ac:=ac) n (g+1) hc.1
   exact⟨by omega,this.2⟩
  ·exact⟨Nat.le_refl _,h⟩
theorem ab_ {s:List Int} {f:Frame} {h:ad} (hb:h.ac.length=s.length) (hg:0≤h.ag∧h.ag≤h.ac.length):(gW s f h).ac.length=s.length∧0≤(gW s f h).ag∧(gW s f h).ag≤(gW s f h).ac.length:=by
 unfold gW
 simp only
 have aL:(List.zipWith (fun b x=>b || dG f x) h.ac s).length=s.length:=by rw[List.length_zipWith];omega
 have bY:=(EY (s:=s) (f:=f) (ac:=List.zipWith (fun b x=>b || dG f x) h.ac s) s.length h.ag.toNat (by omega)).2
 split
 ·simp[hq]
 ·exact⟨aL,Int.natCast_nonneg _,by simp only;rw[aL];omega⟩
theorem af8 {p:az} {f:Frame} {i:Nat} (hb:(nth f.O i).ac.length=(nth p.O i).af.length) (hg:0≤(nth f.O i).ag∧(nth f.O i).ag≤(nth f.O i).ac.length):
  (mm p f i).ac.length=(nth p.O i).af.length∧0≤(mm p f i).ag∧(mm p f i).ag≤(mm p f i).ac.length:=by
 unfold mm
 simp only
 split
 ·exact⟨hb,hg⟩
 ·have h1: ∀(c:Prop) [Decidable c] (x y:ad),x.ac=y.ac→x.ag=y.ag→(if c then x else y).ac=y.ac∧(if c then x else y).ag=y.ag:=fun c _ x y bA e2=>by
   split
   ·exact⟨bA,e2⟩
   ·exact⟨rfl,rfl⟩
  generalize hZ:(if(nth f.O i).ao≠4∧dG f (nth (nth p.O i).af 0)=true then{nth f.O i with ao:=4,ar:=0} else nth f.O i)=A
  have m3:A.ac=(nth f.O i).ac∧A.ag=(nth f.O i).ag:=by rw[←hZ];exact h1 _ _ _ rfl rfl
  generalize dW:(if A.ao=1∨A.ao=2 then(if gg p f i=true then{A with ao:=2,aq:=true} else{A with ao:=1}) else A)=B
  have E2:B.ac=(nth f.O i).ac∧B.ag=(nth f.O i).ag:=by
   rw[←dW,←m3.1,←m3.2]
   exact h1 _ _ _ (by split<;>rfl) (by split<;>rfl)
  have bA:B.ac.length=(nth p.O i).af.length:=by rw[E2.1];exact hb
  have e2:0≤B.ag∧B.ag≤B.ac.length:=by rw[E2.1,E2.2];exact hg
  split
  ·exact ab_ bA e2
  ·exact⟨bA,e2⟩
theorem z0 {p:az} {f:Frame} (h:il p f): ∀n,il p (ij p n f)
 | 0=>h
 | n+1=>by
  have bS:=z0 h n
  show il p {ij p n f with O:=(ij p n f).O.set n (mm p (ij p n f) n)}
  have key:n<(ij p n f).O.length→(mm p (ij p n f) n).ac.length=(nth p.O n).af.length∧0≤(mm p (ij p n f) n).ag∧(mm p (ij p n f) n).ag≤(mm p (ij p n f) n).ac.length:=fun aF=>by
   have hw:=bS.O
   have h1:(ij p n f).O[n]?=some (nth (ij p n f).O n):=by rw[iJ aF];exact List.getElem?_eq_getElem aF
   have h2:p.O[n]?=some (nth p.O n):=by rw[iJ (by omega)];exact List.getElem?_eq_getElem (by omega)
   exact af8 (bS.ac n _ _ h1 h2) (bS.ag _ (List.mem_of_getElem? h1))
  refine⟨bS.av,bS.au,by rw[List.length_set];exact bS.O,fun i x w h1 h2=> ?_,fun x hx=> ?_⟩
  ·replace h1:((ij p n f).O.set n (mm p (ij p n f) n))[i]?=some x:=h1
   rw[List.getElem?_set] at h1
   split at h1
   ·rename_i e;subst e
    split at h1
    ·rename_i aF
     cases h1
     have hw:=bS.O
     rw[(key aF).1,iJ (by omega)]
     rw[List.getElem?_eq_getElem (by omega)] at h2
     cases h2;rfl
    ·cases h1
   ·exact bS.ac i x w h1 h2
  ·rcases List.mem_or_eq_of_mem_set hx with hx | rfl
   ·exact bS.ag x hx
   ·by_cases aF:n<(ij p n f).O.length
    ·exact(key aF).2
    ·rw[List.set_eq_of_length_le (by omega)] at hx
     exact bS.ag _ hx
theorem pd (p:az) (f:Frame): ∀n,(ij p n f).O.length=f.O.length
 | 0=>rfl
 | n+1=>by show((ij p n f).O.set n _).length=_;rw[List.length_set];exact pd p f n
theorem HC {p:az} {f g:Frame} {i:Int} (h1:f.av=g.av) (h2:f.au=g.au):gg p f i=gg p g i:=by
 unfold gg gh dG
 rw[h1,h2]
def ka (s:List Int) (f:Frame) (b:List Bool) (v:Nat):List Bool:=List.zipWith (fun b x=>b || dG f x) (b.take v) (s.take v)++b.drop v
theorem Jy {s:List Int} {f:Frame} {b:List Bool} {v:Nat} (aL:b.length=s.length) (hv:v≤s.length):(ka s f b v).length=b.length:=by
 unfold ka
 rw[List.length_append,List.length_zipWith,List.length_take,List.length_take,List.length_drop];omega
theorem S8 (s:List Int) (f:Frame) (b:List Bool):ka s f b 0=b:=by simp[ka]
theorem S_ {s:List Int} {f:Frame} {b:List Bool} {v:Nat} (aL:b.length=s.length) (hv:s.length≤v):ka s f b v=List.zipWith (fun b x=>b || dG f x) b s:=by
 unfold ka
 rw[List.take_of_length_le (by omega),List.take_of_length_le hv,List.drop_of_length_le (by omega),List.append_nil]
theorem S9 {s:List Int} {f:Frame} {b:List Bool} {v:Nat} (aL:b.length=s.length) (hv:v<s.length):nth (ka s f b v) v=b[v]:=by
 rw[iJ (by rw[Jy aL (by omega)];omega)]
 unfold ka
 rw[List.getElem_append_right (by rw[List.length_zipWith,List.length_take,List.length_take];omega)]
 simp only[List.length_zipWith,List.length_take,List.getElem_drop]
 congr 1;omega
theorem Ta {s:List Int} {f:Frame} {b:List Bool} {v:Nat} (aL:b.length=s.length) (hv:v<s.length):(ka s f b v).set v (b[v] || dG f s[v])=ka s f b (v+1):=by
 unfold ka
 have hlen:(List.zipWith (fun b x=>b || dG f x) (b.take v) (s.take v)).length=v:=by rw[List.length_zipWith,List.length_take,List.length_take];omega
 rw[List.set_append_right _ _ (by omega),hlen,Nat.sub_self,List.take_succ_eq_append_getElem (by omega),List.take_succ_eq_append_getElem hv,List.zipWith_append (by rw[List.length_take,List.length_take];omega),List.append_assoc]
 congr 1
 rw[List.drop_eq_getElem_cons (by omega:v<b.length)]
 rfl
def nA (s:List Int) (f:Frame) (ac:List Bool) (g:Int):Bool:=
 decide (g<(s.length:Int))&&(nth ac g&&((!(nth f.av (nth s g)))&&((g==IntKind.i64.wrap ((s.length:Int) - 1)) || nth ac (IntKind.i64.wrap (g+1)))))
theorem Lq {s:List Int} {f:Frame} {ac:List Bool} {g:Nat} (hs:s.length≤1048576) (hg:g≤s.length):
  nA s f ac g=true↔g<s.length∧ac.getD g false=true∧dG f (s.getD g 0)=false∧(g+1=s.length∨ac.getD (g+1) false=true):=by
 unfold nA
 rw[fu (by omega) (by omega),fu (by omega) (by omega)]
 have bA:nth ac (g:Int)=ac.getD g false:=rfl
 have e2:nth ac ((g:Int)+1)=ac.getD (g+1) false:=rfl
 have dV:nth s (g:Int)=s.getD g 0:=rfl
 rw[bA,e2,dV]
 simp only[Bool.and_eq_true,Bool.or_eq_true,decide_eq_true_eq,Bool.not_eq_true',beq_iff_eq]
 constructor
 ·rintro⟨h1,h2,aP,a8⟩;exact⟨by omega,h2,aP,a8.imp (fun h=>by omega) _root_.id⟩
 ·rintro⟨h1,h2,aP,a8⟩;exact⟨by omega,h2,aP,a8.imp (fun h=>by omega) _root_.id⟩
def ww (s:List Int) (f:Frame) (ac:List Bool) (bw g:Int):Prop:=0≤g∧g≤s.length∧fF s f ac s.length bw.toNat=fF s f ac (s.length - g.toNat) g.toNat
theorem Bo {s:List Int} {f:Frame} {ac:List Bool} {n g:Nat} (h: ¬(g<s.length∧ac.getD g false=true∧dG f (s.getD g 0)=false∧(g+1=s.length∨ac.getD (g+1) false=true))):fF s f ac n g=g:=by
 cases n with
 | zero=>rfl
 | succ n=>unfold fF;rw[if_neg h]
theorem Lu {s:List Int} {f:Frame} {ac:List Bool}: ∀(n m g:Nat),s.length≤n+g→s.length≤m+g→fF s f ac n g=fF s f ac m g
 | 0,m,g,h1,h2=>by
  rw[Bo (n:=m) fun h=>by omega];rfl
 | n+1,0,g,h1,h2=>by rw[Bo (n:=n+1) fun h=>by omega];rfl
 | n+1,m+1,g,h1,h2=>by
  unfold fF
  split
  ·exact Lu n m (g+1) (by omega) (by omega)
  ·rfl
theorem Lr {s:List Int} {f:Frame} {ac:List Bool} {g:Int} (aU:0≤g) (h1:g≤s.length):ww s f ac g g:=⟨aU,h1,Lu _ _ _ (by omega) (by omega)⟩
theorem Ls {s:List Int} {f:Frame} {ac:List Bool} {bw g:Int} (hs:s.length≤1048576) (h:ww s f ac bw g) (hc:nA s f ac g=true):ww s f ac bw (IntKind.i64.wrap (g+1))∧g<s.length:=by
 obtain⟨aU,h1,h2⟩:=h
 obtain⟨k,rfl⟩:=Int.eq_ofNat_of_zero_le aU
 have hc:=(Lq hs (by omega)).1 hc
 rw[fu (by omega) (by omega)]
 refine⟨⟨by omega,by omega,?_⟩,by omega⟩
 rw[h2]
 simp only[Int.toNat_natCast]
 rw[show((k:Int)+1).toNat=k+1 by omega,show s.length - k=(s.length - (k+1))+1 by omega]
 conv=>lhs;unfold fF
 rw[if_pos hc]
theorem EX {s:List Int} {f:Frame} {ac:List Bool} {bw g:Int} (hs:s.length≤1048576) (h:ww s f ac bw g) (hc:nA s f ac g=false):(fF s f ac s.length bw.toNat:Int)=g:=by
 obtain⟨aU,h1,h2⟩:=h
 obtain⟨k,rfl⟩:=Int.eq_ofNat_of_zero_le aU
 rw[h2]
 simp only[Int.toNat_natCast]
 rw[Bo fun bY=>by rw[(Lq hs (by omega)).2 bY] at hc;cases hc]
def Ia (p:az) (f:Frame) (bs:List (List Bool)) (ids:List Nat) (v:Int) (ws:List ad):Prop:=
 cl f.O.length (fun _=>false) v∧ke ws ids bs∧(∀i j k:Nat,ids[i]?=some k→ids[j]?=some k→i=j)∧view ws ids bs=(ij p v.toNat f).O∧ ∀b∈bs,b.length≤1048576
def dR (p:az) (f:Frame) (v:Int):Frame:=ij p v.toNat f
def c0 (p:az) (v:Int):List Int:=(nth p.O v).af
def h9 (p:az) (f:Frame) (v:Int):ad:=
 let G:=dR p f v
 let h:=nth G.O v
 if h.ao≠4∧dG G (nth (c0 p v) 0)=true then{h with ao:=4,ar:=0} else h
def gF (p:az) (f:Frame) (v:Int):ad:=
 let h:=h9 p f v
 if h.ao=1∨h.ao=2 then(if gg p (dR p f v) v=true then{h with ao:=2,aq:=true} else{h with ao:=1}) else h
def qs (p:az) (f:Frame) (v:Int):List Bool:=List.zipWith (fun b x=>b || dG (dR p f v) x) (gF p f v).ac (c0 p v)
theorem SN {p:az} {f:Frame} {v:Int} (aU:0≤v):mm p (dR p f v) v.toNat=if(nth (dR p f v).O v).ao=0 then nth (dR p f v).O v else if(gF p f v).ao=4 then gW (c0 p v) (dR p f v) (gF p f v) else gF p f v:=by
 unfold mm gF h9 c0
 rw[ig aU,ig aU,Int.toNat_of_nonneg aU]
theorem tl {p:az} {f:Frame} {v:Int}:(h9 p f v).ac=(nth (dR p f v).O v).ac∧(h9 p f v).ag=(nth (dR p f v).O v).ag:=by
 unfold h9;simp only;split<;>exact⟨rfl,rfl⟩
theorem CA {p:az} {f:Frame} {v:Int}:(gF p f v).ac=(nth (dR p f v).O v).ac∧(gF p f v).ag=(nth (dR p f v).O v).ag:=by
 rw[←tl.1,←tl.2]
 unfold gF;simp only;split
 ·split<;>exact⟨rfl,rfl⟩
 ·exact⟨rfl,rfl⟩
theorem vm {p:az} {f:Frame} {v:Int} {h:ad} {ws:List ad} {ids:List Nat} {bs:List (List Bool)} (aF:(f.O.length:Int)≤4611686018427387904) (aX:cl f.O.length (fun _=>false) v) (hv:decide (v<(f.O.length:Int))=true)
  (F:dt (dR p f v).O ids v h ws bs) (bY:h=mm p (dR p f v) v.toNat):Ia p f bs ids (IntKind.i64.wrap (v+1)) ws∧cy f.O.length (IntKind.i64.wrap (v+1))<cy f.O.length v:=by
 have bi:=cG aF aX hv rfl
 refine⟨⟨bi.1,F.ok,F.kQ,?_,F.len⟩,bi.2⟩
 have aU:=aX.1
 have hv:v<(f.O.length:Int):=by simpa using hv
 rw[iE aF aU hv,show(v+1).toNat=v.toNat+1 by omega,F.g0,bY]
 rfl
def B2 (j:Int) (k:Bool) (o:List Bool) (q:List a_) (w:List ad) (i:List Nat) (b:List (List Bool)):Prop:=gy w i b∧0≤j∧j<w.length
def uN (j:Int) (k:Bool) (o:List Bool) (q:List a_) (w:List ad) (i:List Nat) (b:List (List Bool)) (lH:List Bool) (tm:List a_) (w':List ad) (jb:List Nat) (ct:List (List Bool)):Prop:=
 gy w' jb ct∧view w' jb ct=(view w i b).set j.toNat (hq (nth (view w i b) j).ac.length)
def c5 (k:Bool) (o:List Bool) (q:List a_) (w:List ad) (i:List Nat) (b:List (List Bool)):Frame:=⟨k,o,q,view w i b⟩
def Pe (s:Way) (j:Int) (k:Bool) (o:List Bool) (q:List a_) (w:List ad) (i:List Nat) (b:List (List Bool)):Prop:=
 gy w i b∧0≤j∧j<w.length∧s.af.length≤1048576∧(∀x∈s.af,0≤x∧x<o.length)∧(nth (view w i b) j).ac.length=s.af.length∧0≤(nth (view w i b) j).ag∧(nth (view w i b) j).ag≤s.af.length
def zz (s:Way) (j:Int) (k:Bool) (o:List Bool) (q:List a_) (w:List ad) (i:List Nat) (b:List (List Bool)) (lH:List Bool) (tm:List a_) (w':List ad) (jb:List Nat) (ct:List (List Bool)):Prop:=
 gy w' jb ct∧view w' jb ct=(view w i b).set j.toNat (gW s.af (c5 k o q w i b) (nth (view w i b) j))
def Ib (p:az) (k:Bool) (o:List Bool) (q:List a_) (w:List ad) (i:List Nat) (b:List (List Bool)):Prop:=gy w i b∧tD p (c5 k o q w i b)
def zY (p:az) (k:Bool) (o:List Bool) (q:List a_) (w:List ad) (i:List Nat) (b:List (List Bool)) (lH:List Bool) (tm:List a_) (w':List ad) (jb:List Nat) (ct:List (List Bool)):Prop:=
 gy w' jb ct∧view w' jb ct=(ee p (c5 k o q w i b)).O
def Ql (f g:Frame):Prop:=f.O.length=g.O.length∧jz f∧jz g∧ ∀(i:Nat) (x y:ad),f.O[i]?=some x→g.O[i]?=some y→x.ac.length=y.ac.length
def oH (f g:Frame):Bool:=decide (f.O=g.O)
def LO (p:az) (f:Frame) (i:Int):Prop:=sC p∧jz f∧f.O.length=p.O.length∧0≤i∧i<p.O.length
def ho (p:az) (f:Frame) (i:Int):Bool:=
 let h:=nth f.O i
 let n:=(nth p.O i).af.length
 b4 h.ao 0 4&&decide (h.ac.length=n)&&b4 h.ag 0 ((n:Int) - 1)&&(decide (h.ao=4) || (decide (h.ag=0)&&h.ac.all (fun b=> !b)))&&(h.ac.take h.ag.toNat).all (fun b=>b)&&
 (if h.ao=3 then h.aq&&b4 h.ar 1 p.dx else decide (h.ar=0)&&(decide (h.ao≠0) || !h.aq)&&(decide (h.ao≠2) || h.aq))
def DD (p:az) (f:Frame):Bool:=(List.range f.O.length).all fun i=>(List.range f.O.length).all fun k=>decide (i=k) || !rG p i k || decide ((nth f.O i).ao=0) || decide ((nth f.O k).ao=0)
def ev (p:az) (f:Frame):Bool:=
 ea p&&f.ok&&decide ((f.av.length:Int)=p.af)&&decide (f.au.length=p.be.length)&&decide (f.O.length=p.O.length)&&
 f.au.all (fun x=>b4 x.cH 1 2&&b4 x.a2 0 2)&&(List.range f.O.length).all (fun i=>ho p f i)&&DD p f&&oH f (ee p f)
def yA (p:az) (f:Frame):Prop:=jz f
theorem wA {xs:List Bool} {b:Bool}:jZ xs b=true↔b∈xs:=by unfold jZ;simp
theorem Zn (xs:List Bool) (x:Bool):(decide (r6 xs x ≥ 0))=jZ xs x:=by
 unfold r6
 cases h:first xs (fun y=>x==y) with
 | none=>
  unfold first at h
  rw[List.findIdx?_eq_none_iff] at h
  have:jZ xs x=false:=by
   rw[←Bool.not_eq_true,wA]
   intro hm
   have:=h x hm
   simp at this
  rw[this];rfl
 | some i=>
  unfold first at h
  rw[List.findIdx?_eq_some_iff_getElem] at h
  obtain⟨hi,hx,_⟩:=h
  have:jZ xs x=true:=by
   rw[wA]
   have hx:x=xs[i]:=by simpa using hx
   rw[hx];exact List.getElem_mem hi
  rw[this]
  show decide ((i:Int) ≥ 0)=true
  simp
def vj (a b:Frame):Bool:=eqv a.av b.av&&eqv a.au b.au&&eqv a.O b.O
def wg (a b:List ad) (_:Unit):Bool:=eqv a b
def qY (f:Frame) (l:cA):Bool:=((nth f.au l.sw).cH !=l.bp) || ((nth f.au l.sw).a2 !=l.bp)
def Pu (p:az) (f:Frame) (i:Int):Prop:= ∀l∈bz (nth p.O i),qY f l=false
theorem HB (p:az) (f:Frame) (i:Int):gg p f i=((bz (nth p.O i)).all (fun l=> !qY f l)&& !gh f (nth p.O i).af&& !gh f (nth p.O i).cQ):=by
 have aj: ∀l:cA,decide (nth f.au l.sw=⟨l.bp,l.bp⟩)= !qY f l:=fun l=>by
  unfold qY
  rcases nth f.au l.sw with⟨x,y⟩
  rw[Bool.eq_iff_iff];simp
 unfold gg
 simp only[aj]
theorem Jw {α:Type} {x y:α} {v:Int} (aU:0≤v) (h1:v.toNat<[x,y].length):v=0∨v=1:=by simp at h1;omega
theorem gy.oR {w:List ad} {i:List Nat} {b:List (List Bool)} {j:Int} (F:gy w i b) (h:j.toNat<w.length):dt (view w i b) i j (nth (view w i b) j) w b:=dt.start F.ok F.kQ h rfl F.len
section
variable {V:List ad} {ids dh:List Nat} {v:Int} {h x:ad} {ws kA:List ad} {bs mu:List (List Bool)}
theorem dt.G (F:dt V ids v h ws bs):gy ws ids bs:=⟨F.ok,F.kQ,F.len⟩
theorem dt.xg (F:dt V ids v h ws bs):nth (view ws ids bs) v=h:=by
 rw[gq (by rw[jl F.ok];exact F.lt)]
 simp only[F.g0,List.getElem_set_self]
theorem dt.again (F:dt V ids v h ws bs) (G:gy kA dh mu) (e:view kA dh mu=(view ws ids bs).set v.toNat x):dt V dh v x kA mu where
 ok:=G.ok
 kQ:=G.kQ
 lt:=by
  have:=congrArg List.length e
  rw[jl G.ok,List.length_set,jl F.ok] at this
  have:=F.lt;omega
 g0:=by rw[e,F.g0,List.set_set]
 len:=G.len
end
theorem Pc {s:List Int} {f g:Frame} {h:ad} (e:f.av=g.av):gW s f h=gW s g h:=by
 have aC:dG f=dG g:=by funext x;unfold dG;rw[e]
 have hg: ∀(ac:List Bool) (n q:Nat),fF s f ac n q=fF s g ac n q:=fun ac n=>by
  induction n with
  | zero=>intro q;rfl
  | succ n bS=>intro q;unfold fF;rw[aC,bS]
 unfold gW
 simp only[aC,hg]
def nK (s:List Int) (f:Frame) (h:ad):List Bool:=List.zipWith (fun b x=>b || dG f x) h.ac s
theorem Pb (s:List Int) (f:Frame) (h:ad):gW s f h=if fF s f (nK s f h) s.length h.ag.toNat=s.length then hq s.length else{h with ac:=nK s f h,ag:=fF s f (nK s f h) s.length h.ag.toNat}:=rfl
def acb (s:List Int) (f:Frame) (V:List ad) (ids:List Nat) (j:Int) (ws:List ad) (bs:List (List Bool)) (k:Int):Prop:=
 cl s.length (fun _=>false) k∧dt V ids j {nth V j with ac:=ka s f (nth V j).ac k.toNat} ws bs
def acd (s:List Int) (f:Frame) (V:List ad) (ids:List Nat) (j:Int) (bs:List (List Bool)) (ws:List ad):Prop:=
 ∃g,ww s f (nK s f (nth V j)) (nth V j).ag g∧dt V ids j {nth V j with ac:=nK s f (nth V j),ag:=g} ws bs
theorem age {s:List Int} {f:Frame} {ac:List Bool} {g:Int} (hs:s.length≤1048576) (h:decide (g<(s.length:Int))=true):
  ((!(nth ac g)) || ((nth f.av (nth s g)) || ((decide (g<(IntKind.i64.wrap ((s.length:Int) - 1))))&&(!(nth ac (IntKind.i64.wrap (g+1)))))))= !nA s f ac g:=by
 unfold nA
 rw[h,Bool.true_and,fu (n:=(s.length:Int) - 1) (by omega) (by omega)]
 have:(g==(s.length:Int) - 1)= !decide (g<(s.length:Int) - 1):=by
  have h:g<(s.length:Int):=by simpa using h
  rw[Bool.eq_iff_iff];simp;omega
 rw[this]
 cases nth ac g<;>cases nth f.av (nth s g)<;>cases decide (g<(s.length:Int) - 1)<;>cases nth ac (IntKind.i64.wrap (g+1))<;>rfl
def pw:List (Nat×TV)→Bool
 | []=>true
 | (k,_)::r=>match Nat.ble 1000010 k&&Nat.blt k 1000000000000 with
  | true=>pw r
  | false=>false
theorem AH {l:List (Nat×TV)} (h:pw l=true) {k:Nat} (hk:k<1000010∨1000000000000≤k): ∀v,(k,v) ∉ l:=by
 induction l with
 | nil=>intro v hv;cases hv
 | cons p r bS=>
  obtain⟨a,w⟩:=p
  unfold pw at h
  split at h
  ·rename_i a4
   rw[Bool.and_eq_true,Nat.blt_eq] at a4
   intro v hv
   rcases List.mem_cons.1 hv with e | hv
   ·cases e;have:=Nat.le_of_ble_eq_true a4.1;have:=a4.2;omega
   ·exact bS h v hv
  ·cases h
def TS.add (s:TS) (l:List (Nat×TV)) (vs:List (Nat×Nat)) (br:Nat):TS:=⟨l++s.T,s.B,vs,br⟩
theorem TS.iX (s:TS) (l:List (Nat×TV)) (vs:List (Nat×Nat)) (br k:Nat):(s.add l vs br).get k=fW l k (s.get k):=by
 unfold TS.get TS.add;exact sc ..
theorem yc {n:Nat} {s:TS} {l:List (Nat×TV)} {vs:List (Nat×Nat)} {br:Nat} (aF:n≤1000000) (h:pw l=true):(s.add l vs br).tT n=s.tT n:=by
 show(List.range n).map _=(List.range n).map _
 refine List.map_congr_left fun t bu=> ?_
 have bu:t<n:=List.mem_range.1 bu
 rw[TS.iX,tb (AH h (.inl (by omega)))]
theorem Ck {s s':TS} (e:s'.get dL=s.get dL):iv s'=iv s:=by unfold iv;rw[e]
theorem Jg [FZ] {n:Nat} {s s':TS} (hb:s'.br=s.br) (e: ∀b,s'.get (bC b)=s.get (bC b)) (d_:s'.get dL=s.get dL):(s'.aJ n).H=(s.aJ n).H:=by
 show s'.gu++g5 s'=s.gu++g5 s
 unfold TS.gu g5
 rw[Ck d_,hb]
 simp only[e]
theorem yb [FZ] {n:Nat} {s:TS} {l:List (Nat×TV)} {vs:List (Nat×Nat)} (h:pw l=true):((s.add l vs s.br).aJ n).H=(s.aJ n).H:=
 Jg rfl (fun b=>by rw[TS.iX,tb (AH h (.inr (by unfold bC;omega)))]) (by rw[TS.iX,tb (AH h (.inl (by unfold dL;omega)))])
theorem yd [FZ] {s:TS} {l:List (Nat×TV)} {vs:List (Nat×Nat)} {br:Nat} (h:pw l=true) (f:Fits s):Fits (s.add l vs br):=
 f.congr fun k _ h2=>by rw[TS.iX,tb (AH h (.inl h2))]
def ua (v:Nat):Nat→List TV→List (Nat×TV)
 | _,[]=>[]
 | c,a::r=>(eG v c,a)::ua v (c+1) r
def TS.gO (s:TS) (b br:Nat) (v:TV):TS:=s.add [(bC b,v)] s.vs br
theorem DI (s:TS) {b br:Nat} {v:TV} {k:Nat} (h:k<1000000000000):(s.gO b br v).get k=s.get k:=by
 unfold TS.gO
 rw[TS.iX,gJ,if_neg (by unfold bC;omega)];rfl
theorem qv {n:Nat} {s:TS} {b br:Nat} {v:TV} (aF:n≤1000000):(s.gO b br v).tT n=s.tT n:=by
 show(List.range n).map _=(List.range n).map _
 refine List.map_congr_left fun t bu=> ?_
 have bu:t<n:=List.mem_range.1 bu
 rw[DI s (by omega)]
theorem qw [FZ] {s:TS} {b br:Nat} {v:TV} (f:Fits s):Fits (s.gO b br v):=f.congr fun k _ h2=>DI s (by omega)
theorem Kc {s:TS} {b br:Nat} {v:TV}:iv (s.gO b br v)=iv s:=Ck (DI s (by unfold dL;omega))
theorem Kb (s:TS) (b br:Nat) (v:TV) (ct:Nat):(s.gO b br v).get (bC ct)=if b=ct then v else s.get (bC ct):=by
 unfold TS.gO
 rw[TS.iX,gJ]
 by_cases h:b=ct
 ·subst h;rw[if_pos rfl,if_pos rfl]
 ·rw[if_neg h,if_neg (by unfold bC;omega)];rfl
theorem tY [FZ] {n:Nat} {s:TS} {b:Nat} {v:TV} (h:b<s.br):((s.gO b s.br v).aJ n).H=(s.aJ n).H.set b v.eo:=by
 show(s.gO b s.br v).gu++g5 (s.gO b s.br v)=(s.gu++g5 s).set b v.eo
 rw[List.set_append_left _ _ (by rw[nn];exact h)]
 have e2:g5 (s.gO b s.br v)=g5 s:=by unfold g5;rw[Kc]
 rw[e2]
 congr 1
 apply List.ext_getElem?
 intro i
 rw[qe,List.getElem?_set,qe,nn,Kb]
 show(if i<s.br then _ else _)=_
 by_cases hi:b=i
 ·subst hi;simp[h]
 ·simp[hi]
theorem AK [FZ] {n:Nat} {s:TS} {v:TV} (dc:iv s=true):((s.gO s.br (s.br+1) v).aJ n).H=(s.aJ n).H++[v.eo]:=by
 show(s.gO s.br (s.br+1) v).gu++g5 (s.gO s.br (s.br+1) v)=(s.gu++g5 s)++[v.eo]
 unfold g5
 rw[Kc,dc]
 show(s.gO s.br (s.br+1) v).gu++[]=(s.gu++[])++[v.eo]
 rw[List.append_nil,List.append_nil]
 apply List.ext_getElem?
 intro i
 rw[qe,Kb]
 show(if i<s.br+1 then _ else _)=_
 rcases Nat.lt_trichotomy i s.br with h | h | h
 ·rw[if_pos (by omega),if_neg (by omega),List.getElem?_append_left (by rw[nn];exact h),qe,if_pos h]
 ·subst h
  rw[if_pos (by omega),if_pos rfl,List.getElem?_append_right (by rw[nn];exact Nat.le_refl _),nn];simp
 ·rw[if_neg (by omega),List.getElem?_eq_none (by rw[List.length_append,nn];simp;omega)]
def vt (P:Program) (t:TypeId) (v:AV):Bool:=(P.info? t).isSome&&Nat.beq (fi v).length (P.cellsOf t)&&(fi v).all ji
theorem C4 {P:Program} {t:TypeId} {v:AV} (h:vt P t v=true):(P.info? t).isSome=true∧(fi v).length=P.cellsOf t∧(fi v).all ji=true:=by
 simp only[vt,Bool.and_eq_true] at h
 exact⟨h.1.1,Nat.eq_of_beq_eq_true h.1.2,h.2⟩
def Jh (P:Program) (n:Nat) (t:TypeId) (b g:Nat) (i:Int) (m c:Nat) (v:TV) (s:TS) (K:TS→aW):aW:=match xf v with
 | false=> .no
 | true=>rH s b g fun e xs fB h=>yp s e.kN ((gI true e (tg e xs i)).take c++qy v++(gI true e (tg e xs i)).drop (c+(qy v).length)) fun x2 _=>
  let y:=e.mk x2
  let s':=s.gO b s.br (.blk g e (xs.set i.toNat y) fB (by rw[List.length_set];exact h))
  .eq fB m (.eq (vt P t v.bE) true (.eq (Nat.ble (c+(fi v.bE).length) e.mb) true (.eq (fl (cb true e (tg e xs i)) c (fi v.bE)) (cb true e y) (.eq s'.cw s.cw (.p (i.toNat<m) (K s'))))))
def Cf (P:Program) (t:TypeId):Option (List AV×Nat):=match jp P t with
 | some e=>(match nq P e with
  | some z=>(match Nat.beq z.length (P.cellsOf e)&&z.all ji with
   | true=>some (z.map mT,P.bytesOf e)
   | false=>none)
  | none=>none)
 | none=>none
theorem OH {P:Program} {t:TypeId} {Tk:List AV} {B:Nat} (h:Cf P t=some (Tk,B)): ∃e z,jp P t=some e∧nq P e=some z∧z.length=P.cellsOf e∧z.all ji=true∧Tk=z.map mT∧B=P.bytesOf e:=by
 unfold Cf at h
 split at h
 ·rename_i e he
  split at h
  ·rename_i z aO
   split at h
   ·rename_i hc
    simp only[Bool.and_eq_true] at hc
    cases h
    exact⟨e,z,he,aO,Nat.eq_of_beq_eq_true hc.1,hc.2,rfl,rfl⟩
   ·cases h
  ·cases h
 ·cases h
def qA (P:Program) (t:TypeId):Nat:=match jp P t with
 | some e=>P.bytesOf e
 | none=>0
def W6 (e:bI) (c:List TV):e.T:=match e.isS with
 | true=>e.mk (oV e.kN c)
 | false=>ET e (c.getD 0 .u)
def He (P:Program) (n:Nat) (t:TypeId) (e:bI) (l c:TV) (s:TS) (K:TV→TS→aW):aW:=match l with
 | .i _ l=>(match c with
  | .i _ c=>
   let a3:=W6 e (match jp P t with
    | some nT=>Ao P nT
    | none=>[])
   let xs:=List.replicate l.toNat a3
   let s':=s.gO s.br (s.br+1) (.blk 0 e xs xs.length rfl)
   .eq (Cf P t) (some (cb true e a3,qA P t)) (.eq l c (.eq s'.cw s.cw (.eq (iv s) true (.p (0≤l∧(qA P t:Int)*l≤140737488355328∧l≤4611686018427387904) (K (.ref s.br 0 xs.length false) s')))))
  | _=> .no)
 | _=> .no
def AA (P:Program) (t t2:TypeId) (x:AV):Option (Nat×Nat):=match jp P t with
 | some e=>(match nq P e with
  | some z=>(match Nat.beq z.length (P.cellsOf e)&&Nat.blt 0 z.length&&tX P e t2 x with
   | true=>some (z.length,P.bytesOf e)
   | false=>none)
  | none=>none)
 | none=>none
theorem JY {P:Program} {t t2:TypeId} {x:AV} {m B:Nat} (h:AA P t t2 x=some (m,B)): ∃e z,jp P t=some e∧nq P e=some z∧(z.length=P.cellsOf e∧0<z.length∧tX P e t2 x=true)∧m=z.length∧B=P.bytesOf e:=by
 unfold AA at h
 split at h
 ·rename_i e he
  split at h
  ·rename_i z aO
   split at h
   ·rename_i hc
    simp only[Bool.and_eq_true] at hc
    cases h
    exact⟨e,z,he,aO,⟨Nat.eq_of_beq_eq_true hc.1.1,by rw[←Nat.blt_eq];exact hc.1.2,hc.2⟩,rfl,rfl⟩
   ·cases h
  ·cases h
 ·cases h
def bI.flat:bI→Bool
 | .int | .u64 | .u8 | .bool | .str | .bp | .fR | .gK | .fault=>true
 | _=>false
theorem VK {e:bI} (h:e.flat=true) (x:e.T):cb false e x=cb true e x:=by cases e<;>first | rfl | cases h
theorem acR (e:bI) (x:e.T):(cb false e x).map pc=cb true e x:=by
 rw[←qB,←qB]
 have key: ∀(es:List bI) (y:c7 es),(l4 false es y).map pc=l4 true es y:=by
  intro es
  induction es with
  | nil=>intro y;rfl
  | cons e r bS=>
   intro y
   show pc (oU false e y.1)::(l4 false r y.2).map pc=_
   rw[bS,l4]
   congr 1
   cases e<;>rfl
 exact key _ _
theorem PY {e:bI} {fr:Bool} (h:(fr || e.flat)=true) (xs:List e.T):lL fr (xs.map (cb false e))=xs.map (cb true e):=by
 cases fr with
 | true=>
  show(xs.map (cb false e)).map (fun row=>row.map pc)=_
  rw[List.map_map]
  exact List.map_congr_left fun x _=>acR e x
 | false=>exact List.map_congr_left fun x _=>VK h x
def DB (P:Program) (n:Nat) (t t2:TypeId) (v x:TV) (s:TS) (K:TV→TS→aW):aW:=match x with
 | .l e ys jF fr=>(match(fr || e.flat)&&e.o8 with
  | false=> .no
  | true=>(match v with
   | .nil full _=>(match full with
    | true=>
     let s':=s.gO s.br (s.br+1) (.blk 0 e ys ys.length rfl)
     .eq (AA P t t2 (TV.l e ys jF fr).bE) (some (e.mb,qA P t)) (.eq s'.cw s.cw (.eq (iv s) true (.p (ys.length*qA P t≤140737488355328∧ys.length≤4611686018427387904) (K (.ref s.br 0 ys.length false) s'))))
    | false=> .no)
   | .ref b g m _=>rH s b g fun d_ xs fB h=>if he:e=d_ then
     let iF:=xs++l1 he ys
     let s':=s.gO b s.br (.blk (g+1) d_ iF iF.length rfl)
     .eq fB m (.eq (AA P t t2 (TV.l e ys jF fr).bE) (some (e.mb,qA P t)) (.eq s'.cw s.cw (.p ((xs.length+ys.length)*qA P t≤140737488355328∧xs.length+ys.length≤4611686018427387904) (K (.ref b (g+1) iF.length false) s'))))
    else .no
   | _=> .no))
 | _=> .no
section
variable {P:Program} (cf:hl P) (s:TS)
def yE (o:Oper) (v:TV) (l:List (Nat×TV)) (vs:List (Nat×Nat)) (K:TV→TS→aW):aW:=match pw l with
 | true=> .eq (fun H Q=>kg P [] o (fun x=>(cP cf.n s x).bE) s.cw H Q) (fun H Q=>Q v.bE (s.add l vs s.br).cw H) (K v (s.add l vs s.br))
 | false=> .no
end
section
variable {P:Program} {cf:hl P} {s:TS} {R:Exit→TS→Prop}
variable {K:TV→TS→aW} {Kp:AV→List (Nat×List AV)→List Blk→Prop}
theorem Co {b:Bool} {x:Prop} (h:b=true) (k:x):e7 b x:=by subst h;exact k
end
section
variable {P:Program} {cf:hl P} {s:TS} {R:Exit→TS→Prop}
variable {K:TV→TS→aW} {Kp:AV→List (Nat×List AV)→List Blk→Prop}
theorem Uc {t:TypeId} {m:Nat} {parts:List (Nat×AV)} {L:List (Nat×List AV)} {H:List Blk} {d:Option Nat} (h:vZ P t m parts fun r=>Kp r L H):t_ P (ue [] d) (vk []) t m parts L H Kp:=by
 obtain⟨e,he,h⟩:=fC h
 obtain⟨z,aO,h⟩:=fC h
 refine et he (et aO ?_)
 split at h
 ·rename_i hc
  rw[if_pos hc]
  obtain⟨cells,hf,h⟩:=fC h
  refine et hf ?_
  split at h
  ·rename_i hb
   have:ue [] d=false:=by cases d<;>rfl
   rw[this]
   show if cells.all jD=true then _ else _
   rw[if_pos hb];exact h
  ·exact h.elim
 ·exact h.elim
end
section
variable {P:Program} {cf:hl P} {s:TS} {R:Exit→TS→Prop}
variable {K:TV→TS→aW} {Kp:AV→List (Nat×List AV)→List Blk→Prop}
theorem PW {o:Oper} {bR:Operand→AV} {L:List (Nat×List AV)} {H:List Blk} (h:jY P o bR L H fun r=>Kp r L H) (hc: ∀c,o.op≠ .call c) (hb: ∀t m ps,o.op≠ .buildSlice t m ps):kg P [] o bR L H Kp:=by
 have h':=A_ h
 obtain⟨dst,op,ty,pos,after,guard⟩:=o
 cases op<;>first | exact h' | exact h'.elim | exact absurd rfl (hc _) | exact absurd rfl (hb _ _ _)
end
section
variable {P:Program} {cf:hl P} {s:TS} {R:Exit→TS→Prop}
variable {K:TV→TS→aW} {Kp:AV→List (Nat×List AV)→List Blk→Prop}
theorem HT {o:Oper} {c:Call} {bR:Operand→AV} {L:List (Nat×List AV)} {H:List Blk} (aC:o.op= .call c) (h:jY P o bR L H fun r=>Kp r L H):kg P [] o bR L H Kp:=by
 have h':=A_ h
 obtain⟨dst,op,ty,pos,after,guard⟩:=o
 cases aC
 obtain⟨callee,args,argTypes⟩:=c
 cases callee with
 | builtin b=>
  cases b with
  | len=>exact h'
  | _=>exact h'.elim
 | value f=>
  have h':l0 (bR f) fun g caps=>oS P g (args.toList.map bR++caps) L H fun r=>Kp r L H:=h'
  show l0 (bR f) fun g caps=>lu P g (args.toList.map bR++caps) L H Kp
  cases hf:bR f with
  | fn g caps=>rw[hf] at h';exact .inl h'
  | _=>rw[hf] at h';exact h'.elim
 | _=>exact h'.elim
end
section
variable {P:Program} {cf:hl P} {s:TS} {R:Exit→TS→Prop}
variable {K:TV→TS→aW} {Kp:AV→List (Nat×List AV)→List Blk→Prop}
theorem acO {o:Oper} {t:TypeId} {m:Nat} {ps:Array (Nat×Operand)} {bR:Operand→AV} {L:List (Nat×List AV)} {H:List Blk} (aC:o.op= .buildSlice t m ps) (h:jY P o bR L H fun r=>Kp r L H):kg P [] o bR L H Kp:=by
 have h':=A_ h
 obtain⟨dst,op,ty,pos,after,guard⟩:=o
 cases aC
 obtain⟨h1,h2⟩:=p4 (show e7 (ps.toList.all fun p=>e6 (bR p.2)) (vZ P t m (ps.toList.map fun p=>(p.1,bR p.2)) fun r=>Kp r L H) from h')
 show e7 (ps.toList.all fun p=>e6 (bR p.2)) (t_ P (ue [] dst) (vk []) t m (ps.toList.map fun p=>(p.1,bR p.2)) L H Kp)
 rw[h1];exact Uc h2
end
section
variable [Z:FZ] {P:Program} {cf:hl P} {s:TS} {R:Exit→TS→Prop}
def vQ (cf:hl P) (s:TS) (R:Exit→TS→Prop) (K:TV→TS→aW) (Kp:oI Prop):Prop:=
 ∀v s' (Z':FZ),(K v s').den R→ @Fits Z' s'→s'.tT cf.n=s.tT cf.n→Kp v.bE s'.cw (@TS.aJ Z' cf.n s').H
variable {K:TV→TS→aW} {Kp:AV→List (Nat×List AV)→List Blk→Prop}
theorem af7 (aF:cf.n≤1000000) {t:TypeId} {b g m c:Nat} {i:Int} {v:TV} {K:TS→aW} {Kp:List (Nat×List AV)→List Blk→Prop} (aO:Fits s) (hK: ∀s' (Z':FZ),(K s').den R→ @Fits Z' s'→s'.tT cf.n=s.tT cf.n→Kp s'.cw (@TS.aJ Z' cf.n s').H) (h:(Jh P cf.n t b g i m c v s K).den R):
  e7 (e6 v.bE) (ml P t (.ptr b g i.toNat c) v.bE (s.aJ cf.n).L (s.aJ cf.n).H Kp):=by
 unfold Jh at h
 split at h
 ·exact h.elim
 ·rename_i hv
  obtain⟨e,xs,fB,hm,h,hb,aV⟩:=vV (n:=cf.n) h
  obtain⟨x2,o,h,_⟩:=AR aO (n:=cf.n) h
  obtain⟨h1,h2,aP,a8,cs,cT,h⟩:=h
  refine Co (Cn hv) ?_
  have bf:i.toNat<xs.length:=by omega
  have hs:=C4 h2
  unfold ml
  rw[if_pos hs]
  refine et aV ⟨rfl,et (Hh bf true) ⟨?_,?_⟩⟩
  ·rw[rK];exact Nat.le_of_ble_eq_true aP
  ·have:=hK _ Z h (qw aO) (qv aF)
   rw[tY hb,cs] at this
   rw[a8]
   have bA: ∀y:e.T,(xs.map (cb true e)).set i.toNat (cb true e y)=(xs.set i.toNat y).map (cb true e):=fun y=>by rw[List.map_set]
   rw[bA];exact this
theorem abR (aF:cf.n≤1000000) (aO:Fits s) {t:TypeId} {e:bI} {l c:TV} (hK:vQ cf s R K Kp) (h:(He P cf.n t e l c s K).den R):w8 P t l.bE c.bE (s.aJ cf.n).L (s.aJ cf.n).H Kp:=by
 unfold He at h
 split at h
 ·split at h
  ·obtain⟨h1,h2,aP,dc,a8,h⟩:=h
   rename_i Ce ma l oT aa3 c
   subst h2
   obtain⟨nT,z,q1,q2,q3,q4,cR,c4⟩:=OH h1
   refine et q1 (et q2 ?_)
   rw[if_pos ⟨q3,q4⟩]
   refine⟨a8.1,Int.le_refl _,by rw[←c4];exact a8.2.1,a8.2.2,?_⟩
   have:=hK _ _ Z h (qw aO) (qv aF)
   rw[AK dc,aP] at this
   rw[C6 dc,←cR]
   have aO:z.length=e.mb:=by
    have:=congrArg List.length cR
    rw[List.length_map,rK] at this;exact this.symm
   rw[aO]
   have aL: ∀a3:e.T,(List.replicate l.toNat a3).length=l.toNat:=fun a3=>List.length_replicate
   show Kp (.ref s.br 0 0 l.toNat false) _ ((s.aJ cf.n).H++[⟨0,e.mb,List.replicate l.toNat (cb true e _)⟩])
   rw[←List.map_replicate]
   have this:Kp (.ref s.br 0 0 (List.replicate l.toNat _).length false) (s.aJ cf.n).L ((s.aJ cf.n).H++[⟨0,e.mb,(List.replicate l.toNat _).map (cb true e)⟩]):=this
   rw[aL] at this
   exact this
  ·exact h.elim
 ·exact h.elim
theorem TU (aF:cf.n≤1000000) (aO:Fits s) {t t2:TypeId} {v x:TV} (hK:vQ cf s R K Kp) (h:(DB P cf.n t t2 v x s K).den R):e6 v.bE=true∧e6 x.bE=true∧tW P t t2 v.bE x.bE (s.aJ cf.n).L (s.aJ cf.n).H Kp:=by
 unfold DB at h
 split at h
 ·rename_i e ys jF fr
  split at h
  ·exact h.elim
  ·rename_i hc
   simp only[Bool.and_eq_true] at hc
   have eX: ∀(iF:List e.T) (k:Nat),e.mb=k→re k (iF.map (cb true e)):=fun iF k hk row aK=>by
    obtain⟨y,_,rfl⟩:=List.mem_map.1 aK
    refine⟨by rw[rK,hk],fun a a4=>List.all_eq_true.1 (Vm (fr:=true) hc.2 y) a a4⟩
   have dW: ∀{nT},jp P t=some nT→qA P t=P.bytesOf nT:=fun h=>by unfold qA;rw[h]
   split at h
   ·split at h
    ·rename_i full ag6
     obtain⟨h1,h2,dc,aP,h⟩:=h
     obtain⟨nT,z,q1,q2,q3,q4,cR⟩:=JY h1
     refine⟨rfl,rfl,et q1 (et q2 ?_)⟩
     rw[if_pos q3]
     show _∧_
     have hx:lL fr (List.map (cb false e) ys)=ys.map (cb true e):=PY hc.1 ys
     rw[hx]
     refine⟨eX ys _ q4,rfl,(fun row h=>by cases h),?_,?_,(fun h=>absurd rfl h),?_⟩
     ·rw[List.length_map,←dW q1];simpa using aP.1
     ·rw[List.length_map];simpa using aP.2
     ·have:=hK _ _ Z h (qw aO) (qv aF)
      rw[AK dc,h2] at this
      rw[C6 dc,←q4,List.length_map]
      simp only[List.length_nil,Nat.zero_add,List.nil_append]
      exact this
    ·exact h.elim
   ·rename_i b g m eD
    obtain⟨d_,xs,fB,hm,h,hb,aV⟩:=vV (n:=cf.n) h
    split at h
    ·rename_i he
     subst he
     obtain⟨h1,h2,aP,a8,uf⟩:=h
     subst h1
     obtain⟨nT,z,q1,q2,q3,q4,cR⟩:=JY h2
     refine⟨rfl,rfl,et q1 (et q2 ?_)⟩
     rw[if_pos q3]
     show _∧_
     have hx:lL fr (List.map (cb false e) ys)=ys.map (cb true e):=PY hc.1 ys
     rw[hx]
     refine⟨eX ys _ q4,rfl,et aV ⟨rfl,q4,by rw[List.length_map];exact hm,?_,?_,?_⟩⟩
     ·rw[List.length_map,←hm,←dW q1];exact a8.1
     ·rw[List.length_map,←hm];exact a8.2
     ·have:=hK _ _ Z uf (qw aO) (qv aF)
      rw[tY hb,aP] at this
      rw[←q4,List.length_map,←hm,←List.map_append,←List.length_append]
      exact this
    ·exact h.elim
   ·exact h.elim
 ·exact h.elim
theorem EZ (aF:cf.n≤1000000) (aO:Fits s) {o:Oper} {v:TV} {l:List (Nat×TV)} {vs:List (Nat×Nat)} (hK:vQ cf s R K Kp) (h:(yE cf s o v l vs K).den R):kg P [] o (cv (s.aJ cf.n).T) (s.aJ cf.n).L (s.aJ cf.n).H Kp:=by
 unfold yE at h
 split at h
 ·rename_i hb
  obtain⟨e,h⟩:=h
  rw[k9,show(fun x=>(cP cf.n s x).bE)=(fun x=>(cP cf.n s x).bE) from rfl]
  have e:=congrFun (congrFun e (s.aJ cf.n).H) Kp
  have e:kg P [] o (fun x=>(cP cf.n s x).bE) (s.aJ cf.n).L (s.aJ cf.n).H Kp=_:=e
  rw[e]
  have:=hK _ _ Z h (yd hb aO) (yc aF hb)
  rw[yb hb] at this;exact this
 ·exact h.elim
end
def GL:TV→Bool
 | .kz _ _ _=>true
 | _=>false
theorem T9 {Z Z':FZ} {v:TV} (h:GL v=false): @TV.eo Z' v= @TV.eo Z v:=by cases v<;>first | rfl | cases h
def zw (s:TS) (b:Nat):Nat→Bool
 | 0=>true
 | k+1=>(Nat.beq k b || !GL (s.get (bC k)))&&zw s b k
theorem OZ {s:TS} {b:Nat}: ∀{n:Nat},zw s b n=true→ ∀k,k<n→k≠b→GL (s.get (bC k))=false
 | 0,_,k,h,_=>by omega
 | n+1,h,k,hk,cm=>by
  simp only[zw,Bool.and_eq_true,Bool.or_eq_true,Bool.not_eq_true'] at h
  rcases Nat.lt_or_ge k n with q | q
  ·exact OZ h.2 k q cm
  ·have:k=n:=by omega
   subst this
   rcases h.1 with e | e
   ·exact absurd (Nat.eq_of_beq_eq_true e) cm
   ·exact e
theorem agz {Z Z':FZ} {n:Nat} {s s':TS} {b g m:Nat} {ids:List Nat} {V JO:List ad} {Zl:List Nat} {bX OV:Nat} {hv:V.length=bX} {kq:JO.length=OV} (hb:b<s.br) (wM:s'.br=s.br) (he: ∀k,k≠b→s'.get (bC k)=s.get (bC k)) (hg:s'.get (bC b)= .kz g m ids) (hw:zw s b s.br=true)
  (h1:s.get dL= .g4 V Zl bX hv) (h2:s'.get dL= .g4 JO ids OV kq):(@TS.aJ Z' n s').H=(@TS.gu Z s).set b ⟨g,5,a0 m Z'.ws ids⟩++List.map bm Z'.bs:=by
 rw[rL h2]
 congr 1
 apply List.ext_getElem?
 intro i
 rw[@qe Z' s' i,List.getElem?_set,@qe Z s i,@nn Z s,wM]
 by_cases hi:b=i
 ·subst hi;rw[if_pos hb,if_pos rfl,if_pos hb,hg];rfl
 ·rw[if_neg hi,he i (fun e=>hi e.symm)]
  by_cases h:i<s.br
  ·rw[if_pos h,if_pos h,T9 (Z:=Z) (OZ hw i h (fun e=>hi e.symm))]
  ·rw[if_neg h,if_neg h]
theorem z8 {n:Nat} {s:TS} {l:List (Nat×TV)} (aF:n≤1000000) (h: ∀p∈l,1000000≤p.1):(s.add l s.vs s.br).tT n=s.tT n:=by
 show(List.range n).map _=(List.range n).map _
 refine List.map_congr_left fun t bu=> ?_
 have bu:t<n:=List.mem_range.1 bu
 rw[TS.iX,tb fun v hv=>by have:=h _ hv;simp only at this;omega]
def H_ (c:Nat) (v:TV) (h:ad) (K:ad→aW):aW:=match v with
 | .i k x=>if k= .i64 then(match c with
  | 0=>K {h with ao:=x}
  | 1=>K {h with ag:=x}
  | 4=>K {h with ar:=x}
  | _=> .no) else .no
 | .b x=>(match c with
  | 3=>K {h with aq:=x.den}
  | _=> .no)
 | _=> .no
theorem Qo {c:Nat} {v:TV} {w:ad} {b:List Bool} {K:ad→aW} {R:Exit→TS→Prop} (h:(H_ c v {w with ac:=b} K).den R):
  ∃x:ad,x.ac=w.ac∧(K {x with ac:=b}).den R∧(∀m id,fl (ki m w id) c (fi v.bE)=ki m x id)∧c+(fi v.bE).length≤5:=by
 unfold H_ at h
 split at h
 ·rename_i k x
  split at h
  ·rename_i hk
   subst hk
   split at h
   ·exact⟨{w with ao:=x},rfl,h,fun m id=>rfl,(show(0+1:Nat)≤5 by decide)⟩
   ·exact⟨{w with ag:=x},rfl,h,fun m id=>rfl,(show(1+1:Nat)≤5 by decide)⟩
   ·exact⟨{w with ar:=x},rfl,h,fun m id=>rfl,(show(4+1:Nat)≤5 by decide)⟩
   ·exact h.elim
  ·exact h.elim
 ·rename_i x
  split at h
  ·exact⟨{w with aq:=x.den},rfl,h,fun m id=>rfl,(show(3+1:Nat)≤5 by decide)⟩
  ·exact h.elim
 ·exact h.elim
theorem gy.abf {ws:List ad} {ids:List Nat} {bs:List (List Bool)} (G:gy ws ids bs) {i id:Nat} {x:ad} (hi:i<ws.length) (h1:id<bs.length) (h2:bs.getD id []=x.ac) (aP: ∀j:Nat,ids[j]?≠some id):
  gy (ws.set i x) (ids.set i id) bs∧view (ws.set i x) (ids.set i id) bs=(view ws ids bs).set i x:=by
 have aL:=G.ok.len
 refine⟨⟨⟨by rw[List.length_set,List.length_set];exact aL,fun j k hk=> ?_,fun j k h a4 hk=> ?_⟩,fun a b k a4 hb=> ?_,G.len⟩,?_⟩
 ·rw[List.getElem?_set] at hk
  split at hk
  ·split at hk
   ·cases hk;exact h1
   ·cases hk
  ·exact G.ok.lt j k hk
 ·rw[List.getElem?_set] at a4 hk
  split at a4
  ·rename_i e;subst e
   rw[if_pos rfl,if_pos (by omega)] at hk
   cases a4;cases hk;rw[h2]
  ·rename_i e
   rw[if_neg e] at hk
   exact G.ok.ac j k h a4 hk
 ·rw[List.getElem?_set] at a4 hb
  split at a4
  ·split at a4
   ·cases a4
    split at hb
    ·rename_i bA _ e2;omega
    ·exact absurd hb (aP b)
   ·cases a4
  ·split at hb
   ·split at hb
    ·cases hb;exact absurd a4 (aP a)
    ·cases hb
   ·exact G.kQ a b k a4 hb
 ·apply List.ext_getElem?
  intro j
  unfold view
  rw[List.getElem?_zipWith,List.getElem?_set,List.getElem?_set,List.getElem?_set,List.getElem?_zipWith,List.length_zipWith]
  by_cases e:i=j
  ·subst e
   rw[if_pos rfl,if_pos rfl,if_pos rfl,if_pos hi,if_pos (by omega),if_pos (by omega)]
   show some ({x with ac:=bs.getD id []}:ad)=some x
   rw[h2]
  ·rw[if_neg e,if_neg e,if_neg e]
theorem gy.snoc {ws:List ad} {ids:List Nat} {bs:List (List Bool)} (G:gy ws ids bs) {xs:List Bool} (hx:xs.length≤1048576):gy ws ids (bs++[xs])∧view ws ids (bs++[xs])=view ws ids bs:=by
 have hg: ∀id,id<bs.length→(bs++[xs]).getD id []=bs.getD id []:=fun id h=>by
  rw[List.getD_eq_getElem?_getD,List.getD_eq_getElem?_getD,List.getElem?_append_left h]
 refine⟨⟨⟨G.ok.len,fun i id h=>by have:=G.ok.lt i id h;rw[List.length_append];omega,fun i id h h1 h2=>by rw[hg id (G.ok.lt i id h2)];exact G.ok.ac i id h h1 h2⟩,G.kQ,fun b hb=> ?_⟩,?_⟩
 ·rcases List.mem_append.1 hb with hb | hb
  ·exact G.len b hb
  ·rw[List.mem_singleton.1 hb];exact hx
 ·apply List.ext_getElem?
  intro j
  unfold view
  rw[List.getElem?_zipWith,List.getElem?_zipWith]
  cases h1:ws[j]? with
  | none=>rfl
  | some w=>
   cases h2:ids[j]? with
   | none=>rfl
   | some id=>simp only[hg id (G.ok.lt j id h2)]
def Jl (P:Program) (t:TypeId) (b g:Nat) (i:Int) (c:Nat) (v:TV) (s:TS) (dK hQ:Nat) (ids:List Nat) (K:TS→aW):aW:=match s.get dL with
 | .g4 V dh bX hv=> .eq dK g (.eq dh ids (.eq (Nat.blt b s.br&&zw s b s.br&&vt P t v.bE) true (match v with
  | .agg l=>(match l with
   | [.i df aJ,.i g9 go,.zu id m k,.b hG,.i oz pf]=>(match s.get gd with
    | .new gA xs=>
     let s':=s.add [(dL,.g4 (V.set i.toNat (ad.mk aJ go xs hG.den pf)) (ids.set i.toNat id) bX ((List.length_set ..).trans hv)),(bC b,.kz g hQ (ids.set i.toNat id)),(gd,.u)] s.vs s.br
     .eq c 0 (.eq (df,g9,oz) (IntKind.i64,IntKind.i64,IntKind.i64) (.eq gA id (.eq m hQ (.eq k xs.length (.eq s'.cw s.cw (.p (i.toNat<V.length) (K s')))))))
    | _=> .no)
   | _=> .no)
  | v=>H_ c v (nth V i) fun y=>
   let s':=s.add [(dL,.g4 (V.set i.toNat y) ids bX ((List.length_set ..).trans hv))] s.vs s.br
   .eq s'.cw s.cw (.p (i.toNat<V.length) (K s')))))
 | _=> .no
section
variable [Z:FZ] {P:Program} {cf:hl P} {s:TS} {R:Exit→TS→Prop}
theorem agi (aF:cf.n≤1000000) {t:TypeId} {b g c dK hQ:Nat} {ids:List Nat} {i:Int} {v:TV} {K:TS→aW} {Kp:List (Nat×List AV)→List Blk→Prop} (aO:Fits s) (hg:s.get (bC b)= .kz dK hQ ids)
  (hK: ∀s' (Z':FZ),(K s').den R→ @Fits Z' s'→s'.tT cf.n=s.tT cf.n→Kp s'.cw (@TS.aJ Z' cf.n s').H) (h:(Jl P t b g i c v s dK hQ ids K).den R):
  ml P t (.ptr b g i.toNat c) v.bE (s.aJ cf.n).L (s.aJ cf.n).H Kp:=by
 unfold Jl at h
 split at h
 ·rename_i V dh bX kI hk
  obtain⟨h1,h2,aP,h⟩:=h
  subst h1;subst h2
  simp only[Bool.and_eq_true] at aP
  obtain⟨⟨hb,hw⟩,bi⟩:=aP
  have hb:b<s.br:=by rw[←Nat.blt_eq];exact hb
  obtain⟨G,e,kF⟩:=aO V dh _ _ hk
  have hs:=C4 bi
  have pR:=jl G.ok
  rw[e] at pR
  have aV:(s.aJ cf.n).H[b]?=some ⟨dK,5,a0 hQ Z.ws dh⟩:=by rw[rp hb,hg];rfl
  have XE:(s.aJ cf.n).H=s.gu++List.map bm Z.bs:=rL hk
  unfold ml
  rw[if_pos hs]
  have fin: ∀{s':TS} {ws2:List ad} {ids2:List Nat} {V2:List ad} {n2:Nat} {hv2:V2.length=n2} {cells row':List AV},i.toNat<V.length→c+cells.length≤5→fl (ki hQ (nth Z.ws i) (nth dh i)) c cells=row'→(a0 hQ Z.ws dh).set i.toNat row'=a0 hQ ws2 ids2→s'.br=s.br→(∀k,k≠b→s'.get (bC k)=s.get (bC k))→s'.get (bC b)= .kz dK hQ ids2→s'.get dL= .g4 V2 ids2 n2 hv2→
    s'.cw=s.cw→(K s').den R→ @Fits ⟨ws2,Z.bs⟩ s'→s'.tT cf.n=s.tT cf.n→(c3 (s.aJ cf.n).H[b]? fun blk=>blk.bF=dK∧c3 blk.rows[i.toNat]? fun row=>c+cells.length≤row.length∧Kp (s.aJ cf.n).L ((s.aJ cf.n).H.set b {blk with rows:=blk.rows.set i.toNat (fl row c cells)})):=by
   intro s' ws2 ids2 V2 n2 hv2 cells row' hi hc wR k6 wM m6 ou Yn b3 XH hf cj
   refine et aV ⟨rfl,et (dO G.ok.len (by omega)) ⟨hc,?_⟩⟩
   have:=hK s' ⟨ws2,Z.bs⟩ XH hf cj
   rw[b3,agz (Z:=Z) (Z':=⟨ws2,Z.bs⟩) hb wM m6 ou hw hk Yn] at this
   rw[XE,List.set_append_left _ _ (by rw[nn];exact hb),wR]
   show Kp s.cw (s.gu.set b ⟨dK,5,(a0 hQ Z.ws dh).set i.toNat row'⟩++_)
   rw[k6];exact this
  split at h
  ·split at h
   ·rename_i df aJ g9 go id m k hG oz pf
    split at h
    ·rename_i gA xs rY
     obtain⟨h1,h2,a8,cs,cT,gk,oh,h⟩:=h
     subst h1;subst a8;subst cs;subst cT
     cases h2
     obtain⟨oC,n2,p0⟩:=kF _ _ rY
     obtain⟨n0,d_⟩:=G.abf (i:=i.toNat) (id:=gA) (x:=ad.mk aJ go xs hG.den pf) (by omega) oC n2 p0
     refine fin (s':=s.add [(dL,.g4 (V.set i.toNat (ad.mk aJ go xs hG.den pf)) (dh.set i.toNat gA) bX ((List.length_set ..).trans kI)),(bC b,.kz dK m (dh.set i.toNat gA)),(gd,.u)] s.vs s.br) (ws2:=Z.ws.set i.toNat (ad.mk aJ go xs hG.den pf)) (V2:=V.set i.toNat (ad.mk aJ go xs hG.den pf)) (n2:=bX) (hv2:=(List.length_set ..).trans kI) (ids2:=dh.set i.toNat gA) (row':=ki m (ad.mk aJ go xs hG.den pf) gA) oh (Nat.le_refl 5) ?_ (wz G.ok.len) rfl (fun k hk=> ?_) ?_ ?_ gk h ?_ (z8 aF ?_)
     ·rfl
     ·rw[TS.iX,gJ,if_neg (by unfold dL bC;omega),gJ,if_neg (by unfold bC;omega),gJ,if_neg (by unfold gd bC;omega)];rfl
     ·rw[TS.iX,gJ,if_neg (by unfold dL bC;omega),gJ,if_pos rfl]
     ·rw[TS.iX,gJ,if_pos rfl]
     ·intro V3 B3 p0 BM aP
      rw[TS.iX,gJ,if_pos rfl] at aP
      cases aP
      refine⟨n0,by rw[←e];exact d_,fun id xs hx=> ?_⟩
      rw[TS.iX,gJ,if_neg (by unfold dL gd;omega),gJ,if_neg (by unfold bC gd;omega),gJ,if_pos rfl] at hx
      cases hx
     ·intro p aI
      simp only[List.mem_cons,List.not_mem_nil,or_false] at aI
      rcases aI with rfl | rfl | rfl
      ·exact Nat.le_refl _
      ·show 1000000≤bC b;unfold bC;omega
      ·show 1000000≤gd;unfold gd;omega
    ·exact h.elim
   ·exact h.elim
  ·have ahd:i.toNat<V.length∨ ¬i.toNat<V.length:=by omega
   by_cases hi:i.toNat<V.length
   ·have hv:=Dj G.ok (i:=i) (by rw[e];exact hi)
    rw[e] at hv
    rw[hv] at h
    obtain⟨x,aH,h,bt,eg⟩:=Qo h
    obtain⟨gk,oh,h⟩:=h
    have F:=(G.oR (j:=i) (by omega)).rj x (by rw[aH];have:=(G.oR (j:=i) (by omega)).qu;exact this)
    have j0:(nth (view Z.ws dh Z.bs) i).ac=Z.bs.getD (nth dh i) []:=by rw[e,hv]
    rw[j0,e] at F
    refine fin (s':=s.add [(dL,.g4 (V.set i.toNat {x with ac:=Z.bs.getD (nth dh i) []}) dh bX ((List.length_set ..).trans kI))] s.vs s.br) (ws2:=Z.ws.set i.toNat x) (ids2:=dh) (V2:=V.set i.toNat {x with ac:=Z.bs.getD (nth dh i) []}) (n2:=bX) (hv2:=(List.length_set ..).trans kI) oh eg (bt hQ (nth dh i)) (kj G.ok.len (by omega)) rfl (fun k hk=> ?_) ?_ ?_ gk h ?_ (z8 aF ?_)
    ·rw[TS.iX,gJ,if_neg (by unfold dL bC;omega)];rfl
    ·rw[TS.iX,gJ,if_neg (by unfold dL bC;omega)];exact hg
    ·rw[TS.iX,gJ,if_pos rfl]
    ·intro V3 B3 p0 BM aP
     rw[TS.iX,gJ,if_pos rfl] at aP
     cases aP
     refine⟨F.G,F.g0,fun id xs hx=> ?_⟩
     rw[TS.iX,gJ,if_neg (by unfold dL gd;omega)] at hx
     exact kF id xs hx
    ·intro p aI
     rw[List.mem_singleton.1 aI];exact Nat.le_refl _
   ·obtain⟨x,aH,h,_⟩:=Qo (w:=nth V i) (b:=(nth V i).ac) h
    exact absurd h.2.1 hi
 ·exact h.elim
def z_ (P:Program) (t:TypeId) (w:Int) (ids:List Nat) (m:Nat) (j:Int) (v:TV) (s:TS) (K:TS→aW):aW:=match s.get dL with
 | .g4 V dh bX hv=> .eq dh ids (.eq m s.br (.eq (vt P t v.bE) true (match v with
  | .b x=>
   let s':=s.add [(dL,.g4 (V.set w.toNat {nth V w with ac:=(nth V w).ac.set j.toNat x.den}) ids bX ((List.length_set ..).trans hv))] s.vs s.br
   .eq s'.cw s.cw (.p (w.toNat<V.length∧j.toNat<(nth V w).ac.length) (K s'))
  | _=> .no)))
 | _=> .no
theorem agd (aF:cf.n≤1000000) {t:TypeId} {m:Nat} {ids:List Nat} {w j:Int} {v:TV} {K:TS→aW} {Kp:List (Nat×List AV)→List Blk→Prop} (aO:Fits s)
  (hK: ∀s' (Z':FZ),(K s').den R→ @Fits Z' s'→s'.tT cf.n=s.tT cf.n→Kp s'.cw (@TS.aJ Z' cf.n s').H) (h:(z_ P t w ids m j v s K).den R):
  ml P t (.ptr (nth ids w+m) 0 j.toNat 0) v.bE (s.aJ cf.n).L (s.aJ cf.n).H Kp:=by
 unfold z_ at h
 split at h
 ·rename_i V dh bX kI hk
  obtain⟨h1,h2,aP,h⟩:=h
  subst h1;subst h2
  have hs:=C4 aP
  unfold ml
  rw[if_pos hs]
  split at h
  ·rename_i x
   obtain⟨a8,cs,h⟩:=h
   obtain⟨G,e,kF⟩:=aO V dh _ _ hk
   have pR:=jl G.ok
   rw[e] at pR
   have hv:=Dj G.ok (i:=w) (by rw[e];exact cs.1)
   rw[e] at hv
   have dz:=G.oR (j:=w) (by omega)
   have F:=dz.H9 ((nth V w).ac.set j.toNat x.den) (by rw[List.length_set,e])
   rw[e] at F
   have gR:=G.ok.lt w.toNat _ (gV (xs:=dh) (i:=w) (by have:=G.ok.len;omega))
   refine et (EF aO hk cs.1) ⟨rfl,et (ym cs.2) ⟨Nat.le_refl 1,?_⟩⟩
   have cj:=z8 (n:=cf.n) (s:=s) (l:=[(dL,TV.g4 (V.set w.toNat {nth V w with ac:=(nth V w).ac.set j.toNat x.den}) dh bX ((List.length_set ..).trans kI))]) aF (fun p aI=>by rw[List.mem_singleton.1 aI];exact Nat.le_refl _)
   have oo: @Fits ⟨Z.ws,Z.bs.set (nth dh w) ((nth V w).ac.set j.toNat x.den)⟩ (s.add [(dL,TV.g4 (V.set w.toNat {nth V w with ac:=(nth V w).ac.set j.toNat x.den}) dh bX ((List.length_set ..).trans kI))] s.vs s.br):=by
    intro V3 B3 p0 BM aP
    rw[TS.iX,gJ,if_pos rfl] at aP
    cases aP
    refine⟨F.G,F.g0,fun id xs hx=> ?_⟩
    rw[TS.iX,gJ,if_neg (by unfold dL gd;omega)] at hx
    obtain⟨oC,n2,p0⟩:=kF id xs hx
    refine⟨by show id<(Z.bs.set (nth dh w) ((nth V w).ac.set j.toNat x.den)).length;rw[List.length_set];exact oC,?_,p0⟩
    show(Z.bs.set (nth dh w) ((nth V w).ac.set j.toNat x.den)).getD id []=xs
    have cm:nth dh w≠id:=fun q=>p0 w.toNat (by rw[gV (xs:=dh) (i:=w) (by have:=G.ok.len;omega),q])
    rw[List.getD_eq_getElem?_getD,List.getElem?_set,if_neg cm,←List.getD_eq_getElem?_getD];exact n2
   have:=hK _ ⟨Z.ws,Z.bs.set (nth dh w) ((nth V w).ac.set j.toNat x.den)⟩ h oo cj
   rw[a8] at this
   have Bq:(s.aJ cf.n).H=s.gu++List.map bm Z.bs:=rL hk
   have lB: ∀Z':FZ,Z'.ws=Z.ws→ @TS.gu Z' (s.add [(dL,TV.g4 (V.set w.toNat {nth V w with ac:=(nth V w).ac.set j.toNat x.den}) dh bX ((List.length_set ..).trans kI))] s.vs s.br)= @TS.gu Z s:=fun Z' hw=>by
    show(List.range s.br).map _=(List.range s.br).map _
    refine List.map_congr_left fun b _=> ?_
    rw[TS.iX,gJ,if_neg (by unfold dL bC;omega)]
    show @TV.eo Z' (s.get (bC b))= @TV.eo Z (s.get (bC b))
    cases s.get (bC b)<;>first | rfl | (simp only[TV.eo,hw])
   have E3:= @rL ⟨Z.ws,Z.bs.set (nth dh w) ((nth V w).ac.set j.toNat x.den)⟩ cf.n (s.add [(dL,TV.g4 (V.set w.toNat {nth V w with ac:=(nth V w).ac.set j.toNat x.den}) dh bX ((List.length_set ..).trans kI))] s.vs s.br) (V.set w.toNat {nth V w with ac:=(nth V w).ac.set j.toNat x.den}) dh bX ((List.length_set ..).trans kI) (by rw[TS.iX,gJ,if_pos rfl])
   rw[E3,lB ⟨Z.ws,Z.bs.set (nth dh w) ((nth V w).ac.set j.toNat x.den)⟩ rfl] at this
   rw[Bq,List.set_append_right _ _ (by rw[nn];omega),nn,Nat.add_sub_cancel]
   have iu:({bm (nth V w).ac with rows:=(bm (nth V w).ac).rows.set j.toNat (fl (aY (nth (nth V w).ac j)) 0 (fi (TV.b x).bE))}:Blk)=bm ((nth V w).ac.set j.toNat x.den):=by
    show(⟨0,1,(List.map aY (nth V w).ac).set j.toNat (aY x.den)⟩:Blk)=⟨0,1,_⟩
    rw[DJ]
   show Kp s.cw (s.gu++(List.map bm Z.bs).set (nth dh w) {bm (nth V w).ac with rows:=(bm (nth V w).ac).rows.set j.toNat (fl (aY (nth (nth V w).ac j)) 0 (fi (TV.b x).bE))})
   rw[iu,EG]
   exact this
  ·exact h.elim
 ·exact h.elim
def Hd (P:Program) (t:TypeId) (l c:TV) (s:TS) (K:TV→TS→aW):aW:=match l with
 | .i _ l=>(match c with
  | .i _ c=>(match s.get dL with
   | .g4 V ids _ _=> .all Nat fun id=>
    let s':=s.add [(gd,.new id (List.replicate l.toNat false))] s.vs s.br
    .eq (Cf P t) (some ([AV.bool false],qA P t)) (.eq l c (.eq s'.cw s.cw (.p (0≤l∧(qA P t:Int)*l≤140737488355328∧l≤1048576) (K (.zu id s.br (List.replicate l.toNat false).length) s'))))
   | _=> .no)
  | _=> .no)
 | _=> .no
theorem abP (aF:cf.n≤1000000) (aO:Fits s) {t:TypeId} {l c:TV} {K:TV→TS→aW} {Kp:AV→List (Nat×List AV)→List Blk→Prop} (hK:vQ cf s R K Kp) (h:(Hd P t l c s K).den R):w8 P t l.bE c.bE (s.aJ cf.n).L (s.aJ cf.n).H Kp:=by
 unfold Hd at h
 split at h
 ·split at h
  ·split at h
   ·rename_i Ce ma l oT aa3 c ahx V ids bX kI hk
    obtain⟨h1,h2,aP,a8,bY⟩:=h Z.bs.length
    subst h2
    obtain⟨nT,z,q1,q2,q3,q4,cR,c4⟩:=OH h1
    refine et q1 (et q2 ?_)
    rw[if_pos ⟨q3,q4⟩]
    refine⟨a8.1,Int.le_refl _,by rw[←c4];exact a8.2.1,by have:=a8.2.2;omega,?_⟩
    obtain⟨G,e,kF⟩:=aO V ids _ _ hk
    have o2:(List.replicate l.toNat false).length≤1048576:=by rw[List.length_replicate];have:=a8.2.2;omega
    obtain⟨n0,d_⟩:=G.snoc o2
    have cj:=z8 (n:=cf.n) (s:=s) (l:=[(gd,TV.new Z.bs.length (List.replicate l.toNat false))]) aF (fun p aI=>by rw[List.mem_singleton.1 aI];show 1000000≤gd;unfold gd;omega)
    have L3:(s.add [(gd,TV.new Z.bs.length (List.replicate l.toNat false))] s.vs s.br).get dL= .g4 V ids bX kI:=by rw[TS.iX,gJ,if_neg (by unfold dL gd;omega)];exact hk
    have oo: @Fits ⟨Z.ws,Z.bs++[List.replicate l.toNat false]⟩ (s.add [(gd,TV.new Z.bs.length (List.replicate l.toNat false))] s.vs s.br):=by
     intro V3 B3 p0 BM aP
     rw[L3] at aP
     cases aP
     refine⟨n0,d_.trans e,fun id xs hx=> ?_⟩
     rw[TS.iX,gJ,if_pos rfl] at hx
     cases hx
     refine⟨by show Z.bs.length<(Z.bs++[List.replicate l.toNat false]).length;rw[List.length_append];simp,by show(Z.bs++[List.replicate l.toNat false]).getD Z.bs.length []=_;rw[List.getD_eq_getElem?_getD,List.getElem?_append_right (Nat.le_refl _)];simp,fun j aM=> ?_⟩
     have:=G.ok.lt j _ aM;omega
    have:=hK _ _ ⟨Z.ws,Z.bs++[List.replicate l.toNat false]⟩ bY oo cj
    rw[aP] at this
    have Bq:(s.aJ cf.n).H=s.gu++List.map bm Z.bs:=rL hk
    have E3:= @rL ⟨Z.ws,Z.bs++[List.replicate l.toNat false]⟩ cf.n _ V ids bX kI L3
    have lB: @TS.gu ⟨Z.ws,Z.bs++[List.replicate l.toNat false]⟩ (s.add [(gd,TV.new Z.bs.length (List.replicate l.toNat false))] s.vs s.br)= @TS.gu Z s:=by
     show(List.range s.br).map _=(List.range s.br).map _
     refine List.map_congr_left fun b _=> ?_
     rw[TS.iX,gJ,if_neg (by unfold gd bC;omega)]
     show @TV.eo _ (s.get (bC b))= @TV.eo Z (s.get (bC b))
     cases s.get (bC b)<;>rfl
    rw[E3,lB] at this
    have hlen:(s.aJ cf.n).H.length=Z.bs.length+s.br:=by rw[Bq,List.length_append,nn,List.length_map];omega
    have uJ:z.length=1:=by have:=congrArg List.length cR;simpa using this.symm
    rw[hlen,uJ,←cR,Bq]
    show Kp (.ref (Z.bs.length+s.br) 0 0 l.toNat false) s.cw (s.gu++List.map bm Z.bs++[⟨0,1,List.replicate l.toNat [AV.bool false]⟩])
    rw[show List.replicate l.toNat [AV.bool false]=List.map aY (List.replicate l.toNat false) by rw[List.map_replicate];rfl,List.append_assoc,rM]
    have Ve:(List.replicate l.toNat false).length=l.toNat:=List.length_replicate
    rw[Ve] at this
    exact this
   ·exact h.elim
  ·exact h.elim
 ·exact h.elim
def SS (P:Program) (t:TypeId) (b g:Nat) (i:Int) (c:Nat) (v:TV) (s:TS) (dK:Nat) (ba:List TV) (K:TS→aW):aW:=
 let dF:=ba.take c++qy v++ba.drop (c+(qy v).length)
 let s':=s.gO b s.br (.eI g dF)
 .eq dK g (.eq i 0 (.eq (Nat.blt b s.br&&xf v&&vt P t v.bE&&Nat.ble (c+(fi v.bE).length) ba.length) true (.eq (fl (cS ba) c (fi v.bE)) (cS dF) (.eq dF.length ba.length (.eq s'.cw s.cw (K s'))))))
theorem agh (aF:cf.n≤1000000) {t:TypeId} {b g c dK:Nat} {ba:List TV} {i:Int} {v:TV} {K:TS→aW} {Kp:List (Nat×List AV)→List Blk→Prop} (aO:Fits s) (hg:s.get (bC b)= .eI dK ba)
  (hK: ∀s' (Z':FZ),(K s').den R→ @Fits Z' s'→s'.tT cf.n=s.tT cf.n→Kp s'.cw (@TS.aJ Z' cf.n s').H) (h:(SS P t b g i c v s dK ba K).den R):
  ml P t (.ptr b g i.toNat c) v.bE (s.aJ cf.n).L (s.aJ cf.n).H Kp:=by
 obtain⟨h1,h2,aP,a8,cs,cT,h⟩:=h
 subst h1;subst h2
 simp only[Bool.and_eq_true] at aP
 obtain⟨⟨⟨hb,_⟩,bi⟩,hle⟩:=aP
 have hb:b<s.br:=by rw[←Nat.blt_eq];exact hb
 have hs:=C4 bi
 unfold ml
 rw[if_pos hs]
 refine et (by rw[rp hb,hg]) ⟨rfl,et (a:=cS ba) rfl ⟨by rw[n4,List.length_map];exact Nat.le_of_ble_eq_true hle,?_⟩⟩
 have:=hK _ Z h (qw aO) (qv aF)
 rw[tY hb,cT] at this
 show Kp s.cw ((s.aJ cf.n).H.set b ⟨dK,ba.length,[fl (cS ba) c (fi v.bE)]⟩)
 rw[a8,←cs]
 exact this
end
inductive n1 where
 | v (e:bI)
 | fr
 | w
def n1.es:List n1→List bI
 | []=>[]
 | .v e::r=>e::n1.es r
 | .fr::r=>n1.es r
 | .w::r=> .int::n1.es r
def yw (hg:Nat):(l:List n1)→c7 (n1.es l)→List AV
 | [],_=>[]
 | .v e::r,x=>oa e x.1::yw hg r x.2
 | .fr::r,x=> .ptr 0 hg 0 0::yw hg r x
 | .w::r,x=> .ptr 3 0 (show Int from x.1).toNat 0::yw hg r x.2
def CT (F:Frame):List TV:=[.b (.v F.ok),.ref 1 0 F.av.length false,.ref 2 0 F.au.length false,.ref 3 0 F.O.length false]
def EO [Z:FZ] (hg:Nat) (ids:List Nat) (F:Frame):List Blk:=
 [⟨hg,4,[cS (CT F)]⟩,⟨0,1,F.av.map (cb true .bool)⟩,⟨0,2,F.au.map (cb true .gK)⟩,⟨0,5,a0 4 Z.ws ids⟩]++Z.bs.map bm
def Du [Z:FZ] (ids:List Nat) (F:Frame):Prop:=gy Z.ws ids Z.bs∧view Z.ws ids Z.bs=F.O
def TF (P:Program) (f:FuncId) (hg:Nat) (args:List AV) (F:Frame) (JJ:Frame) (v:AV):Prop:=
 ∀(Z:FZ) (ids:List Nat),@Du Z ids F→dI P f args (@EO Z hg ids F) fun r H'=>r=v∧ ∃(Z':FZ) (dh:List Nat),@Du Z' dh JJ∧H'= @EO Z' hg dh JJ
def w7 (hg:Nat) (ids:List Nat) (F:Frame):List (Nat×TV):=
 [(bC 0,.eI hg (CT F)),(bC 1,.blk 0 .bool F.av F.av.length rfl),(bC 2,.blk 0 .gK F.au F.au.length rfl),(bC 3,.kz 0 4 ids),(dL,.g4 F.O ids F.O.length rfl)]
def EN (s:TS) (K:Nat→Frame→List Nat→aW):aW:=match s.get (bC 0) with
 | .eI g ba=>(match ba with
  | [.b k,.ref jn aT oC f1,.ref dk a1 n2 f2,.ref qp bT p0 f3]=>(match s.get (bC 1) with
   | .blk h1 bA o aR _=>if q1:bA=bI.bool then(match s.get (bC 2) with
    | .blk h2 e2 q bn _=>if q2:e2=bI.gK then(match s.get (bC 3) with
     | .kz aP hQ ids=>(match s.get dL with
      | .g4 V dh bX _=> .eq s.br 4 (.eq (jn,aT,oC,f1) (1,0,aR,false) (.eq (dk,a1,n2,f2) (2,0,bn,false) (.eq (qp,bT,p0,f3) (3,0,bX,false) (.eq (h1,h2,aP,hQ) (0,0,0,4)
       (.eq dh ids (K g ⟨k.den,l1 q1 o,l1 q2 q,V⟩ ids))))))
      | _=> .no)
     | _=> .no) else .no
    | _=> .no) else .no
   | _=> .no)
  | _=> .no)
 | _=> .no
theorem WZ [Z:FZ] {n:Nat} {s:TS} {K:Nat→Frame→List Nat→aW} {R:Exit→TS→Prop} (aO:Fits s) (h:(EN s K).den R): ∃g F ids,(K g F ids).den R∧Du ids F∧(s.aJ n).H=EO g ids F∧s.br=4∧s.get dL= .g4 F.O ids F.O.length rfl:=by
 unfold EN at h
 split at h
 ·rename_i g ba pO
  split at h
  ·split at h
   ·rename_i h1 bA o aR Yt l8
    split at h
    ·rename_i q1
     subst q1
     split at h
     ·rename_i h2 e2 q bn qO yW
      split at h
      ·rename_i q2
       subst q2
       split at h
       ·rename_i aP hQ ids Yj
        split at h
        ·rename_i V dh bX kI hk
         obtain⟨a5,df,g9,oz,aa1,GP,h⟩:=h
         cases df;cases g9;cases oz;cases aa1;subst GP;subst Yt;subst qO;subst kI
         obtain⟨G,e,_⟩:=aO V dh _ _ hk
         refine⟨_,_,_,h,⟨G,e⟩,?_,a5,hk⟩
         rw[rL hk]
         have iZ:s.gu=[(s.get (bC 0)).eo,(s.get (bC 1)).eo,(s.get (bC 2)).eo,(s.get (bC 3)).eo]:=by unfold TS.gu;rw[a5];rfl
         rw[iZ,pO,l8,yW,Yj];rfl
        ·exact h.elim
       ·exact h.elim
      ·exact h.elim
     ·exact h.elim
    ·exact h.elim
   ·exact h.elim
  ·exact h.elim
 ·exact h.elim
structure sA (P:Program) where
 f:FuncId
 jr:List n1
 rs:List bI
 pre:c7 (n1.es jr)→Frame→Prop
 fn:c7 (n1.es jr)→Frame→Frame
 aG:c7 (n1.es jr)→Frame→c7 rs
 ok: ∀hg x F,pre x F→TF P f hg (yw hg jr x) F (fn x F) (k0 rs (aG x F))
def lY:(l:List n1)→List TV→c7 (n1.es l)
 | [],_=>()
 | .v e::r,v::vs=>(W5 e v,lY r vs)
 | .fr::r,_::vs=>lY r vs
 | .w::r,v::vs=>((match v with
  | .ptr _ _ i _ _=>i
  | _=>(0:Int)),lY r vs)
 | .v e::r,[]=>(e.uO.default,lY r [])
 | .fr::r,[]=>lY r []
 | .w::r,[]=>((0:Int),lY r [])
def Bj {P:Program}:List (sA P)→FuncId→(sA P→aW)→aW→aW
 | [],_,_,t=>t
 | c::r,f,K,t=>match Nat.beq c.f f with
  | true=>K c
  | false=>Bj r f K t
def DS {P:Program} (c:sA P) (args:List TV) (s:TS) (K:TV→TS→aW):aW:=EN s fun g F ids=>
 .eq (cS args) (yw g c.jr (lY c.jr args)) (.eq ((cS args).all e6&&(cS args).all j5) true (.p (c.pre (lY c.jr args) F) (.all (List Nat) fun dh=>
  let s':=s.add ((gd,.u)::w7 g dh (c.fn (lY c.jr args) F)) s.vs s.br
  .eq s'.cw s.cw (.eq (xc (k0 c.rs (c.aG (lY c.jr args) F))) true (K (CR c.rs (c.aG (lY c.jr args) F)) s')))))
theorem abL (hg:Nat) (ids:List Nat) (F:Frame) (s:TS):let s':=s.add ((gd,.u)::w7 hg ids F) s.vs s.br
  s'.get (bC 0)= .eI hg (CT F)∧s'.get (bC 1)= .blk 0 .bool F.av F.av.length rfl∧s'.get (bC 2)= .blk 0 .gK F.au F.au.length rfl∧s'.get (bC 3)= .kz 0 4 ids∧s'.get dL= .g4 F.O ids F.O.length rfl∧s'.get gd= .u:=by
 intro s'
 have aU:gd≠bC 0∧gd≠bC 1∧gd≠bC 2∧gd≠bC 3∧gd≠dL:=by unfold gd bC dL;omega
 have e: ∀k,s'.get k=fW ((gd,.u)::w7 hg ids F) k (s.get k):=fun k=>TS.iX ..
 refine⟨?_,?_,?_,?_,?_,?_⟩<;>rw[e]<;>rfl
theorem UG [Z:FZ] {P:Program} {n:Nat} (aF:n≤1000000) {c:sA P} {args:List TV} {s:TS} {K:TV→TS→aW} {R:Exit→TS→Prop} {Kp:AV→List (Nat×List AV)→List Blk→Prop} (aO:Fits s)
  (hK: ∀v s' (Z':FZ),(K v s').den R→ @Fits Z' s'→s'.tT n=s.tT n→Kp v.bE s'.cw (@TS.aJ Z' n s').H) (h:(DS c args s K).den R):lu P c.f (cS args) (s.aJ n).L (s.aJ n).H Kp:=by
 unfold DS at h
 obtain⟨g,F,ids,bY,h1,h2,aP,_⟩:=WZ (n:=n) aO h
 obtain⟨df,g9,oz,hk⟩:=bY
 simp only[Bool.and_eq_true] at g9
 refine .inr (.inr (.inl ⟨g9.1,g9.2,?_⟩))
 rw[h2,df]
 refine(c.ok g _ F oz Z ids h1).mono fun r H' aj=> ?_
 obtain⟨rfl,Z',dh,q1,rfl⟩:=aj
 obtain⟨GP,aa2,hk⟩:=hk dh
 refine⟨aa2,?_⟩
 obtain⟨aB,aR,bn,bV,cL,jf⟩:=abL g dh (c.fn (lY c.jr args) F) s
 have oo: @Fits Z' (s.add ((gd,.u)::w7 g dh (c.fn (lY c.jr args) F)) s.vs s.br):=by
  intro V3 B3 p0 BM aP
  rw[cL] at aP
  cases aP
  refine⟨q1.1,q1.2,fun id xs hx=> ?_⟩
  rw[jf] at hx;cases hx
 have:=hK _ _ Z' hk oo (z8 aF fun p aI=>by
  simp only[w7,List.mem_cons,List.not_mem_nil,or_false] at aI
  rcases aI with rfl | rfl | rfl | rfl | rfl | rfl
  ·show 1000000≤gd;unfold gd;omega
  ·show 1000000≤bC 0;unfold bC;omega
  ·show 1000000≤bC 1;unfold bC;omega
  ·show 1000000≤bC 2;unfold bC;omega
  ·show 1000000≤bC 3;unfold bC;omega
  ·exact Nat.le_refl _)
 rw[GP,HW,@rL Z' n _ _ _ _ _ cL] at this
 have iZ: @TS.gu Z' (s.add ((gd,.u)::w7 g dh (c.fn (lY c.jr args) F)) s.vs s.br)=[@TV.eo Z' (.eI g (CT (c.fn (lY c.jr args) F))),@TV.eo Z' (.blk 0 .bool (c.fn (lY c.jr args) F).av _ rfl),@TV.eo Z' (.blk 0 .gK (c.fn (lY c.jr args) F).au _ rfl),@TV.eo Z' (.kz 0 4 dh)]:=by
  rw[←aB,←aR,←bn,←bV]
  show(List.range s.br).map _=_
  rw[aP];rfl
 rw[iZ] at this
 exact this
inductive fQ where
 | v (e:bI)
 | p
def fQ.es:List fQ→List bI
 | []=>[]
 | .v e::r=>e::fQ.es r
 | .p::r=>fQ.es r
def jX (g:Nat):(l:List fQ)→c7 (fQ.es l)→List AV
 | [],_=>[]
 | .v e::r,x=>oa e x.1::jX g r x.2
 | .p::r,x=> .ptr 0 g 0 0::jX g r x
structure lr (P:Program) where
 f:FuncId
 ce:bI
 jr:List fQ
 rs:List bI
 pre:c7 (fQ.es jr)→ce.T→Prop
 fn:c7 (fQ.es jr)→ce.T→ce.T
 aG:c7 (fQ.es jr)→ce.T→c7 rs
 ok: ∀g x c,pre x c→iV P f g (jX g jr x) (cb false ce c) (cb false ce (fn x c)) (k0 rs (aG x c))
def Pv:List fQ→List TV→TV
 | .p::_,v::_=>v
 | .v _::r,_::vs=>Pv r vs
 | _,_=> .u
def Fa:List fQ→Bool
 | []=>false
 | .p::_=>true
 | .v _::r=>Fa r
def H4:TS:=⟨[],[],[],0⟩
def AS (p:AV):(l:List fQ)→List TV→(c7 (fQ.es l)→List Prop→aW)→aW
 | [],[],K=>K () []
 | .v e::r,v::vs,K=>conv H4 e v fun x o=>AS p r vs fun y lH=>K (x,y) (o++lH)
 | .p::r,v::vs,K=> .eq v.bE p (AS p r vs K)
 | _,_,_=> .no
def ab1 (e:bI):Bool:=e.o8
def DZ {P:Program} (c:lr P) (args:List TV) (p:AV) (cells:List TV) (K:TV→c.ce.T→aW):aW:=
 .eq (cS cells) (cb false c.ce (c.ce.mk (oV c.ce.kN cells))) (.eq (Fa c.jr&&ab1 c.ce&&(cS args).all e6) true (AS p c.jr args fun x o=>
  Cr (o++[c.pre x (c.ce.mk (oV c.ce.kN cells))]) (K (CR c.rs (c.aG x (c.ce.mk (oV c.ce.kN cells)))) (c.fn x (c.ce.mk (oV c.ce.kN cells))))))
def D0 {P:Program} (c:lr P) (args:List TV) (s:TS) (K:TV→TS→aW):aW:=match Pv c.jr args with
 | .ptr b g _ _ _=>(match s.get (bC b) with
  | .eI dK cells=>(match Nat.blt b s.br with
   | true=> .eq dK g (DZ c args (.ptr b g 0 0) cells fun v y=>
     let s':=s.gO b s.br (.eI g (gI false c.ce y))
     .eq s'.cw s.cw (K v s'))
   | false=> .no)
  | _=> .no)
 | .lp v _=>(match kP s.vs v with
  | some m=>DZ c args (.fG v 0) (hW s v 0 m) fun w y=>
    let s':=s.add (ua v 0 (gI false c.ce y)) s.vs s.br
    .eq s'.cw (lg s.cw v (cb false c.ce y)) (.eq (pw (ua v 0 (gI false c.ce y))) true (K w s'))
  | none=> .no)
 | _=> .no
def Bk {P:Program}:List (lr P)→FuncId→(lr P→aW)→aW→aW
 | [],_,_,t=>t
 | c::r,f,K,t=>match Nat.beq c.f f with
  | true=>K c
  | false=>Bk r f K t
theorem La {P:Program} {f:FuncId} {K:lr P→aW} {t:aW} {R:Exit→TS→Prop}: ∀{qf:List (lr P)},(Bk qf f K t).den R→(∃m,m.f=f∧(K m).den R)∨t.den R
 | [],h=> .inr h
 | c::r,h=>by
  unfold Bk at h
  split at h
  ·rename_i hf;exact .inl ⟨c,Nat.eq_of_beq_eq_true hf,h⟩
  ·exact La h
theorem A4 {e:bI} (h:e.o8=true) (x:e.T):(cb false e x).all uP=true∧(cb false e x).all jD=true:=by cases e<;>first | exact⟨rfl,rfl⟩ | cases h
theorem DY {p:AV} {g:Nat} {R:Exit→TS→Prop}: ∀{l:List fQ} {vs:List TV} {K:c7 (fQ.es l)→List Prop→aW},(AS p l vs K).den R→ ∃x o,(K x o).den R∧((∀φ∈o,φ)→aD (tM p (.ptr 0 g 0 0)) (cS vs) (jX g l x))∧(Fa l=true→p∈cS vs)
 | [],[],K,h=>⟨(),[],h,fun _=>aD.nil,fun h=>by cases h⟩
 | .v e::r,v::vs,K,h=>by
  letI Z:FZ:=⟨[],[]⟩
  obtain⟨x,o,h,df⟩:=DX (n:=0) (Fits.none (s:=H4) rfl) (show(conv H4 e v _).den R from h)
  obtain⟨y,lH,h,g9,oz⟩:=DY (l:=r) h
  exact⟨(x,y),o++lH,h,fun aC=>aD.cons (.inr (df fun φ fb=>aC φ (List.mem_append_left _ fb))) (g9 fun φ fb=>aC φ (List.mem_append_right _ fb)),fun aI=>List.mem_cons_of_mem _ (oz aI)⟩
 | .p::r,v::vs,K,h=>by
  obtain⟨e,h⟩:=h
  obtain⟨y,lH,h,g9,oz⟩:=DY (l:=r) h
  exact⟨y,lH,h,fun aC=>aD.cons (.inl ⟨e,rfl⟩) (g9 aC),fun _=>by rw[cS,e];exact List.mem_cons_self ..⟩
 | [],_::_,K,h=>h.elim
 | .v _::_,[],K,h=>h.elim
 | .p::_,[],K,h=>h.elim
theorem Kw {P:Program} {c:lr P} {args:List TV} {p:AV} {cells:List TV} {K:TV→c.ce.T→aW} {R:Exit→TS→Prop} (g:Nat) (h:(DZ c args p cells K).den R):
  ∃ez x y t,(K t y).den R∧(cS args).all e6=true∧cS cells=cb false c.ce x∧c.ce.o8=true∧p∈cS args∧aD (tM p (.ptr 0 g 0 0)) (cS args) ez∧iV P c.f g ez (cb false c.ce x) (cb false c.ce y) t.bE:=by
 obtain⟨h1,h2,h⟩:=h
 simp only[Bool.and_eq_true] at h2
 obtain⟨x,o,h,g9,oz⟩:=DY (g:=g) h
 obtain⟨aC,h⟩:=O3 h
 refine⟨_,_,_,_,h,h2.2,h1,h2.1.2,oz h2.1.1,g9 fun φ fb=>aC φ (List.mem_append_left _ fb),?_⟩
 rw[HW]
 exact c.ok g x _ (aC _ (List.mem_append_right _ (List.mem_singleton.2 rfl)))
theorem CM {c:List TV} {e:bI} {x:e.T} (h:cS c=cb false e x):c.length=(cb false e x).length:=by rw[←h,n4,List.length_map]
theorem UM [Z:FZ] {P:Program} {n:Nat} (aF:n≤1000000) {c:lr P} {args:List TV} {s:TS} {K:TV→TS→aW} {R:Exit→TS→Prop} {Kp:AV→List (Nat×List AV)→List Blk→Prop} (aO:Fits s)
  (hK: ∀v s' (Z':FZ),(K v s').den R→ @Fits Z' s'→s'.tT n=s.tT n→Kp v.bE s'.cw (@TS.aJ Z' n s').H) (h:(D0 c args s K).den R):lu P c.f (cS args) (s.aJ n).L (s.aJ n).H Kp:=by
 unfold D0 at h
 split at h
 ·rename_i b g i m col aI
  split at h
  ·rename_i dK cells hg
   split at h
   ·rename_i hb
    have hb:b<s.br:=by rw[←Nat.blt_eq];exact hb
    obtain⟨e,h⟩:=h
    subst e
    obtain⟨ez,x,y,t,bY,h1,h2,aP,a8,cs,cT⟩:=Kw dK h
    obtain⟨b3,bY⟩:=bY
    refine .inr (.inr (.inr ⟨h1,ez,cb false c.ce x,cb false c.ce y,t.bE,(A4 aP x).1,(A4 aP y).2,.inl ⟨b,dK,?_,a8,cs,cT,?_⟩⟩))
    ·rw[rp hb,hg]
     show some (Blk.mk dK cells.length [cS cells])=_
     rw[CM h2,h2]
    ·have:=hK _ _ Z bY (qw aO) (qv aF)
     rw[b3,tY hb] at this
     have bA:TV.eo (.eI dK (gI false c.ce y))=Blk.mk dK (cb false c.ce x).length [cb false c.ce y]:=by
      show Blk.mk dK (gI false c.ce y).length [cS (gI false c.ce y)]=_
      rw[CM (v5 false c.ce y),v5,rK,rK]
     rw[bA] at this
     exact this
   ·exact h.elim
  ·exact h.elim
 ·rename_i v col aI
  split at h
  ·rename_i m hm
   obtain⟨ez,x,y,t,bY,h1,h2,aP,a8,cs,cT⟩:=Kw 0 h
   obtain⟨b3,hb,bY⟩:=bY
   refine .inr (.inr (.inr ⟨h1,ez,cb false c.ce x,cb false c.ce y,t.bE,(A4 aP x).1,(A4 aP y).2,.inr ⟨v,?_,a8,cs,cT,?_⟩⟩))
   ·rw[vu,hm,←h2];rfl
   ·have:=hK _ _ Z bY (yd hb aO) (yc aF hb)
    rw[b3,yb hb] at this
    exact this
  ·exact h.elim
 ·exact h.elim
structure qk (P:Program) where
 len:List Nat
 pf:List (sA P)
 Df:List (lr P)
def Jk (P:Program) (n:Nat) (t:TypeId) (b g:Nat) (i:Int) (m c:Nat) (v:TV) (s:TS) (w:TV) (K:TS→aW):aW:=match w with
 | .kz dK hQ ids=>(match xf v with
  | true=>Jl P t b g i c v s dK hQ ids K
  | false=> .no)
 | .eI dK ba=>SS P t b g i c v s dK ba K
 | _=>Jh P n t b g i m c v s K
section
variable {P:Program} (cf:hl P) (s:TS)
def Dk (eA:qk P) (o:Oper) (K:TV→TS→aW):aW:=match o.op with
 | .store t a v=>(match cP cf.n s a with
  | .lp x c=>pE (cP cf.n s v) fun w=>yE cf s o (.tup []) (ua x c (qy w)) s.vs K
  | .ptr b g i m c=>pE (cP cf.n s v) fun w=>Jk P cf.n t b g i m c w s (s.get (bC b)) fun s'=>K (.tup []) s'
  | .wu w ids m j=>pE (cP cf.n s v) fun x=>z_ P t w ids m j x s fun s'=>K (.tup []) s'
  | _=> .no)
 | .alloc e=>(match o.dst with
  | some d=>yE cf s o (.lp d 0) (ua d 0 (Ao P e)) ((d,(Ao P e).length)::s.vs) K
  | none=> .no)
 | .box _ x=>(match o.dst with
  | some d=>pE (cP cf.n s x) fun w=>yE cf s o (.lp d 0) (ua d 0 (qy w)) ((d,(qy w).length)::s.vs) K
  | none=> .no)
 | .makeSlice t l c=>(match iv s with
  | true=>w6 cf.yu t fun e=>He P cf.n t e (cP cf.n s l) (cP cf.n s c) s K
  | false=>Hd P t (cP cf.n s l) (cP cf.n s c) s K)
 | .buildSlice t m ps=>w6 cf.yu t fun e=>Cc s e (ps.toList.map fun p=>cP cf.n s p.2) fun xs=>rQ (fun H Q=>jY P o (fun x=>(cP cf.n s x).bE) s.cw H Q) (fun v=>K v s) (.v (Ow e xs (ps.toList.map fun p=>cP cf.n s p.2)))
 | .binOp op t x y _=>(match cP cf.n s x with
  | .l e xs _ _=>(match op with
   | .eql=> .eq (qW y&&(jp P t).isSome) true (.two (.j3 (xs≠[]) (K (.b .f) s)) (.j3 (xs=[]) (.all Bool fun b=>K (.b (.v b)) s)))
   | _=> .no)
  | _=>so cf s o fun v=>K v s)
 | .call c=>(match c.callee with
  | .builtin b=>(match b with
   | .len=>(match c.args.toList,c.argTypes.toList with
    | [x],[t]=>(match cP cf.n s x with
     | .l e xs eD fr=>(match o.dst with
      | some d=>(match eA.len.any (Nat.beq d) with
       | true=>so cf s o fun v=>K v s
       | false=> .eq (j4 P t (TV.l e xs eD fr).bE) true (.j3 (xs.length≤4611686018427387904) (K (.i .i64 xs.length) s)))
      | none=> .no)
     | _=>so cf s o fun v=>K v s)
    | _,_=> .no)
   | .append=>(match c.args.toList,c.argTypes.toList with
    | [x,y],[t,t2]=>DB P cf.n t t2 (cP cf.n s x) (cP cf.n s y) s K
    | _,_=> .no)
   | _=> .no)
  | .value f=>(match cP cf.n s f with
   | .fn g caps=>Bj eA.pf g (fun m=>DS m (c.args.toList.map (cP cf.n s)++caps) s K) (Bk eA.Df g (fun m=>D0 m (c.args.toList.map (cP cf.n s)++caps) s K) (so cf s o fun v=>K v s))
   | _=> .no)
  | _=> .no)
 | _=>so cf s o fun v=>K v s
end
section
variable {P:Program} {cf:hl P} {s:TS} {R:Exit→TS→Prop}
variable {K:TV→TS→aW} {Kp:AV→List (Nat×List AV)→List Blk→Prop}
theorem agc {t:TypeId} {m:Nat} {ids:List Nat} {w j:Int} {v:TV} {K:TS→aW} (h:(z_ P t w ids m j v s K).den R):e6 v.bE=true:=by
 unfold z_ at h
 split at h
 ·obtain⟨_,_,_,h⟩:=h
  split at h
  ·rfl
  ·exact h.elim
 ·exact h.elim
end
section
variable {P:Program} {cf:hl P} {s:TS} {R:Exit→TS→Prop}
variable {K:TV→TS→aW} {Kp:AV→List (Nat×List AV)→List Blk→Prop}
theorem K_ {f:FuncId} {K:sA P→aW} {t:aW}: ∀{qf:List (sA P)},(Bj qf f K t).den R→(∃m,m.f=f∧(K m).den R)∨t.den R
 | [],h=> .inr h
 | c::r,h=>by
  unfold Bj at h
  split at h
  ·rename_i hf;exact .inl ⟨c,Nat.eq_of_beq_eq_true hf,h⟩
  ·exact K_ h
end
section
variable [Z:FZ] {P:Program} {cf:hl P} {s:TS} {R:Exit→TS→Prop}
variable {K:TV→TS→aW} {Kp:AV→List (Nat×List AV)→List Blk→Prop}
theorem agf (aF:cf.n≤1000000) (aO:Fits s) {t:TypeId} {b g m c:Nat} {i:Int} {v:TV} {K:TS→aW} {Kp:List (Nat×List AV)→List Blk→Prop} (hK: ∀s' (Z':FZ),(K s').den R→ @Fits Z' s'→s'.tT cf.n=s.tT cf.n→Kp s'.cw (@TS.aJ Z' cf.n s').H)
  (h:(Jk P cf.n t b g i m c v s (s.get (bC b)) K).den R):e7 (e6 v.bE) (ml P t (.ptr b g i.toNat c) v.bE (s.aJ cf.n).L (s.aJ cf.n).H Kp):=by
 unfold Jk at h
 split at h
 ·rename_i dK hQ ids hg
  split at h
  ·rename_i hv
   exact Co (Cn hv) (agi aF aO hg hK h)
  ·exact h.elim
 ·rename_i dK ba hg
  have aP:(Nat.blt b s.br&&xf v&&vt P t v.bE&&Nat.ble (c+(fi v.bE).length) ba.length)=true:=h.2.2.1
  simp only[Bool.and_eq_true] at aP
  exact Co (Cn aP.1.1.2) (agh aF aO hg hK h)
 ·exact af7 aF aO hK h
theorem Tf (aF:cf.n≤1000000) (aO:Fits s) {eA:qk P} {o:Oper} (hK:vQ cf s R K Kp) (h:(Dk cf s eA o K).den R):kg P [] o (cv (s.aJ cf.n).T) (s.aJ cf.n).L (s.aJ cf.n).H Kp:=by
 have zM: ∀v,(K v s).den R→Kp v.bE (s.aJ cf.n).L (s.aJ cf.n).H:=fun v hv=>hK v s Z hv aO rfl
 have rd:(so cf s o fun v=>K v s).den R→jY P o (cv (s.aJ cf.n).T) (s.aJ cf.n).L (s.aJ cf.n).H fun r=>Kp r (s.aJ cf.n).L (s.aJ cf.n).H:=fun h=>PV aO (Kp:=fun r=>Kp r (s.aJ cf.n).L (s.aJ cf.n).H) zM h
 unfold Dk at h
 split at h
 ·rename_i t a v fU
  split at h
  ·rw[qE] at h;exact EZ aF aO hK h
  ·rename_i b g i m c a4
   rw[qE] at h
   obtain⟨dst,op,ty,pos,after,guard⟩:=o
   cases fU
   show e7 (e6 (cv (s.aJ cf.n).T v)) (ml P t (cv (s.aJ cf.n).T a) (cv (s.aJ cf.n).T v) _ _ _)
   rw[k9]
   show e7 (e6 (cP cf.n s v).bE) (ml P t (cP cf.n s a).bE (cP cf.n s v).bE _ _ _)
   rw[a4]
   exact agf aF aO (fun s' Z' h1 hf h2=>hK (.tup []) s' Z' h1 hf h2) h
  ·rename_i w ids m j a4
   rw[qE] at h
   obtain⟨dst,op,ty,pos,after,guard⟩:=o
   cases fU
   show e7 (e6 (cv (s.aJ cf.n).T v)) (ml P t (cv (s.aJ cf.n).T a) (cv (s.aJ cf.n).T v) _ _ _)
   rw[k9]
   show e7 (e6 (cP cf.n s v).bE) (ml P t (cP cf.n s a).bE (cP cf.n s v).bE _ _ _)
   rw[a4]
   refine Co ?_ (agd aF aO (fun s' Z' h1 hf h2=>hK (.tup []) s' Z' h1 hf h2) h)
   exact agc h
  ·exact h.elim
 ·split at h
  ·exact EZ aF aO hK h
  ·exact h.elim
 ·split at h
  ·rw[qE] at h;exact EZ aF aO hK h
  ·exact h.elim
 ·rename_i t l c fU
  obtain⟨dst,op,ty,pos,after,guard⟩:=o
  cases fU
  show w8 P t (cv (s.aJ cf.n).T l) (cv (s.aJ cf.n).T c) _ _ _
  rw[k9]
  split at h
  ·obtain⟨e,h⟩:=G4 h
   exact abR aF aO hK h
  ·exact abP aF aO hK h
 ·rename_i t m ps fU
  obtain⟨e,h⟩:=G4 h
  obtain⟨xs,h⟩:=G3 (n:=cf.n) aO h
  refine acO fU ?_
  rw[k9]
  exact sT (F:=fun H Q=>jY P o _ _ H Q) (s.aJ cf.n).H (Kp:=fun r=>Kp r (s.aJ cf.n).L (s.aJ cf.n).H) zM h
 ·rename_i op t x y ty2 fU
  split at h
  ·rename_i e xs eD fr hx
   split at h
   ·obtain⟨h1,h2,aP⟩:=h
    obtain⟨dst,op,ty,pos,after,guard⟩:=o
    cases fU
    show sI P .eql t (cv (s.aJ cf.n).T x) _ (qW y) _
    rw[k9]
    show sI P .eql t (cP cf.n s x).bE _ (qW y) _
    rw[hx]
    show if qW y=true∧(jp P t).isSome=true then _ else _
    rw[if_pos (by simpa using h1)]
    refine⟨fun cm=> ?_,fun he b=> ?_⟩
    ·exact zM (.b .f) (h2 fun e=>cm (by rw[e];rfl))
    ·exact zM (.b (.v b)) (aP (by simpa using he) b)
   ·exact h.elim
  ·refine PW (rd h) (fun c=>by rw[fU];intro e;cases e) (fun t m ps=>by rw[fU];intro e;cases e)
 ·rename_i c fU
  obtain⟨callee,args,argTypes⟩:=c
  split at h
  ·rename_i b hb
   cases hb
   split at h
   ·split at h
    ·rename_i x t h1 h2
     simp only at h1 h2
     split at h
     ·rename_i e xs eD fr hx
      split at h
      ·split at h
       ·exact HT fU (rd h)
       ·obtain⟨bA,h⟩:=h
        obtain⟨dst,op,ty,pos,after,guard⟩:=o
        cases fU
        show(match args.toList,argTypes.toList with
         | [x],[t]=>e7 (j4 P t (cv (s.aJ cf.n).T x)) (r_ (cv (s.aJ cf.n).T x) fun r=>Kp r _ _)
         | _,_=>False)
        simp only[h1,h2]
        rw[k9]
        show e7 (j4 P t (cP cf.n s x).bE) (r_ (cP cf.n s x).bE _)
        rw[hx,bA]
        show(List.map _ _).length≤_→Kp (.int .i64 ((List.map _ _).length:Nat)) _ _
        rw[List.length_map]
        exact fun aL=>zM _ (h aL)
      ·exact h.elim
     ·exact HT fU (rd h)
    ·exact h.elim
   ·split at h
    ·rename_i x y t t2 h1 h2
     simp only at h1 h2
     obtain⟨dst,op,ty,pos,after,guard⟩:=o
     cases fU
     show(match args.toList,argTypes.toList with
      | [s',x],[t,t2]=>e6 (cv (s.aJ cf.n).T s')=true∧e6 (cv (s.aJ cf.n).T x)=true∧tW P t t2 (cv (s.aJ cf.n).T s') (cv (s.aJ cf.n).T x) _ _ _
      | _,_=>False)
     simp only[h1,h2]
     rw[k9]
     exact TU aF aO hK h
    ·exact h.elim
   ·exact h.elim
  ·rename_i f hf
   cases hf
   split at h
   ·rename_i g caps hc
    rcases K_ h with⟨m,e,hm⟩ | hm
    ·subst e
     obtain⟨dst,op,ty,pos,after,guard⟩:=o
     cases fU
     show l0 (cv (s.aJ cf.n).T f) fun g caps=>lu P g (args.toList.map (cv (s.aJ cf.n).T)++caps) _ _ Kp
     rw[k9]
     show l0 (cP cf.n s f).bE fun g caps=>lu P g (args.toList.map (fun x=>(cP cf.n s x).bE)++caps) _ _ Kp
     rw[hc]
     have:=UG (n:=cf.n) aF aO (fun v s' Z' h1 h2 aP=>hK v s' Z' h1 h2 aP) hm
     rw[n4,List.map_append,List.map_map] at this
     show lu P m.f (_++cS caps) _ _ Kp
     rw[n4];exact this
    ·rcases La hm with⟨m,e,aI⟩ | hm
     ·subst e
      obtain⟨dst,op,ty,pos,after,guard⟩:=o
      cases fU
      show l0 (cv (s.aJ cf.n).T f) fun g caps=>lu P g (args.toList.map (cv (s.aJ cf.n).T)++caps) _ _ Kp
      rw[k9]
      show l0 (cP cf.n s f).bE fun g caps=>lu P g (args.toList.map (fun x=>(cP cf.n s x).bE)++caps) _ _ Kp
      rw[hc]
      have:=UM (n:=cf.n) (Kp:=Kp) aF aO (fun v s' Z' h1 h2 aP=>hK v s' Z' h1 h2 aP) aI
      rw[n4,List.map_append,List.map_map] at this
      show lu P m.f (_++cS caps) _ _ Kp
      rw[n4];exact this
     ·exact HT fU (rd hm)
   ·exact h.elim
  ·exact h.elim
 ·rename_i h1 h2 aP a8 cs cT gk
  exact PW (rd h) (fun c=>gk c) (fun t m ps=>cs t m ps)
end
def uV (b:Bool):TV:= .b (match b with
 | true=> .t
 | false=> .f)
theorem Ox (b:Bool):(uV b).bE= .bool b:=by cases b<;>rfl
def C2 (x:eL) (s:TS) (K:Bool→TS→aW):aW:=match x with
 | .t=>K true s
 | .f=>K false s
 | x=> .jc x s (K true ⟨[],s.T++s.B,s.vs,s.br⟩) (K false ⟨[],s.T++s.B,s.vs,s.br⟩)
def De (d:Nat) (v:TV):TV:=match v with
 | .b x=>(match x with
  | .v p=> .b (.at d p)
  | x=> .b x)
 | v=>v
theorem agm (d:Nat) (v:TV):(De d v).bE=v.bE:=by
 unfold De
 split
 ·split<;>rfl
 ·rfl
def kt (n:Nat) (s:TS) (d:Option Nat) (v:TV):TS:=match d with
 | none=>s
 | some d=>match Nat.blt d n with
  | true=>s.put d (De d v)
  | false=>s
theorem af5 [FZ] {n:Nat} {s s':TS} (hv:s'.vs=s.vs) (hb:s'.br=s.br) (h: ∀k,s'.get k=s.get k):s'.aJ n=s.aJ n:=by
 have hc: ∀v c m,hW s' v c m=hW s v c m:=by
  intro v c m
  induction m generalizing c with
  | zero=>rfl
  | succ m bS=>rw[hW,hW,h _,bS]
 have aV:=Jg (n:=n) hb (fun b=>h _) (h dL)
 have cj:s'.tT n=s.tT n:=by unfold TS.tT;simp only[h]
 have b3:s'.cw=s.cw:=by unfold TS.cw;simp only[hv,hc]
 show(⟨s'.tT n,s'.cw,(s'.aJ n).H⟩:St)=_
 rw[cj,b3,aV];rfl
theorem SH (s:TS) (k:Nat):TS.get ⟨[],s.T++s.B,s.vs,s.br⟩ k=s.get k:=by unfold TS.get;simp only;rw[sc];rfl
theorem af2 [FZ] {n:Nat} (s:TS):TS.aJ n ⟨[],s.T++s.B,s.vs,s.br⟩=s.aJ n:=af5 rfl rfl (SH s)
theorem Jf [FZ] {n:Nat} {x:eL} {s:TS} {K:Bool→TS→aW} {R:Exit→TS→Prop} (h:(C2 x s K).den R): ∃s',s'.aJ n=s.aJ n∧(∀k,s'.get k=s.get k)∧(K x.den s').den R:=by
 have key:(aW.jc x s (K true ⟨[],s.T++s.B,s.vs,s.br⟩) (K false ⟨[],s.T++s.B,s.vs,s.br⟩)).den R→ ∃s',s'.aJ n=s.aJ n∧(∀k,s'.get k=s.get k)∧(K x.den s').den R:=fun h=>by
  refine⟨_,af2 s,SH s,?_⟩
  ·cases hx:x.den with
   | true=>exact h.1 hx
   | false=>exact h.2 hx
 cases x with
 | t=>exact⟨s,rfl,fun _=>rfl,h⟩
 | f=>exact⟨s,rfl,fun _=>rfl,h⟩
 | _=>exact key h
theorem CE {s:TS} {d k:Nat} {v:TV} (h:d<1000000) (hk:1000000≤k):(s.put d v).get k=s.get k:=by rw[TS.EW,if_neg (by omega)]
theorem HD [FZ] {s:TS} {d:Nat} {v:TV} (h:d<1000000) (f:Fits s):Fits (s.put d v):=f.congr fun k h1 _=>CE h h1
theorem Py {s:TS} {d:Nat} {v:TV} (h:d<1000000):(s.put d v).cw=s.cw:=by
 have hc: ∀e9 c m,hW (s.put d v) e9 c m=hW s e9 c m:=by
  intro e9 c m
  induction m generalizing c with
  | zero=>rfl
  | succ m bS=>rw[hW,hW,CE h (by unfold eG;omega),bS]
 show s.vs.map _=s.vs.map _
 simp only[hc]
theorem Px [FZ] {n:Nat} {s:TS} {d:Nat} {v:TV} (h:d<1000000):((s.put d v).aJ n).H=(s.aJ n).H:=Jg rfl (fun b=>CE h (by unfold bC;omega)) (CE h (by unfold dL;omega))
theorem zF [FZ] {n:Nat} (aF:n≤1000000) (s:TS) (d:Option Nat) (v:TV):(kt n s d v).aJ n=⟨putA (s.aJ n).T d v.bE,(s.aJ n).L,(s.aJ n).H⟩:=by
 cases d with
 | none=>rfl
 | some d=>
  unfold kt
  simp only
  split
  ·rename_i bj
   have bj:d<n:=by rw[←Nat.blt_eq];exact bj
   rw[←agm d v]
   generalize De d v=v
   have cj:(s.put d v).tT n=(s.tT n).set d v.bE:=by
    apply List.ext_getElem?
    intro t
    show((List.range n).map fun t=>((s.put d v).get t).bE)[t]?=(((List.range n).map fun t=>(s.get t).bE).set d v.bE)[t]?
    rw[List.getElem?_set]
    simp only[List.getElem?_map,List.length_map,List.length_range]
    rcases Nat.lt_or_ge t n with h | h
    ·rw[List.getElem?_range h]
     simp only[Option.map_some]
     rw[TS.EW]
     by_cases e:d=t
     ·simp[e,h]
     ·simp[e]
    ·rw[List.getElem?_eq_none (l:=List.range n) (by simpa using h)]
     by_cases e:d=t
     ·omega
     ·simp[e]
   have b3:=Py (s:=s) (v:=v) (show d<1000000 by omega)
   have aV:=Px (n:=n) (s:=s) (v:=v) (show d<1000000 by omega)
   show(⟨(s.put d v).tT n,(s.put d v).cw,((s.put d v).aJ n).H⟩:St)=_
   rw[cj,b3,aV];rfl
  ·rename_i bj
   have bj: ¬d<n:=fun h=>by rw[←Nat.blt_eq] at h;rw[h] at bj;cases bj
   show s.aJ n=⟨(s.aJ n).T.set d v.bE,_,_⟩
   rw[List.set_eq_of_length_le]
   show((List.range n).map _).length≤d
   simp;omega
theorem zE [FZ] {n:Nat} (aF:n≤1000000) {s:TS} {d:Option Nat} {v:TV} (f:Fits s):Fits (kt n s d v):=by
 unfold kt
 split
 ·exact f
 ·split
  ·rename_i bj
   exact HD (by rw[Nat.blt_eq] at bj;omega) f
  ·exact f
theorem PD [FZ] {n:Nat} {s:TS} {t:Nat} {v:TV} (bu:t<1000000) (h:(s.get t).bE=v.bE):(s.put t v).aJ n=s.aJ n:=by
 have cj:(s.put t v).tT n=s.tT n:=by
  unfold TS.tT
  refine List.map_congr_left fun k _=> ?_
  rw[TS.EW];split
  ·rename_i e;subst e;exact h.symm
  ·rfl
 have b3:=Py (s:=s) (v:=v) bu
 have aV:=Px (n:=n) (s:=s) (v:=v) bu
 show(⟨(s.put t v).tT n,(s.put t v).cw,((s.put t v).aJ n).H⟩:St)=_
 rw[cj,b3,aV];rfl
section
variable {P:Program} (cf:hl P)
def Cy (c x y:Operand) (s:TS) (K:TV→TS→aW):aW:=match cP cf.n s c with
 | .b z=>C2 z s fun b s=>
  let s:=match c with
   | .tmp t=>s.put t (uV b)
   | _=>s
  pE (cP cf.n s (bif b then x else y)) fun v=>K v s
 | _=> .no
def Bn (ops:Array Oper) (o:Oper) (s:TS) (run skip:TS→aW):aW:=match o.guard with
 | none=>run s
 | some g=>match(ops[g.1]?).bind (·.dst) with
  | none=> .no
  | some t=>match cP cf.n s (.tmp t) with
   | .b z=>C2 z s fun b s=>bif b==g.2 then run (s.put t (uV b)) else skip (s.put t (uV b))
   | .tup c=>match c with
    | []=>skip s
    | _=> .no
   | _=> .no
def stepT (eA:qk P) (o:Oper) (s:TS) (K:TV→TS→aW):aW:=match o.op with
 | .pick c x y=>Cy cf c x y s K
 | _=>Dk cf s eA o K
def CS (eA:qk P) (ops:Array Oper):List Oper→TS→(TS→aW)→aW
 | [],s,K=>K s
 | o::r,s,K=>Bn cf ops o s (fun s=>stepT cf eA o s fun v s=>CS eA ops r (kt cf.n s o.dst v) K) (fun s=>CS eA ops r (kt cf.n s o.dst (.tup [])) K)
def EM (ops:Array Oper) (s:TS):List Nat→aW→aW
 | [],k=>k
 | i::r,k=> .eq ((opI ops i).guard.isNone&&(opI ops i).dst.isSome) true (.eq (fun(Z:FZ) H Q=>lx P (opI ops i) (fun x=>(cP cf.n s x).bE) s.cw (@TS.gu Z s++H) Q) (fun _ _ Q=>Q (match(opI ops i).dst with
  | some d=>(cP cf.n s (.tmp d)).bE
  | none=> .undef)) (EM ops s r k))
def tv (eA:qk P) (ops:Array Oper):List Item→TS→(TS→aW)→aW
 | [],s,K=>K s
 | x::r,s,K=>Bn cf ops (opI ops x.i) s
   (fun s=>match x.q with
    | true=>(match pW (opI ops x.i) with
     | true=>(match(opI ops x.i).dst with
      | some d=> .eq (fun H Q=>lx P (opI ops x.i) (fun x=>(cP cf.n s x).bE) s.cw H Q) (fun _ Q=>Q (.fG d 0)) (tv eA ops r (kt cf.n s (opI ops x.i).dst (.lp d 0)) K)
      | none=> .no)
     | false=>(match(opI ops x.i).op with
      | .pick c a b=>Cy cf c a b s fun v s=>tv eA ops r (kt cf.n s (opI ops x.i).dst v) K
      | _=>so cf s (opI ops x.i) fun v=>tv eA ops r (kt cf.n s (opI ops x.i).dst v) K))
    | false=>(match(opI ops x.i).op with
     | .pick _ _ _=> .no
     | _=>Dk cf s eA (opI ops x.i) fun v s=>EM cf ops s x.jF (tv eA ops r (kt cf.n s (opI ops x.i).dst v) K)))
   (fun s=>tv eA ops r (kt cf.n s (opI ops x.i).dst (.tup [])) K)
def Ap (P:Program) (ops:Array Oper):List Item→List (Nat×List TV)
 | []=>[]
 | x::r=>match x.q with
  | true=>(match(opI ops x.i).op with
   | .alloc e=>(match(opI ops x.i).dst with
    | some d=>(d,Ao P e)::Ap P ops r
    | none=>Ap P ops r)
   | _=>Ap P ops r)
  | false=>Ap P ops r
def JH:List (Nat×List TV)→List (Nat×TV)
 | []=>[]
 | (d,c)::r=>ua d 0 c++JH r
def Eb (eA:qk P) (ops:Array Oper) (ord:List Item) (kd:List (List Nat)) (s:TS) (K:TS→aW):aW:=
 let iF:=Ap P ops ord
 let s':=s.add (JH iF) (iF.map (fun p=>(p.1,p.2.length))++s.vs) s.br
 match pw (JH iF) with
 | false=> .no
 | true=> .eq (P.follows .mixedOrders) true (.eq kd.length ops.size (.eq (v8 ops ord (ye kd)) true (.eq (ord.all (·.lit)) true (.eq s'.cw (iF.map (fun p=>(p.1,cS p.2))++s.cw)
  (.eq (uc (iF.map fun p=>(p.1,cS p.2)) s.cw) true (.eq (tV ops s.cw ord) true (tv cf eA ops ord s' K)))))))
end
section
variable {P:Program} {cf:hl P} {R:Exit→TS→Prop}
theorem G9 {n t:Nat} {s:TS} {v:TV} (h:cP n s (.tmp t)=v) (hv:v≠ .u):t<n∧s.get t=v:=by
 have h:(match Nat.blt t n with
  | true=>s.get t
  | false=>TV.u)=v:=h
 split at h
 ·rename_i hb;exact⟨by rw[←Nat.blt_eq];exact hb,h⟩
 ·exact absurd h.symm hv
end
section
variable {P:Program} {cf:hl P} {R:Exit→TS→Prop}
theorem adm {T:List AV} {t:Nat} {a:AV} (h:T.getD t .undef=a):T.set t a=T∨a= .undef:=by
 by_cases aL:t<T.length
 ·left
  rw[List.getD_eq_getElem?_getD,List.getElem?_eq_getElem aL] at h
  have h:T[t]=a:=h
  rw[←h];exact List.set_getElem_self ..
 ·right;rw[←h,List.getD_eq_getElem?_getD,List.getElem?_eq_none (by omega)];rfl
end
section
variable {P:Program} {cf:hl P} {R:Exit→TS→Prop}
theorem aci {o:Oper} {T:List AV} {K:AV→Prop} {A2:Prop} (h: ∀c x y,o.op≠ .pick c x y):u_ true o T K A2=A2:=by
 unfold u_
 split
 ·rename_i c x y e;exact absurd e (h c x y)
 ·rfl
end
section
variable [Z:FZ] {P:Program} {cf:hl P} {R:Exit→TS→Prop}
theorem Lo (aF:cf.n≤1000000) {ops:Array Oper} {o:Oper} {s:TS} {run skip:TS→aW} {x y:List AV→Prop} (aO:Fits s) (hx: ∀s',Fits s'→s'.aJ cf.n=s.aJ cf.n→(run s').den R→x (s.aJ cf.n).T) (hy: ∀s',Fits s'→s'.aJ cf.n=s.aJ cf.n→(skip s').den R→y (s.aJ cf.n).T)
  (h:(Bn cf ops o s run skip).den R):oe ops true o (s.aJ cf.n).T x y:=by
 unfold Bn at h
 unfold oe
 split at h
 ·rename_i hg;rw[hg];exact hx s aO rfl h
 ·rename_i g hg
  obtain⟨j,cH⟩:=g
  rw[hg]
  simp only at h ⊢
  split at h
  ·exact h.elim
  ·rename_i t bu
   rw[bu]
   simp only
   have cj:(s.aJ cf.n).T.getD t .undef=(cP cf.n s (.tmp t)).bE:=by
    have:=congrFun (k9 cf.n s) (.tmp t);exact this
   split at h
   ·rename_i z qS
    rw[qS] at cj
    rw[cj]
    show py true z.den _ _
    obtain⟨aL,hp⟩:=G9 qS (fun e=>by cases e)
    obtain⟨s',bA,e2,h⟩:=Jf (n:=cf.n) h
    have oq:Fits (s'.put t (uV z.den)):=HD (by omega) (aO.congr fun k _ _=>e2 k)
    have r2:(s'.put t (uV z.den)).aJ cf.n=s.aJ cf.n:=by
     rw[PD (by omega) (by rw[e2,hp,Ox];rfl),bA]
    have k6: ∀b,z.den=b→(s.aJ cf.n).T.set t (.bool b)=(s.aJ cf.n).T:=fun b hb=>by
     rcases adm (show(s.aJ cf.n).T.getD t .undef= .bool b by rw[cj,←hb];rfl) with q | q
     ·exact q
     ·cases q
    cases pT:z.den with
    | true=>
     rw[pT] at h r2 oq
     show if cH=true then _ else _
     rw[k6 true pT]
     cases cH with
     | true=>rw[if_pos rfl];exact hx _ oq r2 h
     | false=>rw[if_neg (by simp)];exact hy _ oq r2 h
    | false=>
     rw[pT] at h r2 oq
     show if cH=true then _ else _
     rw[k6 false pT]
     cases cH with
     | true=>rw[if_pos rfl];exact hy _ oq r2 h
     | false=>rw[if_neg (by simp)];exact hx _ oq r2 h
   ·rename_i c qS
    rw[qS] at cj
    split at h
    ·rw[cj];exact hy s aO rfl h
    ·exact h.elim
   ·exact h.elim
theorem Pf (aF:cf.n≤1000000) {c x y:Operand} {s:TS} {K:TV→TS→aW} {Kp:AV→Prop} (aO:Fits s) (hK: ∀v s',Fits s'→s'.aJ cf.n=s.aJ cf.n→(K v s').den R→Kp v.bE) (h:(Cy cf c x y s K).den R):
  oQ (cv (s.aJ cf.n).T c) fun z=>py true z (Kp (cv (s.aJ cf.n).T x)) (Kp (cv (s.aJ cf.n).T y)):=by
 unfold Cy at h
 split at h
 ·rename_i z qS
  obtain⟨s',bA,e2,h⟩:=Jf (n:=cf.n) h
  simp only at h
  rw[qE] at h
  generalize BR:(match c with
   | .tmp t=>s'.put t (uV z.den)
   | _=>s')=s2 at h
  have dV:s2.aJ cf.n=s.aJ cf.n:=by
   rw[←BR,←bA]
   split
   ·rename_i t
    obtain⟨aL,hp⟩:=G9 qS (fun e=>by cases e)
    exact PD (by omega) (by rw[e2,hp,Ox];rfl)
   ·rfl
  have hf2:Fits s2:=by
   rw[←BR]
   split
   ·rename_i t
    obtain⟨aL,hp⟩:=G9 qS (fun e=>by cases e)
    exact HD (by omega) (aO.congr fun k _ _=>e2 k)
   ·exact aO.congr fun k _ _=>e2 k
  have:=hK _ _ hf2 dV h
  have aC: ∀o,(cP cf.n s2 o).bE=cv (s.aJ cf.n).T o:=fun o=>by rw[←dV,k9]
  rw[aC] at this
  have hc:cv (s.aJ cf.n).T c= .bool z.den:=by
   have:=congrFun (k9 cf.n s) c
   rw[this]
   show(cP cf.n s c).bE=_
   rw[qS];rfl
  rw[hc]
  show py true z.den _ _
  cases pT:z.den with
  | true=>rw[pT] at this;exact this
  | false=>rw[pT] at this;exact this
 ·exact h.elim
theorem af_ (aF:cf.n≤1000000) {eA:qk P} {o:Oper} {s:TS} {K:TV→TS→aW} {Kp:AV→List (Nat×List AV)→List Blk→Prop} (aO:Fits s) (hK:vQ cf s R K Kp) (h:(stepT cf eA o s K).den R):
  u_ true o (s.aJ cf.n).T (fun v=>Kp v (s.aJ cf.n).L (s.aJ cf.n).H) (kg P [] o (cv (s.aJ cf.n).T) (s.aJ cf.n).L (s.aJ cf.n).H Kp):=by
 unfold stepT at h
 split at h
 ·rename_i c x y fU
  unfold u_
  rw[fU]
  exact Pf aF (Kp:=fun v=>Kp v (s.aJ cf.n).L (s.aJ cf.n).H) aO (fun v s' hf e hv=>by
   have eT:s'.tT cf.n=s.tT cf.n:=congrArg St.T e
   have i_:s'.cw=s.cw:=congrArg St.L e
   have:=hK v s' Z hv hf eT
   rw[i_,e] at this;exact this) h
 ·rename_i cm
  rw[aci fun c x y=>cm c x y]
  exact Tf aF aO hK h
end
section
variable {P:Program} {cf:hl P} {R:Exit→TS→Prop}
theorem HY (aF:cf.n≤1000000) {eA:qk P} {ops:Array Oper} {K:TS→aW} {Kp:List AV→List (Nat×List AV)→List Blk→Prop} (hK: ∀s (Z:FZ),(K s).den R→ @Fits Z s→Kp (s.tT cf.n) s.cw (@TS.aJ Z cf.n s).H): ∀(l:List Oper) (Z:FZ) (s:TS),@Fits Z s→(CS cf eA ops l s K).den R→
  evOps P [] ops (l.map fun o=>(o,true)) (s.tT cf.n) s.cw (@TS.aJ Z cf.n s).H Kp
 | [],Z,s,aO,h=>hK s Z h aO
 | o::r,Z,s,aO,h=>by
  refine Lo (Z:=Z) aF aO (fun s' hf e h=> ?_) (fun s' hf e h=> ?_) h
  ·have i_:s'.cw=s.cw:=congrArg St.L e
   rw[←e,←i_]
   exact af_ (Z:=Z) aF (Kp:=fun v L' H'=>evOps P [] ops (r.map fun o=>(o,true)) (putA (s'.tT cf.n) o.dst v) L' H' Kp) hf (fun v s2 Z2 hv hf2 e2=>by
    have:=HY aF hK r Z2 _ (@zE Z2 _ aF _ _ _ hf2) hv
    have dV:= @zF Z2 cf.n aF s2 o.dst v
    have eT:(kt cf.n s2 o.dst v).tT cf.n=putA (s2.tT cf.n) o.dst v.bE:=congrArg St.T dV
    have Ei:(kt cf.n s2 o.dst v).cw=s2.cw:=congrArg St.L dV
    rw[eT,Ei,dV] at this
    rw[←e2];exact this) h
  ·have:=HY aF hK r Z _ (zE aF hf) h
   have dV:= @zF Z cf.n aF s' o.dst (.tup [])
   have eT:(kt cf.n s' o.dst (.tup [])).tT cf.n=putA (s'.tT cf.n) o.dst (.tup []):=congrArg St.T dV
   have Ei:(kt cf.n s' o.dst (.tup [])).cw=s'.cw:=congrArg St.L dV
   rw[eT,Ei,dV] at this
   have iZ:s'.tT cf.n=s.tT cf.n:=congrArg St.T e
   have iu:s'.cw=s.cw:=congrArg St.L e
   rw[iZ,iu,e] at this
   exact this
end
section
variable [Z:FZ] {P:Program} {cf:hl P} {R:Exit→TS→Prop}
theorem Lc {ops:Array Oper} {s:TS} {k:aW}: ∀{jF:List Nat},(EM cf ops s jF k).den R→rN P ops jF (s.aJ cf.n).T (s.aJ cf.n).L (s.aJ cf.n).H∧k.den R
 | [],h=>⟨trivial,h⟩
 | i::r,h=>by
  obtain⟨h1,h2,aP⟩:=h
  simp only[Bool.and_eq_true] at h1
  obtain⟨q1,q2⟩:=Lc aP
  refine⟨⟨⟨h1.1,h1.2,?_⟩,q1⟩,q2⟩
  rw[k9]
  have:=congrFun (congrFun (congrFun h2 Z) (g5 s)) (fun v=>v=sM (opI ops i) (s.aJ cf.n).T)
  have this:lx P (opI ops i) (fun x=>(cP cf.n s x).bE) (s.aJ cf.n).L (s.aJ cf.n).H (fun v=>v=sM (opI ops i) (s.aJ cf.n).T)=_:=this
  rw[this]
  unfold sM
  cases(opI ops i).dst with
  | none=>rfl
  | some d=>
   have:=congrFun (k9 cf.n s) (.tmp d)
   exact this.symm
end
section
variable {P:Program} {cf:hl P} {R:Exit→TS→Prop}
theorem acx (Z:FZ) (aF:cf.n≤1000000) (s:TS) (d:Option Nat) (v:TV):(kt cf.n s d v).tT cf.n=putA (s.tT cf.n) d v.bE∧(kt cf.n s d v).cw=s.cw∧(@TS.aJ Z cf.n (kt cf.n s d v)).H=(@TS.aJ Z cf.n s).H:=by
 have dV:= @zF Z cf.n aF s d v
 exact⟨congrArg St.T dV,congrArg St.L dV,by rw[dV]⟩
theorem P5 (aF:cf.n≤1000000) {eA:qk P} {ops:Array Oper} {K:TS→aW} {Kp:List AV→List (Nat×List AV)→List Blk→Prop} (hK: ∀s (Z:FZ),(K s).den R→ @Fits Z s→Kp (s.tT cf.n) s.cw (@TS.aJ Z cf.n s).H): ∀(l:List Item) (Z:FZ) (s:TS),@Fits Z s→l.all (·.lit)=true→(tv cf eA ops l s K).den R→
  kh P [] ops l (s.tT cf.n) s.cw (@TS.aJ Z cf.n s).H Kp
 | [],Z,s,aO,_,h=>hK s Z h aO
 | x::r,Z,s,aO,aL,h=>by
  simp only[List.all_cons,Bool.and_eq_true] at aL
  show oe ops x.lit (opI ops x.i) _ _ _
  rw[aL.1]
  have next: ∀(s' s2:TS) (Z2:FZ) (v:TV),@Fits Z2 s2→s2.tT cf.n=s'.tT cf.n→(tv cf eA ops r (kt cf.n s2 (opI ops x.i).dst v) K).den R→kh P [] ops r (putA (s'.tT cf.n) (opI ops x.i).dst v.bE) s2.cw (@TS.aJ Z2 cf.n s2).H Kp:=fun s' s2 Z2 v hf e hv=>by
   have:=P5 aF hK r Z2 _ (@zE Z2 _ aF _ _ _ hf) aL.2 hv
   obtain⟨q1,q2,q3⟩:=acx (cf:=cf) Z2 aF s2 (opI ops x.i).dst v
   rw[q1,q2,q3] at this
   rw[←e];exact this
  refine Lo (Z:=Z) aF aO (fun s' hf e h=> ?_) (fun s' hf e h=> ?_) h
  ·have i_:s'.cw=s.cw:=congrArg St.L e
   rw[←e,←i_]
   cases aj:x.q with
   | true=>
    rw[aj] at h
    show lx P (opI ops x.i) (cv (s'.aJ cf.n).T) (s'.aJ cf.n).L (s'.aJ cf.n).H _
    cases a4:pW (opI ops x.i) with
    | true=>
     rw[a4] at h
     simp only at h
     split at h
     ·rename_i d bj
      obtain⟨h1,h2⟩:=h
      rw[k9]
      have:=congrFun (congrFun h1 (s'.aJ cf.n).H) (fun v=>kh P [] ops r (putA (s'.aJ cf.n).T (opI ops x.i).dst v) (s'.aJ cf.n).L (s'.aJ cf.n).H Kp)
      have this:lx P (opI ops x.i) (fun x=>(cP cf.n s' x).bE) (s'.aJ cf.n).L (s'.aJ cf.n).H (fun v=>kh P [] ops r (putA (s'.aJ cf.n).T (opI ops x.i).dst v) (s'.aJ cf.n).L (s'.aJ cf.n).H Kp)=_:=this
      refine Eq.mpr this ?_
      exact next s' s' Z (.lp d 0) hf rfl h2
     ·exact h.elim
    | false=>
     rw[a4] at h
     rw[wh a4]
     simp only at h
     split at h
     ·rename_i c a b fU
      have:=Pf (Z:=Z) aF (Kp:=fun v=>kh P [] ops r (putA (s'.aJ cf.n).T (opI ops x.i).dst v) (s'.aJ cf.n).L (s'.aJ cf.n).H Kp) hf (fun v s2 hf2 e2 hv=>by
       have:=next s' s2 Z v hf2 (congrArg St.T e2) hv
       have dV:s2.cw=s'.cw:=congrArg St.L e2
       rw[dV,e2] at this;exact this) h
      unfold jY
      rw[fU];exact this
     ·exact PV hf (Kp:=fun v=>kh P [] ops r (putA (s'.aJ cf.n).T (opI ops x.i).dst v) (s'.aJ cf.n).L (s'.aJ cf.n).H Kp) (fun v hv=>next s' s' Z v hf rfl hv) h
   | false=>
    rw[aj] at h
    simp only at h
    split at h
    ·exact h.elim
    ·exact Tf (Z:=Z) aF hf (Kp:=fun v L' H'=>rN P ops x.jF (s'.tT cf.n) L' H'∧kh P [] ops r (putA (s'.tT cf.n) (opI ops x.i).dst v) L' H' Kp) (fun v s2 Z2 hv hf2 e2=>by
      obtain⟨q1,q2⟩:=Lc (Z:=Z2) hv
      have q1:rN P ops x.jF (s2.tT cf.n) s2.cw (@TS.aJ Z2 cf.n s2).H:=q1
      rw[e2] at q1
      exact⟨q1,next s' s2 Z2 v hf2 e2 q2⟩) h
  ·have:=next s' s' Z (.tup []) hf rfl h
   have iZ:s'.tT cf.n=s.tT cf.n:=congrArg St.T e
   have iu:s'.cw=s.cw:=congrArg St.L e
   rw[iZ,iu,e] at this
   exact this
end
end Go.Proofs.Ytglpfccgmfhkdaa.Fw
