/- The machine, part A: kinds of values, values told by their kinds, trees of conditions. -/
import Derived.Test.YtglpfccgmfhkdaaM2
set_option linter.unusedVariables false
namespace Go.Proofs.Ytglpfccgmfhkdaa.Fw
open Go
inductive aX where
 | int | u64 | u8 | bool | str | bG | dF | dN | lB | dO | held | frame | done | fault | stays | fG | unit | nat
 | l (e:aX)
 | ptr (e:aX)
 | gH (f:Nat) (e:aX)
 deriving DecidableEq,Inhabited
@[reducible] def aX.T:aX→Type
 | .int=>Int
 | .u64=>Int
 | .u8=>UInt8
 | .bool=>Bool
 | .str=>ByteArray
 | .bG=>b9
 | .dF=>Way
 | .dN=>aN
 | .lB=>Event
 | .dO=>ck
 | .held=>ab
 | .frame=>Frame
 | .done=>qI
 | .fault=>ho
 | .stays=>AG
 | .fG=>ie
 | .unit=>Unit
 | .nat=>Nat
 | .l e=>List e.T
 | .ptr e=>e.T
 | .gH _ e=>e.T
@[reducible] def aX.rG:(e:aX)→Inhabited e.T
 | .int=>inferInstanceAs (Inhabited Int)
 | .u64=>inferInstanceAs (Inhabited Int)
 | .u8=>inferInstanceAs (Inhabited UInt8)
 | .bool=>inferInstanceAs (Inhabited Bool)
 | .str=>inferInstanceAs (Inhabited ByteArray)
 | .bG=>inferInstanceAs (Inhabited b9)
 | .dF=>inferInstanceAs (Inhabited Way)
 | .dN=>inferInstanceAs (Inhabited aN)
 | .lB=>inferInstanceAs (Inhabited Event)
 | .dO=>inferInstanceAs (Inhabited ck)
 | .held=>inferInstanceAs (Inhabited ab)
 | .frame=>inferInstanceAs (Inhabited Frame)
 | .done=>inferInstanceAs (Inhabited qI)
 | .fault=>inferInstanceAs (Inhabited ho)
 | .stays=>inferInstanceAs (Inhabited AG)
 | .fG=>inferInstanceAs (Inhabited ie)
 | .unit=>inferInstanceAs (Inhabited Unit)
 | .nat=>inferInstanceAs (Inhabited Nat)
 | .l e=>inferInstanceAs (Inhabited (List e.T))
 | .ptr e=>e.rG
 | .gH _ e=>e.rG
def qi (e:aX) (xs:List e.T) (i:Int):e.T:= @nth e.T e.rG xs i
def cq:List aX→Type
 | []=>Unit
 | e::r=>e.T×cq r
def aX.cm:aX→List aX
 | .bG=>[.int,.int]
 | .dF=>[.l .int,.l .bG,.l .bG,.l .int,.l .int]
 | .dN=>[.int,.l .int,.l .dF,.l (.l .bool),.int]
 | .lB=>[.int,.int,.int]
 | .dO=>[.int,.int]
 | .held=>[.int,.int,.l .bool,.bool,.int]
 | .frame=>[.bool,.l .bool,.l .dO,.l .held]
 | .done=>[.int,.bool,.l .bool,.l .dO,.l .held]
 | .fault=>[.int,.int]
 | .stays=>[.l .int,.l .int,.l .int]
 | .fG=>[.l .u8,.int,.u64]
 | e=>[e]
def aX.isS:aX→Bool
 | .bG | .dF | .dN | .lB | .dO | .held | .frame | .done | .fault | .stays | .fG=>true
 | _=>false
def aX.mk:(e:aX)→cq e.cm→e.T
 | .bG,(a,b,_)=>⟨a,b⟩
 | .dF,(a,b,c,d,e,_)=>⟨a,b,c,d,e⟩
 | .dN,(a,b,c,d,e,_)=>⟨a,b,c,d,e⟩
 | .lB,(a,b,c,_)=>⟨a,b,c⟩
 | .dO,(a,b,_)=>⟨a,b⟩
 | .held,(a,b,c,d,e,_)=>⟨a,b,c,d,e⟩
 | .frame,(a,b,c,d,_)=>⟨a,b,c,d⟩
 | .done,(a,b,c,d,e,_)=>⟨a,⟨b,c,d,e⟩⟩
 | .fault,(a,b,_)=>⟨a,b⟩
 | .stays,(a,b,c,_)=>⟨a,b,c⟩
 | .fG,(a,b,c,_)=>⟨a,b,c⟩
 | .int,(a,_)=>a
 | .u64,(a,_)=>a
 | .u8,(a,_)=>a
 | .bool,(a,_)=>a
 | .str,(a,_)=>a
 | .unit,(a,_)=>a
 | .nat,(a,_)=>a
 | .l _,(a,_)=>a
 | .ptr _,(a,_)=>a
 | .gH _ _,(a,_)=>a
def aX.un:(e:aX)→e.T→cq e.cm
 | .bG,x=>(x.bo,x.bG,())
 | .dF,x=>(x.ag,x.a7,x.bJ,x.bZ,x.c6,())
 | .dN,x=>(x.ag,x.bu,x.M,x.bz,x.dq,())
 | .lB,x=>(x.op,x.NX,x.bG,())
 | .dO,x=>(x.cE,x.a7,())
 | .held,x=>(x.az,x.aa,x.U,x.an,x.ao,())
 | .frame,x=>(x.ok,x.aF,x.aB,x.M,())
 | .done,x=>(x.code,x.frame.ok,x.frame.aF,x.frame.aB,x.frame.M,())
 | .fault,x=>(x.code,x.pos,())
 | .stays,x=>(x.M,x.ag,x.aB,())
 | .fG,x=>(x.code,x.pos,x.wP,())
 | .int,x=>(x,())
 | .u64,x=>(x,())
 | .u8,x=>(x,())
 | .bool,x=>(x,())
 | .str,x=>(x,())
 | .unit,x=>(x,())
 | .nat,x=>(x,())
 | .l _,x=>(x,())
 | .ptr _,x=>(x,())
 | .gH _ _,x=>(x,())
theorem aX.N4 (e:aX) (x:cq e.cm):e.un (e.mk x)=x:=by cases e<;>rfl
def b4 (fr:Bool):(e:aX)→e.T→List AV
 | .int,x=>bO x
 | .u64,x=>[.int .u64 x]
 | .u8,x=>x3 x
 | .bool,x=>aU x
 | .str,x=>By x
 | .bG,x=>di x
 | .dF,x=>dI fr x
 | .dN,x=>bL fr x
 | .lB,x=>Bu x
 | .dO,x=>br x
 | .held,x=>ct fr x
 | .frame,x=>b5 fr x
 | .done,x=>Bt fr x
 | .fault,x=>Bv x
 | .stays,x=>Qq fr x
 | .fG,x=>Qp fr x
 | .l e,x=>[.aR (x.map (b4 false e)) false fr]
 | .unit,_ | .nat,_ | .ptr _,_ | .gH _ _,_=>[.undef]
def ig (fr:Bool):(e:aX)→e.T→AV
 | .int,x=> .int .i64 x
 | .u64,x=> .int .u64 x
 | .u8,x=> .int .u8 x.toNat
 | .bool,x=> .bool x
 | .str,x=> .str x
 | .l e,x=> .aR (x.map (b4 false e)) false fr
 | _,_=> .undef
def ha (fr:Bool):(es:List aX)→cq es→List AV
 | [],_=>[]
 | e::r,x=>ig fr e x.1::ha fr r x.2
theorem ly (fr:Bool) (e:aX) (x:e.T):ha fr e.cm (e.un x)=b4 fr e x:=by
 cases e<;>first | rfl | (simp only[aX.cm,aX.un,ha,ig,b4];rfl)
def aX.jW:aX→Nat
 | .bG=>2
 | .dF=>5
 | .dN=>5
 | .lB=>3
 | .dO=>2
 | .held=>5
 | .frame=>4
 | .done=>5
 | .fault=>2
 | .stays=>3
 | .fG=>3
 | _=>1
theorem q6 (fr:Bool) (e:aX) (x:e.T):(b4 fr e x).length=e.jW:=by cases e<;>rfl
def aX.my:aX→Bool
 | .unit | .nat | .ptr _ | .gH _ _=>false
 | _=>true
theorem Qv {fr:Bool} {e:aX} (h:e.my=true) (x:e.T):(b4 fr e x).all hX=true:=by cases e<;>first | rfl | cases h
inductive dh where
 | t | f
 | v (b:Bool)
 | at(i:Nat) (b:Bool)
 | n (x:dh)
 | bm (x y:dh)
 | or (x y:dh)
 | ite (c x y:dh)
 | sY (x y:dh)
 | ne (x y:dh)
 deriving Inhabited
def dh.den:dh→Bool
 | .t=>true
 | .f=>false
 | .v b=>b
 | .at _ b=>b
 | .n x=> !x.den
 | .bm x y=>x.den&&y.den
 | .or x y=>x.den || y.den
 | .ite c x y=>bif c.den then x.den else y.den
 | .sY x y=>x.den==y.den
 | .ne x y=>x.den !=y.den
def dh.not:dh→dh
 | .t=> .f
 | .f=> .t
 | x=> .n x
def dh.r0 (b x y:dh):dh:=match x with
 | .t=>(match y with
  | .t=> .t
  | .f=>b
  | y=> .or b y)
 | .f=>(match y with
  | .f=> .f
  | .t=> .n b
  | y=> .bm (.n b) y)
 | x=>(match y with
  | .f=> .bm b x
  | .t=> .or (.n b) x
  | y=> .ite b x y)
theorem dh.wx (b x y:dh):(dh.r0 b x y).den=bif b.den then x.den else y.den:=by
 cases x<;>cases y<;>simp only[dh.r0,dh.den]<;>cases b.den<;>simp
inductive TV where
 | u
 | i (k:IntKind) (n:Int)
 | b (x:dh)
 | s (x:ByteArray)
 | l (e:aX) (xs:List e.T) (full fr:Bool)
 | nil (full fr:Bool)
 | ref (b g n:Nat) (full:Bool)
 | ptr (b g:Nat) (i:Int) (n col:Nat)
 | lp (t col:Nat)
 | cM (e:aX) (x:e.T) (col:Nat)
 | agg (c:List TV)
 | tup (c:List TV)
 | fn (f:FuncId) (c:List TV)
 | o (a:AV)
 | blk (g:Nat) (e:aX) (xs:List e.T) (n:Nat) (h:xs.length=n)
 | ev (g:Nat) (c:List TV)
 | iE (g m:Nat) (ids:List Nat)
 | fH (V:List ab) (ids:List Nat) (n:Nat) (h:V.length=n)
 | new (id:Nat) (xs:List Bool)
 | s7 (w:Int) (ids:List Nat) (m n:Nat)
 | s5 (w:Int) (ids:List Nat) (m:Nat) (j:Int)
 | wl (id m n:Nat)
 deriving Inhabited
class FZ where
 ws:List ab
 bs:List (List Bool)
mutual
def TV.bi:TV→AV
 | .u=> .undef
 | .i k n=> .int k n
 | .b x=> .bool x.den
 | .s x=> .str x
 | .l e xs full fr=> .aR (xs.map (b4 false e)) full fr
 | .nil full fr=> .aR [] full fr
 | .ref b g n full=> .ref b g 0 n full
 | .ptr b g i _ c=> .ptr b g i.toNat c
 | .lp t c=> .et t c
 | .cM e x c=> .cM (b4 false e x) c
 | .agg c=> .agg (cc c)
 | .tup c=> .tup (cc c)
 | .fn f c=> .fn f (cc c)
 | .o a=>a
 | .blk _ _ _ _ _=> .undef
 | .ev _ _=> .undef
 | .iE _ _ _=> .undef
 | .fH _ _ _ _=> .undef
 | .new _ _=> .undef
 | .s7 w ids m k=> .ref (nth ids w+m) 0 0 k false
 | .s5 w ids m j=> .ptr (nth ids w+m) 0 j.toNat 0
 | .wl id m k=> .ref (id+m) 0 0 k false
def cc:List TV→List AV
 | []=>[]
 | x::r=>x.bi::cc r
end
theorem lr (l:List TV):cc l=l.map TV.bi:=by
 induction l with
 | nil=>rfl
 | cons x r bx=>rw[cc,bx];rfl
def TV.dW [Z:FZ]:TV→Blk
 | .blk g e xs _ _=>⟨g,e.jW,xs.map (b4 true e)⟩
 | .ev g c=>⟨g,c.length,[cc c]⟩
 | .iE g m ids=>⟨g,5,bh m Z.ws ids⟩
 | _=>⟨0,0,[]⟩
def w7 (fr:Bool):(e:aX)→e.T→TV
 | .int,x=> .i .i64 x
 | .u64,x=> .i .u64 x
 | .u8,x=> .i .u8 x.toNat
 | .bool,x=> .b (.v x)
 | .str,x=> .s x
 | .l e,x=> .l e x false fr
 | _,_=> .u
def Ae (fr:Bool):(es:List aX)→cq es→List TV
 | [],_=>[]
 | e::r,x=>w7 fr e x.1::Ae fr r x.2
theorem Ft (fr:Bool) (e:aX) (x:e.T):(w7 fr e x).bi=ig fr e x:=by cases e<;>rfl
theorem NY (fr:Bool): ∀(es:List aX) (x:cq es),cc (Ae fr es x)=ha fr es x
 | [],_=>rfl
 | e::r,x=>by rw[Ae,cc,ha,Ft,NY fr r]
def hL (fr:Bool) (e:aX) (x:e.T):List TV:=Ae fr e.cm (e.un x)
theorem xQ (fr:Bool) (e:aX) (x:e.T):cc (hL fr e x)=b4 fr e x:=by rw[hL,NY,ly]
structure TS where
 T:List (Nat×TV)
 B:List (Nat×TV)
 vs:List (Nat×Nat)
 aW:Nat
 deriving Inhabited
def fN:List (Nat×TV)→Nat→TV→TV
 | [],_,d=>d
 | (k,v)::r,t,d=>match Nat.beq k t with
  | true=>v
  | false=>fN r t d
def kd (v c:Nat):Nat:=1000010+(1000*v+c)
def cT:Nat:=1000000
def eX:Nat:=1000001
def bD (b:Nat):Nat:=1000000000000+b
def TS.get (s:TS) (k:Nat):TV:=fN s.T k (fN s.B k .u)
def TS.put (s:TS) (k:Nat) (v:TV):TS:=⟨(k,v)::s.T,s.B,s.vs,s.aW⟩
def gq (s:TS) (v:Nat):Nat→Nat→List TV
 | _,0=>[]
 | c,m+1=>s.get (kd v c)::gq s v (c+1) m
def TS.tT (n:Nat) (s:TS):List AV:=(List.range n).map fun t=>(s.get t).bi
def TS.bT (s:TS):List (Nat×List AV):=s.vs.map fun p=>(p.1,cc (gq s p.1 0 p.2))
def hC (s:TS):Bool:=match s.get cT with
 | .fH _ _ _ _=>false
 | _=>true
def fT [Z:FZ] (s:TS):List Blk:=match hC s with
 | true=>[]
 | false=>Z.bs.map bB
def TS.fj [FZ] (s:TS):List Blk:=(List.range s.aW).map fun b=>(s.get (bD b)).dW
def TS.av [FZ] (n:Nat) (s:TS):St:=⟨s.tT n,s.bT,s.fj++fT s⟩
def Fits [Z:FZ] (s:TS):Prop:=
 (∀V ids n h,s.get cT= .fH V ids n h→iG Z.ws ids Z.bs∧view Z.ws ids Z.bs=V∧ ∀id xs,s.get eX= .new id xs→id<Z.bs.length∧Z.bs.getD id []=xs∧ ∀j:Nat,ids[j]?≠some id)
theorem Fits.congr [FZ] {s s':TS} (h:Fits s) (e: ∀k,1000000≤k→k<1000010→s'.get k=s.get k):Fits s':=fun V ids n h' j6=>by
 rw[e cT (by unfold cT;omega) (by unfold cT;omega)] at j6
 obtain⟨h1,h2,bn⟩:=h V ids n h' j6
 refine⟨h1,h2,fun id xs hi=>bn id xs ?_⟩
 rw[←hi,e eX (by unfold eX;omega) (by unfold eX;omega)]
theorem Fits.none [FZ] {s:TS} (h:hC s=true):Fits s:=fun V ids n h' j6=>by
 unfold hC at h;rw[j6] at h;cases h
theorem fW (k:Nat) (v:TV) (r:List (Nat×TV)) (t:Nat) (d:TV):fN ((k,v)::r) t d=if k=t then v else fN r t d:=by
 show(match Nat.beq k t with
  | true=>v
  | false=>fN r t d)=_
 by_cases h:k=t
 ·subst h;rw[Nat.beq_refl,if_pos rfl]
 ·rw[if_neg h]
  cases hb:Nat.beq k t with
  | true=>exact absurd (Nat.eq_of_beq_eq_true hb) h
  | false=>rfl
theorem rO (A B:List (Nat×TV)) (t:Nat) (d:TV):fN (A++B) t d=fN A t (fN B t d):=by
 induction A with
 | nil=>rfl
 | cons p r bx=>obtain⟨k,v⟩:=p;rw[List.cons_append,fW,fW,bx]
theorem qa {A:List (Nat×TV)} {t:Nat} {d:TV} (h: ∀v,(t,v) ∉ A):fN A t d=d:=by
 induction A with
 | nil=>rfl
 | cons p r bx=>
  obtain⟨k,v⟩:=p
  rw[fW,if_neg,bx fun w hw=>h w (List.mem_cons_of_mem _ hw)]
  rintro rfl;exact h v (List.mem_cons_self ..)
theorem TS.B5 (s:TS) (k:Nat) (v:TV) (t:Nat):(s.put k v).get t=if k=t then v else s.get t:=fW ..
inductive aG:Type 1 where
 | iS (ex:Exit) (s:TS)
 | gm
 | no
 | p (φ:Prop) (t:aG)
 | h5 (φ:Prop) (t:aG)
 | hg (b:dh) (s:TS) (x y:aG)
 | two (x y:aG)
 | gi (x:aG) (ds:List Prop) (b:dh) (y:aG)
 | all (α:Type) (f:α→aG)
 | eq {α:Type} (a b:α) (t:aG)
def n3:List Prop→Prop
 | []=>True
 | φ::r=>match r with
  | []=>φ
  | r=>φ∧n3 r
theorem GB: ∀{l:List Prop},(∀φ∈l,φ)→n3 l
 | [],_=>trivial
 | [φ],h=>h φ (by simp)
 | φ::ψ::r,h=>⟨h φ (by simp),GB (l:=ψ::r) fun x hx=>h x (List.mem_cons_of_mem _ hx)⟩
def s0 (ds:List Prop):dh→List Prop
 | .t=>ds
 | b=>ds++[b.den=true]
def u_ (ds:List Prop) (b:dh):Prop:=n3 (s0 ds b)
theorem QH {ds:List Prop} {b:dh} (h: ∀φ∈ds,φ) (hb:b.den=true):u_ ds b:=by
 unfold u_
 refine GB fun φ dK=> ?_
 unfold s0 at dK
 split at dK
 ·exact h φ dK
 ·rcases List.mem_append.1 dK with q | q
  ·exact h φ q
  ·rw[List.mem_singleton.1 q];exact hb
def aG.den:aG→(Exit→TS→Prop)→Prop
 | .iS ex s,R=>R ex s
 | .gm,_=>True
 | .no,_=>False
 | .p φ t,R=>φ∧t.den R
 | .h5 φ t,R=>φ→t.den R
 | .hg b _ x y,R=>(b.den=true→x.den R)∧(b.den=false→y.den R)
 | .two x y,R=>x.den R∧y.den R
 | .gi x ds b y,R=>x.den R∧(u_ ds b→y.den R)
 | .all _ f,R=> ∀a,(f a).den R
 | .eq a b t,R=>a=b∧t.den R
def aG.bind:aG→(Exit→TS→aG)→aG
 | .iS ex s,K=>K ex s
 | .gm,_=> .gm
 | .no,_=> .no
 | .p φ t,K=> .p φ (t.bind K)
 | .h5 φ t,K=> .h5 φ (t.bind K)
 | .hg b s x y,K=> .hg b s (x.bind K) (y.bind K)
 | .two x y,K=> .two (x.bind K) (y.bind K)
 | .gi x ds b y,K=> .gi (x.bind K) ds b (y.bind K)
 | .all α f,K=> .all α fun a=>(f a).bind K
 | .eq a b t,K=> .eq a b (t.bind K)
theorem aG.Pc (t:aG) (K:Exit→TS→aG) (R:Exit→TS→Prop):(t.bind K).den R=t.den fun ex s=>(K ex s).den R:=by
 induction t with
 | iS ex s=>rfl
 | gm=>rfl
 | no=>rfl
 | p φ t bx=>simp only[aG.bind,aG.den,bx]
 | h5 φ t bx=>simp only[aG.bind,aG.den,bx]
 | hg b s x y gr gh=>simp only[aG.bind,aG.den,gr,gh]
 | two x y gr gh=>simp only[aG.bind,aG.den,gr,gh]
 | gi x ds b y gr gh=>simp only[aG.bind,aG.den,gr,gh]
 | all α f bx=>simp only[aG.bind,aG.den,bx]
 | eq a b t bx=>simp only[aG.bind,aG.den,bx]
theorem aG.oQ {t:aG} {R uO:Exit→TS→Prop} (h:t.den R) (k: ∀ex s,R ex s→uO ex s):t.den uO:=by
 induction t with
 | iS ex s=>exact k _ _ h
 | gm=>trivial
 | no=>exact h
 | p φ t bx=>exact⟨h.1,bx h.2⟩
 | h5 φ t bx=>exact fun q=>bx (h q)
 | hg b s x y gr gh=>exact⟨fun q=>gr (h.1 q),fun q=>gh (h.2 q)⟩
 | two x y gr gh=>exact⟨gr h.1,gh h.2⟩
 | gi x ds b y gr gh=>exact⟨gr h.1,fun q=>gh (h.2 q)⟩
 | all α f bx=>exact fun a=>bx a (h a)
 | eq a b t bx=>exact⟨h.1,bx h.2⟩
inductive eV:Type 1 where
 | gm
 | p (φ:Prop)
 | and (a b:eV)
 | h5 (φ:Prop) (c:eV)
 | all (α:Type) (f:α→eV)
def eV.and' (a b:eV):eV:=match a with
 | .gm=>b
 | a=>match b with
  | .gm=>a
  | b=> .and a b
def eV.tx (φ:Prop) (c:eV):eV:=match c with
 | .gm=> .gm
 | c=> .h5 φ c
def eV.den:eV→Prop
 | .gm=>True
 | .p φ=>φ
 | .and a b=>a.den∧b.den
 | .h5 φ c=>φ→c.den
 | .all _ f=> ∀a,(f a).den
theorem eV.xB (a b:eV):(eV.and' a b).den↔a.den∧b.den:=by
 cases a<;>cases b<;>simp[eV.and',eV.den]
theorem eV.yW (φ:Prop) (c:eV):(eV.tx φ c).den↔(φ→c.den):=by
 cases c<;>simp[eV.tx,eV.den]
def eV.fact (ds:List Prop) (b:dh) (c:eV):eV:=match s0 ds b with
 | []=>c
 | φ::r=> .tx (n3 (φ::r)) c
theorem eV.QI (ds:List Prop) (b:dh) (c:eV):(eV.fact ds b c).den↔(u_ ds b→c.den):=by
 unfold eV.fact u_
 split
 ·rename_i h;rw[h];simp[n3]
 ·rename_i h;rw[h];exact eV.yW _ _
def aG.mg:aG→eV
 | .iS _ _=> .gm
 | .gm=> .gm
 | .no=> .p False
 | .p φ t=> .and' (.p φ) t.mg
 | .h5 φ t=> .tx φ t.mg
 | .hg b _ x y=> .and' (.tx (b.den=true) x.mg) (.tx (b.den=false) y.mg)
 | .two x y=> .and' x.mg y.mg
 | .gi x ds b y=> .and' x.mg (.fact ds b y.mg)
 | .all α f=> .all α fun a=>(f a).mg
 | .eq _ _ t=>t.mg
inductive oJ:Type 1 where
 | u
 | v {α:Type} (a:α) (t:oJ)
 | n (a b:oJ)
 | f {α:Type} (g:α→oJ)
def aG.lhs:aG→oJ
 | .iS _ _ | .gm | .no=> .u
 | .p _ t | .h5 _ t=>t.lhs
 | .hg _ _ x y | .two x y | .gi x _ _ y=> .n x.lhs y.lhs
 | .all _ f=> .f fun a=>(f a).lhs
 | .eq a _ t=> .v a t.lhs
def aG.rhs:aG→oJ
 | .iS _ _ | .gm | .no=> .u
 | .p _ t | .h5 _ t=>t.rhs
 | .hg _ _ x y | .two x y | .gi x _ _ y=> .n x.rhs y.rhs
 | .all _ f=> .f fun a=>(f a).rhs
 | .eq _ b t=> .v b t.rhs
theorem aG.full {t:aG} (h:t.mg.den) (e:t.lhs=t.rhs):t.den fun _ _=>True:=by
 induction t with
 | iS ex s=>trivial
 | gm=>trivial
 | no=>exact h
 | p φ t bx=>
  have h:=(eV.xB _ _).1 h
  exact⟨h.1,bx h.2 e⟩
 | h5 φ t bx=>exact fun q=>bx ((eV.yW _ _).1 h q) e
 | hg b s x y gr gh=>
  have h:=(eV.xB _ _).1 h
  injection e with aT e2
  exact⟨fun q=>gr ((eV.yW _ _).1 h.1 q) aT,fun q=>gh ((eV.yW _ _).1 h.2 q) e2⟩
 | two x y gr gh=>
  have h:=(eV.xB _ _).1 h
  injection e with aT e2
  exact⟨gr h.1 aT,gh h.2 e2⟩
 | gi x ds b y gr gh=>
  have h:=(eV.xB _ _).1 h
  injection e with aT e2
  exact⟨gr h.1 aT,fun q=>gh ((eV.QI _ _ _).1 h.2 q) e2⟩
 | all α f bx=>
  injection e with _ e
  exact fun a=>bx a (h a) (congrFun e a)
 | eq a b t bx=>
  injection e with _ aT e2
  exact⟨aT,bx h e2⟩
def Env.wd (W:World):Env:={w:=W,PA:=fun c=>c<W.heap.size,PF:=fun c=>c<W.heap.size∧Plain W c,m:=fun _=>none,bc:=fun _=>0,sz:=fun _=>0,cp:=fun _=>0,mL:=fun _=>none}
theorem SimH.TK {E:Env} {H:List Blk} (hs:SimH E H) {c:Nat} (h:E.fe c):Plain E.w c:=by
 obtain⟨b,hb⟩:=h
 obtain⟨_,aw,ty,_,_,q,_⟩:=hs.heap b c hb
 exact⟨aw,ty,q⟩
theorem ea.wd {E:Env} (ax:SimH E []) (bH: ∀t,E.mL t=none) {a:AV} {v:Value} (h:ea E a v):ea (Env.wd E.w) a v:=by
 have kz: ∀a v,aQ E.w E.PA E.PF a v→aQ E.w (fun c=>c<E.w.heap.size) (fun c=>c<E.w.heap.size∧Plain E.w c) a v:=fun a v k=>k.mono (fun _ _=>rfl) (fun _ _=>rfl) ax.db (fun c hc=>⟨ax.db c (ax.c4 c hc),ax.eK c hc⟩)
 have hm:=fun b=>ax.fresh b (Nat.zero_le _)
 cases a with
 | ref b g off n full=>
  rcases h with⟨h,_⟩ | ⟨_,h⟩
  ·rw[(hm b).2] at h;cases h
  ·rcases h with⟨h,_⟩ | ⟨c,cap,h,_⟩<;>rw[(hm b).1] at h<;>cases h
 | ptr b g r c=>
  rcases h with⟨h,_⟩ | ⟨_,bl,h,_⟩
  ·rw[(hm b).2] at h;cases h
  ·rw[(hm b).1] at h;cases h
 | et t c=>obtain⟨bl,h,_⟩:=h;rw[bH t] at h;cases h
 | _=>exact kz _ _ h
theorem bQ.wd {E:Env} (ax:SimH E []) (bH: ∀t,E.mL t=none) {a:AV} {v:Value} (h:bQ E a v):bQ (Env.wd E.w) a v:=by
 by_cases hf: ∃f caps,a= .fn f caps
 ·obtain⟨f,caps,rfl⟩:=hf
  obtain⟨vs,e,ai⟩:=h
  exact⟨vs,e,ai.mono fun _ _ k=>k.wd ax bH⟩
 ·rw[nV fun f c e=>hf ⟨f,c,e⟩] at h ⊢
  exact h.wd ax bH
theorem V2.wd {E:Env} (ax:SimH E []) (bH: ∀t,E.mL t=none) {a:AV} {v:Value} (h:V2 E a v):V2 (Env.wd E.w) a v:=by
 by_cases hf: ∃l,a= .agg l
 ·obtain⟨l,rfl⟩:=hf
  obtain⟨vs,e,ai⟩:=h
  exact⟨vs,e,ai.mono fun _ _ k=>k.wd ax bH⟩
 ·rw[ma fun l e=>hf ⟨l,e⟩] at h ⊢
  exact h.wd ax bH
def Rows (w:World) (A:Option Addr) (sz:Nat) (rows:List (List AV)):Prop:=rows=[]∨ ∃c o,A=some ⟨c,o,none⟩∧c<w.heap.size∧ ∀(i j:Nat) (row:List AV) (a:AV),rows[i]?=some row→row[j]?=some a→ ∃u,w.cell? ⟨c,o+(i*sz+j),none⟩=some u∧bQ (Env.wd w) a u
def b3 (f:Nat→Nat):Nat→Nat
 | 0=>0
 | n+1=>b3 f n+f n
theorem Fs {f:Nat→Nat} {c:Nat}: ∀{n:Nat},(∀i,i<n→f i=c)→b3 f n=n*c
 | 0,_=>by simp[b3]
 | n+1,h=>by
  show b3 f n+f n=_
  rw[Fs fun i hi=>h i (by omega),h n (by omega),Nat.succ_mul]
theorem Ac {f:Nat→Nat}: ∀{n k:Nat},k≤n→b3 f k≤b3 f n
 | 0,k,h=>by obtain rfl:k=0:=by omega
             exact Nat.le_refl _
 | n+1,k,h=>by
  by_cases e:k=n+1
  ·subst e;exact Nat.le_refl _
  ·exact Nat.le_trans (Ac (n:=n) (by omega)) (Nat.le_add_right _ _)
inductive dm (w:World) (S:Nat→Prop):aX→Nat→Value→Prop where
 | int (n:Int):dm w S .int 1 (.int .i64 n)
 | bool (b:Bool):dm w S .bool 1 (.bool b)
 | aR {e:aX} {n cap:Nat} {A:Option Addr} {bP:Nat→Nat→Nat} {vs:Nat→Nat→Value} (h1:n≤cap∧n≤4611686018427387904)
   (hc:0<n→ ∃c o aw ty,A=some ⟨c,o,none⟩∧S c∧w.heap[c]?=some (.cells aw ty (0,0))∧ ∀i j,i<n→j<e.cm.length→aw[o+(i*e.cm.length+j)]?=some (vs i j))
   (aq: ∀i j b1,i<n→e.cm[j]?=some b1→dm w S b1 (bP i j) (vs i j)):dm w S (.l e) (b3 (fun i=>b3 (bP i) e.cm.length) n) (.slice A n cap)
theorem dm.nl {w:World} {S:Nat→Prop} {e:aX} {m:Nat} {n:Int} (h:dm w S e m (.int .i64 n)):e= .int∧m=1:=by cases h;exact⟨rfl,rfl⟩
theorem dm.mS {w:World} {S:Nat→Prop} {e:aX} {m:Nat} {b:Bool} (h:dm w S e m (.bool b)):e= .bool∧m=1:=by cases h;exact⟨rfl,rfl⟩
theorem dm.of_int {w:World} {S:Nat→Prop} {m:Nat} {v:Value} (h:dm w S .int m v):m=1∧ ∃n,v= .int .i64 n:=by cases h;exact⟨rfl,_,rfl⟩
theorem dm.of_bool {w:World} {S:Nat→Prop} {m:Nat} {v:Value} (h:dm w S .bool m v):m=1∧ ∃b,v= .bool b:=by cases h;exact⟨rfl,_,rfl⟩
theorem dm.qj {w:World} {S:Nat→Prop} {e:aX} {m:Nat} {v:Value} (h:dm w S (.l e) m v): ∃A n cap,v= .slice A n cap:=by cases h;exact⟨_,_,_,rfl⟩
theorem dm.sub {w:World} {S qR:Nat→Prop} {e:aX} {m:Nat} {v:Value} (h:dm w S e m v) (hs: ∀c,S c→qR c):dm w qR e m v:=by
 induction h with
 | int n=>exact .int n
 | bool b=>exact .bool b
 | aR h1 hc aq bx=>
  refine .aR h1 (fun ap=> ?_) bx
  obtain⟨c,o,aw,ty,q1,q2,q3⟩:=hc ap
  exact⟨c,o,aw,ty,q1,hs c q2,q3⟩
def nU (a b:Option Value):Prop:=b=a∨(∃n m,a=some (.int .i64 n)∧b=some (.int .i64 m))∨ ∃x y,a=some (.bool x)∧b=some (.bool y)
theorem nU.trans {a b c:Option Value} (h:nU a b) (k:nU b c):nU a c:=by
 rcases h with rfl | ⟨n,m,rfl,rfl⟩ | ⟨x,y,rfl,rfl⟩
 ·exact k
 ·rcases k with rfl | ⟨jw,ej,h1,rfl⟩ | ⟨x,y,h1,rfl⟩
  ·exact .inr (.inl ⟨_,_,rfl,rfl⟩)
  ·exact .inr (.inl ⟨_,_,rfl,rfl⟩)
  ·cases h1
 ·rcases k with rfl | ⟨jw,ej,h1,rfl⟩ | ⟨l8,Oj,h1,rfl⟩
  ·exact .inr (.inr ⟨_,_,rfl,rfl⟩)
  ·cases h1
  ·exact .inr (.inr ⟨_,_,rfl,rfl⟩)
structure dC (S:Nat→Prop) (w w':World):Prop where
 os:w'.os=w.os
 tape:w'.tape=w.tape
 output:w'.output=w.output
 size:w.heap.size≤w'.heap.size
 other: ∀c,c<w.heap.size→ ¬S c→w'.heap[c]?=w.heap[c]?
 pa: ∀(c:Nat) (aw:Array Value) (ty:TypeId),S c→w.heap[c]?=some (.cells aw ty (0,0))→ ∃bM:Array Value,w'.heap[c]?=some (.cells bM ty (0,0))∧bM.size=aw.size∧ ∀j:Nat,nU aw[j]? bM[j]?
theorem dC.refl (S:Nat→Prop) (w:World):dC S w w:=⟨rfl,rfl,rfl,Nat.le_refl _,fun _ _ _=>rfl,fun c aw ty _ h=>⟨aw,h,rfl,fun _=> .inl rfl⟩⟩
theorem yu {w:World} {c:Nat} {o:Obj} (h:w.heap[c]?=some o):c<w.heap.size:=by
 rcases Nat.lt_or_ge c w.heap.size with h' | h'
 ·exact h'
 ·simp[Array.getElem?_eq_none h'] at h
theorem dC.trans {S:Nat→Prop} {a b c:World} (h:dC S a b) (k:dC S b c):dC S a c where
 os:=k.os.trans h.os
 tape:=k.tape.trans h.tape
 output:=k.output.trans h.output
 size:=Nat.le_trans h.size k.size
 other:=fun x hx hs=>(k.other x (Nat.lt_of_lt_of_le hx h.size) hs).trans (h.other x hx hs)
 pa:=fun x aw ty hs hx=>by
  obtain⟨P1,q1,q2,q3⟩:=h.pa x aw ty hs hx
  obtain⟨u5,c9,dn,fi⟩:=k.pa x P1 ty hs q1
  exact⟨u5,c9,dn.trans q2,fun j=>(q3 j).trans (fi j)⟩
theorem dC.sub {S qR:Nat→Prop} {w w':World} (h:dC S w w') (hs: ∀c,S c→qR c):dC qR w w' where
 os:=h.os
 tape:=h.tape
 output:=h.output
 size:=h.size
 other:=fun c hc ap=>h.other c hc fun k=>ap (hs c k)
 pa:=fun c aw ty hc hx=>by
  by_cases k:S c
  ·exact h.pa c aw ty k hx
  ·exact⟨aw,(h.other c (yu hx) k).trans hx,rfl,fun _=> .inl rfl⟩
theorem dC.below {S:Nat→Prop} {w w':World} (h:RowKit.Below w.heap.size w w'):dC S w w':=
 ⟨h.os,h.tape,h.output,h.size,fun c hc _=>h.block c hc,fun c aw ty _ hx=>⟨aw,(h.block c (yu hx)).trans hx,rfl,fun _=> .inl rfl⟩⟩
theorem dC.at {S:Nat→Prop} {w w':World} (h:dC S w w') {c:Nat} {aw:Array Value} {ty:TypeId} (hx:w.heap[c]?=some (.cells aw ty (0,0))): ∃bM:Array Value,w'.heap[c]?=some (.cells bM ty (0,0))∧bM.size=aw.size∧ ∀j:Nat,nU aw[j]? bM[j]?:=by
 by_cases k:S c
 ·exact h.pa c aw ty k hx
 ·exact⟨aw,(h.other c (yu hx) k).trans hx,rfl,fun _=> .inl rfl⟩
theorem dm.lR {w w':World} {S qR:Nat→Prop} (hw:dC qR w w') {e:aX} {m:Nat} {v:Value} (h:dm w S e m v):dm w' S e m v:=by
 induction h with
 | int n=>exact .int n
 | bool b=>exact .bool b
 | @aR e n cap A bP vs h1 hc aq bx=>
  by_cases ap:0<n
  ·obtain⟨c,o,aw,ty,c3,ez,bw,hv⟩:=hc ap
   obtain⟨bM,q1,q2,q3⟩:=hw.at bw
   have key: ∀i j,i<n→j<e.cm.length→ ∃u,bM[o+(i*e.cm.length+j)]?=some u:=fun i j hi ar=>by
    rcases q3 (o+(i*e.cm.length+j)) with q | ⟨_,_,_,q⟩ | ⟨_,_,_,q⟩
    ·exact⟨_,q.trans (hv i j hi ar)⟩
    ·exact⟨_,q⟩
    ·exact⟨_,q⟩
   refine .aR (vs:=fun i j=>(bM[o+(i*e.cm.length+j)]?).getD undef) h1 (fun _=>⟨c,o,bM,ty,c3,ez,q1,fun i j hi ar=> ?_⟩) fun i j b1 hi ar=> ?_
   ·obtain⟨u,hu⟩:=key i j hi ar
    rw[hu];rfl
   ·have j8:j<e.cm.length:=(List.getElem?_eq_some_iff.1 ar).1
    have hk:=aq i j b1 hi ar
    have CO:=hv i j hi j8
    show dm w' S b1 (bP i j) ((bM[o+(i*e.cm.length+j)]?).getD undef)
    rcases q3 (o+(i*e.cm.length+j)) with q | ⟨a,b,kf,rY⟩ | ⟨a,b,kf,rY⟩
    ·rw[q,CO];exact bx i j b1 hi ar
    ·rw[CO] at kf
     rw[Option.some.inj kf] at hk
     obtain⟨rfl,hm⟩:=hk.nl
     rw[rY,hm];exact .int b
    ·rw[CO] at kf
     rw[Option.some.inj kf] at hk
     obtain⟨rfl,hm⟩:=hk.mS
     rw[rY,hm];exact .bool b
  ·exact .aR (vs:=vs) h1 (fun h=>absurd h ap) fun i j b1 hi _=>absurd (Nat.lt_of_le_of_lt (Nat.zero_le _) hi) ap
theorem dC.head {S:Nat→Prop} {w w':World} (h:dC S w w') {c o:Nat} {aw:Array Value} {ty:TypeId} (hx:w.heap[c]?=some (.cells aw ty (0,0))) {A:Option Addr} {n cap:Nat} (hv:aw[o]?=some (.slice A n cap)):w'.cell? ⟨c,o,none⟩=some (.slice A n cap):=by
 obtain⟨bM,q1,q2,q3⟩:=h.at hx
 rcases q3 o with q | ⟨a,b,kf,_⟩ | ⟨a,b,kf,_⟩
 ·simp only[World.cell?,q1];rw[q];exact hv
 ·rw[hv] at kf;cases kf
 ·rw[hv] at kf;cases kf
theorem dC.setCell {S:Nat→Prop} {w:World} {c o:Nat} {aw:Array Value} {ty:TypeId} {v:Value} (hx:w.heap[c]?=some (.cells aw ty (0,0))) (ez:S c) (hv:nU aw[o]? (some v)):dC S w (w.setCell ⟨c,o,none⟩ v) where
 os:=rfl
 tape:=rfl
 output:=rfl
 size:=by simp
 other:=fun b _ hs=>RowKit.Below.heap_setCell _ _ _ _ (fun e=>by subst e;exact hs ez)
 pa:=fun b bM gA hs hb=>by
  by_cases e:b=c
  ·subst e
   rw[hx] at hb
   cases hb
   refine⟨aw.setIfInBounds o v,by simp[World.setCell,Array.getElem?_modify,hx],by simp,fun j=> ?_⟩
   rw[Array.getElem?_setIfInBounds]
   by_cases ar:o=j
   ·subst ar
    rw[if_pos rfl]
    split
    ·exact hv
    ·rename_i aS;rw[Array.getElem?_eq_none (by omega)];exact .inl rfl
   ·rw[if_neg ar];exact .inl rfl
  ·exact⟨bM,by rw[RowKit.Below.heap_setCell _ _ _ _ e];exact hb,rfl,fun _=> .inl rfl⟩
structure jb (w w':World) (c o n:Nat) (val:Nat→Value):Prop where
 os:w'.os=w.os
 tape:w'.tape=w.tape
 output:w'.output=w.output
 size:w'.heap.size=w.heap.size
 other: ∀b,b≠c→w'.heap[b]?=w.heap[b]?
 blk: ∀aw ty,w.heap[c]?=some (.cells aw ty (0,0))→ ∃bM:Array Value,w'.heap[c]?=some (.cells bM ty (0,0))∧bM.size=aw.size∧ ∀j,j<aw.size→bM[j]?=if o≤j∧j<o+n then some (val (j - o)) else aw[j]?
theorem jb.refl (w:World) (c o:Nat) (val:Nat→Value):jb w w c o 0 val:=
 ⟨rfl,rfl,rfl,rfl,fun _ _=>rfl,fun aw ty h=>⟨aw,h,rfl,fun j _=>by rw[if_neg (by omega)]⟩⟩
theorem jb.snoc {w w':World} {c o n:Nat} {val:Nat→Value} (h:jb w w' c o n val) {v:Value} (hv:v=val n):jb w (w'.setCell ⟨c,o+n,none⟩ v) c o (n+1) val where
 os:=h.os
 tape:=h.tape
 output:=h.output
 size:=by rw[←h.size];simp
 other:=fun b hb=>by rw[RowKit.Below.heap_setCell _ _ _ _ hb];exact h.other b hb
 blk:=fun aw ty il=>by
  obtain⟨bM,h1,h2,aH⟩:=h.blk aw ty il
  refine⟨bM.setIfInBounds (o+n) v,?_,by simp[h2],fun j ar=> ?_⟩
  ·simp[World.setCell,Array.getElem?_modify,h1]
  ·rw[Array.getElem?_setIfInBounds]
   by_cases e:o+n=j
   ·subst e
    rw[if_pos rfl,if_pos (by rw[h2];exact ar),if_pos ⟨by omega,by omega⟩,hv]
    simp
   ·rw[if_neg e,aH j ar]
    by_cases bn:o≤j∧j<o+n
    ·rw[if_pos bn,if_pos ⟨bn.1,by omega⟩]
    ·rw[if_neg bn,if_neg (by omega)]
theorem jb.cell {w w':World} {c o n:Nat} {val:Nat→Value} (h:jb w w' c o n val) {aw:Array Value} {ty:TypeId} (hw:w.heap[c]?=some (.cells aw ty (0,0))) {j:Nat} (ar:j<aw.size): ∃u,w'.cell? ⟨c,j,none⟩=some u∧w'.frozen? ⟨c,j,none⟩=false:=by
 obtain⟨bM,h1,h2,aH⟩:=h.blk aw ty hw
 have aE:j<bM.size:=by omega
 exact⟨bM[j],by simp[World.cell?,h1,aE],by simp[World.frozen?,h1]⟩
theorem jb.lR {w w':World} {c o n:Nat} {val:Nat→Value} {S:Nat→Prop} (h:jb w w' c o n val) (ez:S c) (hk: ∀aw ty i,w.heap[c]?=some (.cells aw ty (0,0))→i<n→nU aw[o+i]? (some (val i))):dC S w w' where
 os:=h.os
 tape:=h.tape
 output:=h.output
 size:=by rw[h.size];exact Nat.le_refl _
 other:=fun b _ hs=>h.other b fun e=>by subst e;exact hs ez
 pa:=fun b aw ty hs hb=>by
  by_cases e:b=c
  ·subst e
   obtain⟨bM,h1,h2,aH⟩:=h.blk aw ty hb
   refine⟨bM,h1,h2,fun j=> ?_⟩
   rcases Nat.lt_or_ge j aw.size with ar | ar
   ·rw[aH j ar]
    split
    ·rename_i hi
     have:=hk aw ty (j - o) hb (by omega)
     rw[show o+(j - o)=j by omega] at this
     exact this
    ·exact .inl rfl
   ·rw[Array.getElem?_eq_none (xs:=bM) (by omega),Array.getElem?_eq_none (xs:=aw) ar];exact .inl rfl
  ·exact⟨aw,(h.other b e).trans hb,rfl,fun _=> .inl rfl⟩
theorem jb.vX {w w':World} {o n:Nat} {val:Nat→Value} {S:Nat→Prop} (h:jb w w' w.heap.size o n val):dC S w w' where
 os:=h.os
 tape:=h.tape
 output:=h.output
 size:=by rw[h.size];exact Nat.le_refl _
 other:=fun b hb _=>h.other b (by omega)
 pa:=fun b aw ty _ hb=>⟨aw,(h.other b (by have:=yu hb;omega)).trans hb,rfl,fun _=> .inl rfl⟩
def nn (k:Int) (i:Nat):Value:= .int .i64 (k+i)
def Gn (k:Int) (i:Nat):Value:= .bool ((k+i)%3==0)
theorem dm.cells {w:World} {S:Nat→Prop} {e:aX} {m n cap:Nat} {A:Option Addr} (h:dm w S (.l e) m (.slice A n cap)) (ap:0<n):
  ∃(c o:Nat) (aw:Array Value) (ty:TypeId) (bP:Nat→Nat→Nat),A=some ⟨c,o,none⟩∧S c∧w.heap[c]?=some (.cells aw ty (0,0))∧m=b3 (fun i=>b3 (bP i) e.cm.length) n∧(0<e.cm.length→o+n*e.cm.length≤aw.size)∧
   ∀i j b1,i<n→e.cm[j]?=some b1→ ∃u,aw[o+(i*e.cm.length+j)]?=some u∧dm w S b1 (bP i j) u:=by
 cases h with
 | @aR _ _ _ _ bP vs h1 hc aq=>
  obtain⟨c,o,aw,ty,c3,ez,bw,hv⟩:=hc ap
  refine⟨c,o,aw,ty,bP,c3,ez,bw,rfl,fun aE=> ?_,fun i j b1 hi ar=>⟨_,hv i j hi (List.getElem?_eq_some_iff.1 ar).1,aq i j b1 hi ar⟩⟩
  have:=hv (n - 1) (e.cm.length - 1) (by omega) (by omega)
  have aS:=(Array.getElem?_eq_some_iff.1 this).1
  have aT:(n - 1)*e.cm.length+e.cm.length=n*e.cm.length:=by
   rw[←Nat.succ_mul];congr 1;omega
  omega
theorem dm.zero {w:World} {S:Nat→Prop} {e:aX} {m cap:Nat} {A:Option Addr} (h:dm w S (.l e) m (.slice A 0 cap)):m=0:=by
 cases h;rfl
theorem dm.elem {w:World} {S:Nat→Prop} {e:aX} {m n cap:Nat} {A:Option Addr} (h:dm w S (.l e) m (.slice A n cap)):
  n≤4611686018427387904∧ ∃(c o:Nat) (bP:Nat→Nat→Nat),(0<n→A=some ⟨c,o,none⟩)∧m=b3 (fun i=>b3 (bP i) e.cm.length) n∧
   (∀i j b1,i<n→e.cm[j]?=some (.l b1)→ ∃A' jw xP,∀wr,dC S w wr→wr.cell? ⟨c,o+(i*e.cm.length+j),none⟩=some (.slice A' jw xP)∧dm wr S (.l b1) (bP i j) (.slice A' jw xP))∧
   (∀i j,i<n→e.cm[j]?=some .int→bP i j=1∧ ∀wr,dC S w wr→ ∃u,wr.cell? ⟨c,o+(i*e.cm.length+j),none⟩=some u∧wr.frozen? ⟨c,o+(i*e.cm.length+j),none⟩=false∧ ∀x,dC S w (wr.setCell ⟨c,o+(i*e.cm.length+j),none⟩ (.int .i64 x)))∧
   ∀i j,i<n→e.cm[j]?=some .bool→bP i j=1∧ ∀wr,dC S w wr→ ∃u,wr.cell? ⟨c,o+(i*e.cm.length+j),none⟩=some u∧wr.frozen? ⟨c,o+(i*e.cm.length+j),none⟩=false∧ ∀x,dC S w (wr.setCell ⟨c,o+(i*e.cm.length+j),none⟩ (.bool x)):=by
 refine⟨by cases h with | aR h1=>exact h1.2,?_⟩
 by_cases ap:0<n
 ·obtain⟨c,o,aw,ty,bP,c3,ez,bw,hm,_,hv⟩:=h.cells ap
  refine⟨c,o,bP,fun _=>c3,hm,fun i j b1 hi ar=> ?_,fun i j hi ar=> ?_,fun i j hi ar=> ?_⟩
  ·obtain⟨u,hu,hk⟩:=hv i j _ hi ar
   obtain⟨A',jw,xP,rfl⟩:=hk.qj
   exact⟨A',jw,xP,fun wr hw=>⟨hw.head bw hu,hk.lR hw⟩⟩
  ·obtain⟨u,hu,hk⟩:=hv i j _ hi ar
   obtain⟨h1,bC,rfl⟩:=hk.of_int
   refine⟨h1,fun wr hw=> ?_⟩
   obtain⟨bM,q1,q2,q3⟩:=hw.at bw
   have af:=q3 (o+(i*e.cm.length+j))
   rw[hu] at af
   have hs: ∃y,bM[o+(i*e.cm.length+j)]?=some (.int .i64 y):=by
    rcases af with q | ⟨_,y,_,q⟩ | ⟨_,_,q,_⟩
    ·exact⟨_,q⟩
    ·exact⟨_,q⟩
    ·cases q
   obtain⟨y,bd⟩:=hs
   exact⟨_,by simp only[World.cell?,q1];exact bd,by simp[World.frozen?,q1],fun x=>hw.trans (dC.setCell q1 ez (by rw[bd];exact .inr (.inl ⟨_,_,rfl,rfl⟩)))⟩
  ·obtain⟨u,hu,hk⟩:=hv i j _ hi ar
   obtain⟨h1,bC,rfl⟩:=hk.of_bool
   refine⟨h1,fun wr hw=> ?_⟩
   obtain⟨bM,q1,q2,q3⟩:=hw.at bw
   have af:=q3 (o+(i*e.cm.length+j))
   rw[hu] at af
   have hs: ∃y,bM[o+(i*e.cm.length+j)]?=some (.bool y):=by
    rcases af with q | ⟨_,_,q,_⟩ | ⟨_,y,_,q⟩
    ·exact⟨_,q⟩
    ·cases q
    ·exact⟨_,q⟩
   obtain⟨y,bd⟩:=hs
   exact⟨_,by simp only[World.cell?,q1];exact bd,by simp[World.frozen?,q1],fun x=>hw.trans (dC.setCell q1 ez (by rw[bd];exact .inr (.inr ⟨_,_,rfl,rfl⟩)))⟩
 ·obtain rfl:n=0:=by omega
  exact⟨0,0,fun _ _=>0,fun h=>absurd h ap,h.zero,fun i j b1 hi=>by omega,fun i j hi=>by omega,fun i j hi=>by omega⟩
def qO (P:Program) (f:FuncId) (e:aX):Prop:= ∀(w:World) (S:Nat→Prop) (m:Nat) (v:Value) (k:Int),dm w S e m v→0≤k→k+m≤4611686018427387904→
 Calls P f #[v,.int .i64 k] w fun kZ w'=>kZ= .returned (.int .i64 (k+m))∧dC S w w'
theorem aaR {α:Type} (g:α→Nat): ∀(xs:List α) (f:Nat→Nat),(∀(i:Nat) (x:α),xs[i]?=some x→f i=g x)→b3 f xs.length=(xs.map g).sum:=by
 intro xs f h
 have key: ∀(n:Nat),n≤xs.length→b3 f n=((xs.take n).map g).sum:=by
  intro n
  induction n with
  | zero=>intro _;simp[b3]
  | succ n bx=>
   intro ap
   show b3 f n+f n=_
   rw[List.take_succ_eq_append_getElem (by omega),List.map_append,List.sum_append,bx (by omega),h n _ (List.getElem?_eq_getElem (by omega))]
   simp
 have:=key xs.length (Nat.le_refl _)
 rw[List.take_length] at this
 exact this
theorem rI {w:World} {S PA PF:Nat→Prop} {e:aX} {xs:List e.T} {cW fr:Bool} {v:Value} (Am:e.T→Nat→Nat) (h:aQ w PA PF (.aR (xs.map (b4 false e)) cW fr) v) (h1: ∀c,PA c→S c∧Plain w c) (h2: ∀c,PF c→S c∧Plain w c)
  (aE: ∀x∈xs,∀(PB:Nat→Prop) j b1 a u,(∀c,PB c→S c∧Plain w c)→e.cm[j]?=some b1→(b4 false e x)[j]?=some a→aQ w PB (fun _=>False) a u→dm w S b1 (Am x j) u):
  dm w S (.l e) (xs.map fun x=>b3 (Am x) e.cm.length).sum v:=by
 cases h with
 | @aR _ _ PB _ _ _ A cap sz vs dY ec eN bU dd hrel=>
  have cS: ∀c,PB c→S c∧Plain w c:=fun c hc=>by
   have:=dY c hc
   split at this
   ·exact h2 c this
   ·exact h1 c this
  have row: ∀i (hi:i<xs.length),(xs.map (b4 false e))[i]?=some (b4 false e xs[i]):=fun i hi=>by rw[List.getElem?_map,List.getElem?_eq_getElem hi];rfl
  have GR: ∀x:e.T,(b4 false e x).length=e.cm.length:=fun x=>by
   rw[←ly]
   have: ∀(es:List aX) (y:cq es),(ha false es y).length=es.length:=by
    intro es
    induction es with
    | nil=>intro _;rfl
    | cons e r bx=>intro y;show((_:List AV)).length=_;rw[ha,List.length_cons,bx y.2];rfl
   exact this _ _
  rw[←aaR (fun x=>b3 (Am x) e.cm.length) xs (fun i=>b3 (fun j=>match xs[i]? with
   | some x=>Am x j
   | none=>0) e.cm.length) fun i x hx=>by simp only[hx]]
  rw[List.length_map] at ec dd ⊢
  refine .aR (vs:=vs) ec (fun ap=> ?_) fun i j b1 hi ar=> ?_
  ·obtain⟨c,o,q1,q2,q3⟩:=dd ap
   obtain⟨aw,ty,ai⟩:=(cS c q2).2
   have aJ:sz=e.cm.length:=by rw[←bU 0 _ (row 0 ap),GR]
   subst aJ
   refine⟨c,o,aw,ty,q1,(cS c q2).1,ai,fun i j hi ar=> ?_⟩
   have:=q3 i j hi ar
   simp only[World.cell?,ai] at this
   simpa using this
  ·have j8:=(List.getElem?_eq_some_iff.1 ar).1
   have aC:(b4 false e xs[i])[j]?=some ((b4 false e xs[i])[j]'(by rw[GR];exact j8)):=List.getElem?_eq_getElem _
   rw[List.getElem?_eq_getElem hi]
   exact aE xs[i] (List.getElem_mem hi) PB j b1 _ _ cS ar aC (hrel i j _ _ (row i hi) aC)
theorem w2 {α:Type} (c:Nat): ∀xs:List α,(xs.map fun _=>c).sum=xs.length*c
 | []=>by simp
 | x::r=>by rw[List.map_cons,List.sum_cons,w2 c r,List.length_cons,Nat.succ_mul];omega
section
variable {w:World} {S PA PF:Nat→Prop} {v:Value} {cW fr:Bool}
theorem p_ {PB:Nat→Prop} {n:Int} {u:Value} (h:aQ w PB (fun _=>False) (.int .i64 n) u):dm w S .int 1 u:=by cases h;exact .int _
theorem JB {PB:Nat→Prop} {n:Bool} {u:Value} (h:aQ w PB (fun _=>False) (.bool n) u):dm w S .bool 1 u:=by cases h;exact .bool _
theorem y3 {xs:List Int} (h:aQ w PA PF (.aR (xs.map bO) cW fr) v) (h1: ∀c,PA c→S c∧Plain w c) (h2: ∀c,PF c→S c∧Plain w c):dm w S (.l .int) xs.length v:=by
 have:=rI (e:= .int) (fun _ _=>1) h h1 h2 fun x _ PB j b1 a u _ ar aC aq=>by
  match j,ar,aC with
  | 0,ar,aC=>cases ar;cases aC;exact p_ aq
 have e:(xs.map fun x=>b3 (fun _=>1) (aX.cm .int).length).sum=xs.length:=by
  show(xs.map fun _=>1).sum=_
  rw[w2,Nat.mul_one]
 rw[e] at this;exact this
theorem Ds {xs:List Bool} (h:aQ w PA PF (.aR (xs.map aU) cW fr) v) (h1: ∀c,PA c→S c∧Plain w c) (h2: ∀c,PF c→S c∧Plain w c):dm w S (.l .bool) xs.length v:=by
 have:=rI (e:= .bool) (fun _ _=>1) h h1 h2 fun x _ PB j b1 a u _ ar aC aq=>by
  match j,ar,aC with
  | 0,ar,aC=>cases ar;cases aC;exact JB aq
 have e:(xs.map fun x=>b3 (fun _=>1) (aX.cm .bool).length).sum=xs.length:=by
  show(xs.map fun _=>1).sum=_
  rw[w2,Nat.mul_one]
 rw[e] at this;exact this
theorem JC {xs:List b9} (h:aQ w PA PF (.aR (xs.map di) cW fr) v) (h1: ∀c,PA c→S c∧Plain w c) (h2: ∀c,PF c→S c∧Plain w c):dm w S (.l .bG) (xs.length*2) v:=by
 have:=rI (e:= .bG) (fun _ _=>1) h h1 h2 fun x _ PB j b1 a u _ ar aC aq=>by
  match j,ar,aC with
  | 0,ar,aC=>cases ar;cases aC;exact p_ aq
  | 1,ar,aC=>cases ar;cases aC;exact p_ aq
 have e:(xs.map fun x=>b3 (fun _=>1) (aX.cm .bG).length).sum=xs.length*2:=w2 2 xs
 rw[e] at this;exact this
theorem U2 {xs:List ck} (h:aQ w PA PF (.aR (xs.map br) cW fr) v) (h1: ∀c,PA c→S c∧Plain w c) (h2: ∀c,PF c→S c∧Plain w c):dm w S (.l .dO) (xs.length*2) v:=by
 have:=rI (e:= .dO) (fun _ _=>1) h h1 h2 fun x _ PB j b1 a u _ ar aC aq=>by
  match j,ar,aC with
  | 0,ar,aC=>cases ar;cases aC;exact p_ aq
  | 1,ar,aC=>cases ar;cases aC;exact p_ aq
 have e:(xs.map fun x=>b3 (fun _=>1) (aX.cm .dO).length).sum=xs.length*2:=w2 2 xs
 rw[e] at this;exact this
def rR (x:Way):Nat:=x.ag.length+x.a7.length*2+x.bJ.length*2+x.bZ.length+x.c6.length
theorem U3 {xs:List Way} (h:aQ w PA PF (.aR (xs.map (dI false)) cW fr) v) (h1: ∀c,PA c→S c∧Plain w c) (h2: ∀c,PF c→S c∧Plain w c):dm w S (.l .dF) (xs.map rR).sum v:=by
 have:=rI (e:= .dF) (fun x j=>[x.ag.length,x.a7.length*2,x.bJ.length*2,x.bZ.length,x.c6.length].getD j 0) h h1 h2 fun x _ PB j b1 a u cS ar aC aq=>by
  match j,ar,aC with
  | 0,ar,aC=>cases ar;cases aC;exact y3 aq cS (fun _ h=>h.elim)
  | 1,ar,aC=>cases ar;cases aC;exact JC aq cS (fun _ h=>h.elim)
  | 2,ar,aC=>cases ar;cases aC;exact JC aq cS (fun _ h=>h.elim)
  | 3,ar,aC=>cases ar;cases aC;exact y3 aq cS (fun _ h=>h.elim)
  | 4,ar,aC=>cases ar;cases aC;exact y3 aq cS (fun _ h=>h.elim)
 have e:(xs.map fun x:Way=>b3 (fun j=>[x.ag.length,x.a7.length*2,x.bJ.length*2,x.bZ.length,x.c6.length].getD j 0) (aX.cm .dF).length).sum=(xs.map rR).sum:=by
  congr 1
  refine List.map_congr_left fun x _=> ?_
  show 0+x.ag.length+x.a7.length*2+x.bJ.length*2+x.bZ.length+x.c6.length=rR x
  unfold rR;omega
 rw[e] at this;exact this
theorem U0 {xs:List (List Bool)} (h:aQ w PA PF (.aR (xs.map (e1 aU false)) cW fr) v) (h1: ∀c,PA c→S c∧Plain w c) (h2: ∀c,PF c→S c∧Plain w c):dm w S (.l (.l .bool)) (xs.map List.length).sum v:=by
 have:=rI (e:= .l .bool) (fun x j=>x.length) h h1 h2 fun x _ PB j b1 a u cS ar aC aq=>by
  match j,ar,aC with
  | 0,ar,aC=>cases ar;cases aC;exact Ds aq cS (fun _ h=>h.elim)
 have e:(xs.map fun x:List Bool=>b3 (fun j=>x.length) (aX.cm (.l .bool)).length).sum=(xs.map List.length).sum:=by
  congr 1
  refine List.map_congr_left fun x _=> ?_
  show 0+x.length=_
  omega
 rw[e] at this;exact this
def rQ (x:ab):Nat:=4+x.U.length
theorem U1 {xs:List ab} (h:aQ w PA PF (.aR (xs.map (ct false)) cW fr) v) (h1: ∀c,PA c→S c∧Plain w c) (h2: ∀c,PF c→S c∧Plain w c):dm w S (.l .held) (xs.map rQ).sum v:=by
 have:=rI (e:= .held) (fun x j=>[1,1,x.U.length,1,1].getD j 0) h h1 h2 fun x _ PB j b1 a u cS ar aC aq=>by
  match j,ar,aC with
  | 0,ar,aC=>cases ar;cases aC;exact p_ aq
  | 1,ar,aC=>cases ar;cases aC;exact p_ aq
  | 2,ar,aC=>cases ar;cases aC;exact Ds aq cS (fun _ h=>h.elim)
  | 3,ar,aC=>cases ar;cases aC;exact JB aq
  | 4,ar,aC=>cases ar;cases aC;exact p_ aq
 have e:(xs.map fun x:ab=>b3 (fun j=>[1,1,x.U.length,1,1].getD j 0) (aX.cm .held).length).sum=(xs.map rQ).sum:=by
  congr 1
  refine List.map_congr_left fun x _=> ?_
  show 0+1+1+x.U.length+1+1=rQ x
  unfold rQ;omega
 rw[e] at this;exact this
end
def r1 (b:dh) (x y:TV):TV:=match x with
 | .i k n=>(match y with
  | .i iR m=>if k=iR then .i k (bif b.den then n else m) else .u
  | _=> .u)
 | .b x=>(match y with
  | .b y=> .b (dh.r0 b x y)
  | _=> .u)
 | .s x=>(match y with
  | .s y=> .s (bif b.den then x else y)
  | _=> .u)
 | _=> .u
def dh.lS:dh→dh→Bool
 | .at i _,.at j _=>Nat.beq i j
 | .t,.t=>true
 | .f,.f=>true
 | .n x,.n y=>x.lS y
 | .bm x y,.bm z w=>x.lS z&&y.lS w
 | .or x y,.or z w=>x.lS z&&y.lS w
 | .ite c x y,.ite d z w=>c.lS d&&x.lS z&&y.lS w
 | .sY x y,.sY z w=>x.lS z&&y.lS w
 | .ne x y,.ne z w=>x.lS z&&y.lS w
 | _,_=>false
def DB (x y:TV):Bool:=match x with
 | .b x=>(match y with
  | .b y=>x.lS y
  | _=>false)
 | _=>false
def zc (b:dh) (x y:TV):TV:=match DB x y with
 | true=>x
 | false=>r1 b x y
def rL (s s':TS):List (Nat×TV)→List (List (Nat×TV)×List (Nat×TV))
 | []=>[]
 | p::r=>match DB (s.get p.1) (s'.get p.1) with
  | true=>([(p.1,s.get p.1)],[(p.1,s'.get p.1)])::rL s s' r
  | false=>rL s s' r
inductive oM where
 | bad
 | none
 | some (s:TS) (hV:List (List (Nat×TV)×List (Nat×TV)))
def jL {e b1:aX} (h:b1=e) (xs:List b1.T):List e.T:=h▸xs
def B1:(e:aX)→TV→e.T
 | .int,.i _ m=>m
 | .u64,.i _ m=>m
 | .bool,.b x=>x.den
 | .str,.s x=>x
 | .l e,.l b1 xs _ _=>if h:b1=e then jL h xs else[]
 | e,_=>e.rG.default
def m1:(es:List aX)→List TV→cq es
 | [],_=>()
 | e::r,v::vs=>(B1 e v,m1 r vs)
 | e::r,[]=>(e.rG.default,m1 r [])
def oo (c:List TV):ie:=aX.mk .fG (m1 aX.fG.cm c)
def y0:TV→Bool
 | .ev _ _=>true
 | _=>false
def tL (s s':TS):List (Nat×TV)→Bool
 | []=>true
 | (k,_)::r=>match Nat.blt k 1000000 with
  | true=>tL s s' r
  | false=>match y0 (s.get k)&&y0 (s'.get k)&&Nat.ble 1000010 k with
   | true=>tL s s' r
   | false=>false
def Xf (b:dh) (x y:TV):TV:=match x with
 | .ev g c=>(match y with
  | .ev _ b_=> .ev g (hL false .fG (bif b.den then oo c else oo b_))
  | _=> .u)
 | _=> .u
def pf (b:dh) (k:Nat) (x y:TV):TV:=match Nat.blt k 1000000 with
 | true=>zc b x y
 | false=>Xf b x y
def Ym (x y:TV):List (List (Nat×TV)×List (Nat×TV)):=match x with
 | .ev g c=>(match y with
  | .ev cL b_=>[([(g,.agg c)],[(cL,.agg (hL false .fG (oo c)))]),([(0,.agg b_)],[(0,.agg (hL false .fG (oo b_)))])]
  | _=>[])
 | _=>[]
def r8 (s s':TS):List (Nat×TV)→List (List (Nat×TV)×List (Nat×TV))
 | []=>[]
 | p::r=>match Nat.blt p.1 1000000 with
  | true=>r8 s s' r
  | false=>Ym (s.get p.1) (s'.get p.1)++r8 s s' r
def x7:List (Nat×Nat)→List (Nat×Nat)→Bool
 | [],[]=>true
 | (a,b)::r,(c,d)::q=>Nat.beq a c&&Nat.beq b d&&x7 r q
 | _,_=>false
def oM.hg (b:dh) (en:TS) (x y:oM):oM:=match x with
 | .bad=> .bad
 | .none=>(match y with
  | .bad=> .bad
  | .none=> .none
  | .some s q=> .some ⟨s.T++en.T,en.B,s.vs,s.aW⟩ ((s.B,en.T++en.B)::q))
 | .some s q=>(match y with
  | .bad=> .bad
  | .none=> .some ⟨s.T++en.T,en.B,s.vs,s.aW⟩ ((s.B,en.T++en.B)::q)
  | .some s' wB=>match tL s s' (s.T++s'.T)&&x7 s.vs s'.vs&&Nat.beq s.aW s'.aW with
   | true=> .some ⟨(s.T++s'.T).map (fun p=>(p.1,pf b p.1 (s.get p.1) (s'.get p.1)))++en.T,en.B,s.vs,s.aW⟩ ((s.B,en.T++en.B)::(s'.B,en.T++en.B)::(q++(wB++(rL s s' (s.T++s'.T)++r8 s s' (s.T++s'.T)))))
   | false=> .bad)
def aG.kD:aG→oM
 | .iS ex s=>(match ex with
  | .normal=> .some s []
  | _=> .none)
 | .gm | .no=> .none
 | .p _ t | .h5 _ t | .eq _ _ t=>t.kD
 | .hg b s x y=>oM.hg b s x.kD y.kD
 | .two _ _ | .all _ _=> .bad
 | .gi x _ _ y=>(match x.kD with
  | .none=>y.kD
  | _=> .bad)
def aG.js:aG→dh
 | .iS ex _=>(match ex with
  | .normal=> .t
  | _=> .f)
 | .gm | .no=> .f
 | .p _ t | .h5 _ t | .eq _ _ t=>t.js
 | .hg b _ x y=>dh.r0 b x.js y.js
 | .two _ _ | .all _ _=> .t
 | .gi _ _ b y=>(match b with
  | .t=>y.js
  | b=>dh.r0 b y.js .f)
def aG.facts:aG→List Prop
 | .iS _ _ | .gm | .no | .two _ _ | .all _ _=>[]
 | .p _ t | .eq _ _ t=>t.facts
 | .h5 φ t=>φ::t.facts
 | .hg _ _ x y=>(match x.js with
  | .f=>y.facts
  | _=>match y.js with
   | .f=>x.facts
   | _=>[])
 | .gi _ ds _ y=>ds++y.facts
def FT (x y:TV):Prop:= ∃g c b_,x= .ev g c∧y= .ev g b_∧cc b_=cc c
structure TS.fx (s S:TS):Prop where
 vs:S.vs=s.vs
 aW:S.aW=s.aW
 get: ∀k,S.get k=s.get k∨(k<1000000∧((S.get k).bi=(s.get k).bi∨(S.get k).bi= .undef))∨(1000010≤k∧FT (s.get k) (S.get k))
theorem TS.fx.refl (s:TS):s.fx s:=⟨rfl,rfl,fun _=> .inl rfl⟩
theorem TS.fx.trans {a b c:TS} (h:a.fx b) (k:b.fx c):a.fx c:=⟨k.vs.trans h.vs,k.aW.trans h.aW,fun t=>by
 rcases k.get t with e | ⟨aE,e⟩ | ⟨aE,e⟩
 ·rw[e];exact h.get t
 ·refine .inr (.inl ⟨aE,?_⟩)
  rcases e with e | e
  ·rcases h.get t with q | ⟨_,q⟩ | ⟨hb,_⟩
   ·rw[e,q];exact .inl rfl
   ·rw[e];exact q
   ·omega
  ·exact .inr e
 ·refine .inr (.inr ⟨aE,?_⟩)
  rcases h.get t with q | ⟨hb,_⟩ | ⟨_,q⟩
  ·rw[←q];exact e
  ·omega
  ·obtain⟨g,x,y,aT,e2,c0⟩:=e
   obtain⟨cL,l8,Oj,f1,f2,f3⟩:=q
   rw[aT] at f2
   cases f2
   exact⟨g,l8,y,f1,e2,c0.trans f3⟩⟩
theorem Xt {s s':TS} {l:List (Nat×TV)} (h:tL s s' l=true) {k:Nat} {v:TV} (hm:(k,v)∈l) (hk: ¬k<1000000):1000010≤k∧(∃g c,s.get k= .ev g c)∧ ∃g c,s'.get k= .ev g c:=by
 induction l with
 | nil=>cases hm
 | cons p r bx=>
  obtain⟨a,w⟩:=p
  unfold tL at h
  split at h
  ·rename_i aC
   rcases List.mem_cons.1 hm with e | hm
   ·cases e;exact absurd (by rw[←Nat.blt_eq];exact aC) hk
   ·exact bx h hm
  ·split at h
   ·rename_i hc
    rcases List.mem_cons.1 hm with e | hm
    ·cases e
     simp only[Bool.and_eq_true] at hc
     have Ma: ∀x:TV,y0 x=true→ ∃g c,x= .ev g c:=fun x hx=>by
      unfold y0 at hx
      split at hx
      ·exact⟨_,_,rfl⟩
      ·cases hx
     exact⟨Nat.le_of_ble_eq_true hc.2,Ma _ hc.1.1,Ma _ hc.1.2⟩
    ·exact bx h hm
   ·cases h
theorem L9 {s s':TS}: ∀{l:List (Nat×TV)},(∀p∈r8 s s' l,p.1=p.2)→ ∀k v,(k,v)∈l→ ¬k<1000000→ ∀(g:Nat) (c:List TV) (cL:Nat) (b_:List TV),s.get k= .ev g c→s'.get k= .ev cL b_→g=cL∧c=hL false .fG (oo c)∧b_=hL false .fG (oo b_)
 | [],_,k,v,h,_=>by cases h
 | p::r,af,k,v,h,hk=>fun g c cL b_ aT e2=>by
  unfold r8 at af
  rcases List.mem_cons.1 h with e | h
  ·cases e
   have hb:Nat.blt k 1000000=false:=by
    cases hb:Nat.blt k 1000000 with
    | true=>rw[Nat.blt_eq] at hb;exact absurd hb hk
    | false=>rfl
   simp only[hb,aT,e2] at af
   have q1:=af _ (List.mem_append_left _ (List.mem_cons_self ..))
   have q2:=af _ (List.mem_append_left _ (List.mem_cons_of_mem _ (List.mem_cons_self ..)))
   injection q1 with J _
   injection q2 with a2 _
   have dV:=(Prod.mk.inj J)
   have bV:=(Prod.mk.inj a2)
   exact⟨dV.1,TV.agg.inj dV.2,TV.agg.inj bV.2⟩
  ·refine L9 (fun q hm=>af q ?_) k v h hk g c cL b_ aT e2
   split
   ·exact hm
   ·exact List.mem_append_right _ hm
theorem GX: ∀{l m:List (Nat×Nat)},x7 l m=true→l=m
 | [],[],_=>rfl
 | [],_::_,h=>by cases h
 | _::_,[],h=>by cases h
 | (a,b)::r,(c,d)::q,h=>by
  simp only[x7,Bool.and_eq_true] at h
  rw[Nat.eq_of_beq_eq_true h.1.1,Nat.eq_of_beq_eq_true h.1.2,GX h.2]
theorem XO {b:dh} {x y:TV} (h:b.den=true):(r1 b x y).bi=x.bi∨(r1 b x y).bi= .undef:=by
 unfold r1
 split
 ·split
  ·split
   ·left;simp[TV.bi,h]
   ·exact .inr rfl
  ·exact .inr rfl
 ·split
  ·left;simp[TV.bi,dh.wx,h]
  ·exact .inr rfl
 ·split
  ·left;simp[TV.bi,h]
  ·exact .inr rfl
 ·exact .inr rfl
theorem XN {b:dh} {x y:TV} (h:b.den=false):(r1 b x y).bi=y.bi∨(r1 b x y).bi= .undef:=by
 unfold r1
 split
 ·split
  ·split
   ·rename_i e;left;subst e;simp[TV.bi,h]
   ·exact .inr rfl
  ·exact .inr rfl
 ·split
  ·left;simp[TV.bi,dh.wx,h]
  ·exact .inr rfl
 ·split
  ·left;simp[TV.bi,h]
  ·exact .inr rfl
 ·exact .inr rfl
theorem Yq {s en:TS} (h:s.B=en.T++en.B) (vs:List (Nat×Nat)) (aW k:Nat):TS.get ⟨s.T++en.T,en.B,vs,aW⟩ k=s.get k:=by
 unfold TS.get
 simp only
 rw[h,rO,rO]
theorem WO {l:List (Nat×TV)} {f:Nat→TV} {k:Nat} {d:TV}:((∃v,(k,v)∈l)∧fN (l.map fun p=>(p.1,f p.1)) k d=f k)∨((∀v,(k,v) ∉ l)∧fN (l.map fun p=>(p.1,f p.1)) k d=d):=by
 induction l with
 | nil=>exact .inr ⟨(fun v h=>by cases h),rfl⟩
 | cons p r bx=>
  obtain⟨a,w⟩:=p
  rw[List.map_cons,fW]
  by_cases e:a=k
  ·subst e;exact .inl ⟨⟨w,List.mem_cons_self ..⟩,if_pos rfl⟩
  ·rw[if_neg e]
   rcases bx with⟨⟨v,q⟩,h⟩ | ⟨q,h⟩
   ·exact .inl ⟨⟨v,List.mem_cons_of_mem _ q⟩,h⟩
   ·refine .inr ⟨fun v hv=> ?_,h⟩
    rcases List.mem_cons.1 hv with hv | hv
    ·cases hv;exact e rfl
    ·exact q v hv
theorem KP {s s':TS}: ∀{l:List (Nat×TV)},(∀p∈rL s s' l,p.1=p.2)→ ∀k v,(k,v)∈l→DB (s.get k) (s'.get k)=true→s.get k=s'.get k
 | [],_,k,v,h,_=>by cases h
 | p::r,af,k,v,h,aE=>by
  unfold rL at af
  rcases List.mem_cons.1 h with e | h
  ·cases e
   rw[aE] at af
   have:=af _ (List.mem_cons_self ..)
   injection this with aT _
   exact(Prod.mk.inj aT).2
  ·refine KP (fun q hm=>af q ?_) k v h aE
   split
   ·exact List.mem_cons_of_mem _ hm
   ·exact hm
theorem W2 {b:dh} {en s s':TS} (h1:s.B=en.T++en.B) (h2:s'.B=en.T++en.B) (c7:tL s s' (s.T++s'.T)=true) (hv:s.vs=s'.vs) (ap:s.aW=s'.aW) (af: ∀p∈rL s s' (s.T++s'.T)++r8 s s' (s.T++s'.T),p.1=p.2):
  let S:TS:=⟨(s.T++s'.T).map (fun p=>(p.1,pf b p.1 (s.get p.1) (s'.get p.1)))++en.T,en.B,s.vs,s.aW⟩
  (b.den=true→s.fx S)∧(b.den=false→s'.fx S):=by
 intro S
 have CF: ∀p∈rL s s' (s.T++s'.T),p.1=p.2:=fun p ai=>af p (List.mem_append_left _ ai)
 have jT: ∀p∈r8 s s' (s.T++s'.T),p.1=p.2:=fun p ai=>af p (List.mem_append_right _ ai)
 have fM: ∀k,((∃v,(k,v)∈s.T++s'.T)∧S.get k=pf b k (s.get k) (s'.get k))∨((∀v,(k,v) ∉ s.T++s'.T)∧S.get k=fN en.T k (fN en.B k .u)):=fun k=>by
  have e:S.get k=fN (List.map (fun p=>(p.1,(fun k=>pf b k (s.get k) (s'.get k)) p.1)) (s.T++s'.T)) k (fN en.T k (fN en.B k .u)):=by
   show fN (_++en.T) k _=_
   rw[rO]
  rw[e];exact WO (f:=fun k=>pf b k (s.get k) (s'.get k))
 have base: ∀(x:TS),x.B=en.T++en.B→ ∀k,(∀v,(k,v) ∉ x.T)→x.get k=fN en.T k (fN en.B k .u):=fun x hx k hk=>by
  unfold TS.get;rw[qa hk,hx,rO]
 have MS: ∀k,k<1000000→pf b k (s.get k) (s'.get k)=zc b (s.get k) (s'.get k):=fun k hk=>by
  unfold pf;rw[show Nat.blt k 1000000=true by rw[Nat.blt_eq];exact hk]
 have Gd: ∀k v,(k,v)∈s.T++s'.T→ ¬k<1000000→1000010≤k∧ ∃g c b_,s.get k= .ev g c∧s'.get k= .ev g b_∧c=hL false .fG (oo c)∧b_=hL false .fG (oo b_)∧pf b k (s.get k) (s'.get k)= .ev g (hL false .fG (bif b.den then oo c else oo b_)):=fun k v hm hk=>by
  obtain⟨b8,⟨g,c,aT⟩,cL,b_,e2⟩:=Xt c7 hm hk
  obtain⟨c9,dn,fi⟩:=L9 jT k v hm hk _ _ _ _ aT e2
  subst c9
  refine⟨b8,g,c,b_,aT,e2,dn,fi,?_⟩
  unfold pf
  have hb:Nat.blt k 1000000=false:=by
   cases hb:Nat.blt k 1000000 with
   | true=>rw[Nat.blt_eq] at hb;exact absurd hb hk
   | false=>rfl
  rw[hb,aT,e2];rfl
 refine⟨fun hb=>⟨rfl,rfl,fun k=> ?_⟩,fun hb=>⟨hv,ap,fun k=> ?_⟩⟩
 ·rcases fM k with⟨⟨v,q⟩,h⟩ | ⟨q,h⟩
  ·by_cases hk:k<1000000
   ·rw[h,MS k hk];refine .inr (.inl ⟨hk,?_⟩)
    unfold zc
    split
    ·exact .inl rfl
    ·exact XO hb
   ·obtain⟨b8,g,c,b_,aT,e2,dn,fi,c0⟩:=Gd k v q hk
    refine .inr (.inr ⟨b8,g,c,_,aT,h.trans c0,?_⟩)
    rw[hb];exact congrArg cc dn.symm
  ·rw[h];exact .inl (base s h1 k fun v hv=>q v (List.mem_append_left _ hv)).symm
 ·rcases fM k with⟨⟨v,q⟩,h⟩ | ⟨q,h⟩
  ·by_cases hk:k<1000000
   ·rw[h,MS k hk];refine .inr (.inl ⟨hk,?_⟩)
    unfold zc
    split
    ·rename_i aE;rw[KP CF k v q aE];exact .inl rfl
    ·exact XN hb
   ·obtain⟨b8,g,c,b_,aT,e2,dn,fi,c0⟩:=Gd k v q hk
    refine .inr (.inr ⟨b8,g,b_,_,e2,h.trans c0,?_⟩)
    rw[hb];exact congrArg cc fi.symm
  ·rw[h];exact .inl (base s' h2 k fun v hv=>q v (List.mem_append_right _ hv)).symm
theorem aG.K2: ∀{t:aG} {R:Exit→TS→Prop},t.kD= .none→t.den R→t.den fun ex s=>R ex s∧ex≠ .normal:=by
 intro t
 induction t with
 | iS ex s=>
  intro R h d
  refine⟨d,?_⟩
  rintro rfl;cases h
 | gm=>intros;trivial
 | no=>intro R h d;exact d
 | p φ t bx=>intro R h d;exact⟨d.1,bx h d.2⟩
 | h5 φ t bx=>intro R h d;exact fun q=>bx h (d q)
 | eq a b t bx=>intro R h d;exact⟨d.1,bx h d.2⟩
 | two x y gr gh=>intro R h;cases h
 | all α f bx=>intro R h;cases h
 | gi x ds b y gr gh=>
  intro R h d
  unfold aG.kD at h
  split at h
  ·rename_i hx;exact⟨gr hx d.1,fun q=>gh h (d.2 q)⟩
  ·cases h
 | hg b s x y gr gh=>
  intro R h d
  have h:oM.hg b s x.kD y.kD= .none:=h
  unfold oM.hg at h
  split at h
  ·cases h
  ·rename_i hx
   split at h
   ·cases h
   ·rename_i bd;exact⟨fun q=>gr hx (d.1 q),fun q=>gh bd (d.2 q)⟩
   ·cases h
  ·split at h
   ·cases h
   ·cases h
   ·split at h<;>cases h
theorem aG.W5: ∀{t:aG} {R:Exit→TS→Prop} {S:TS} {hV:List (List (Nat×TV)×List (Nat×TV))},t.kD= .some S hV→(∀p∈hV,p.1=p.2)→t.den R→
  t.den fun ex s=>R ex s∧(ex= .normal→s.fx S∧t.js.den=true∧ ∀φ∈t.facts,φ):=by
 intro t
 induction t with
 | iS ex s=>
  intro R S hV h af d
  refine⟨d,?_⟩
  rintro rfl
  cases h
  exact⟨.refl s,rfl,fun φ h=>by cases h⟩
 | gm=>intros;trivial
 | no=>intro R S hV h af d;exact d
 | p φ t bx=>intro R S hV h af d;exact⟨d.1,bx h af d.2⟩
 | h5 φ t bx=>
  intro R S hV h af d q
  refine aG.oQ (bx h af (d q)) fun ex s hs=>⟨hs.1,fun e=>⟨(hs.2 e).1,(hs.2 e).2.1,fun ψ CV=> ?_⟩⟩
  rcases List.mem_cons.1 CV with rfl | CV
  ·exact q
  ·exact(hs.2 e).2.2 ψ CV
 | eq a b t bx=>intro R S hV h af d;exact⟨d.1,bx h af d.2⟩
 | two x y gr gh=>intro R S hV h;cases h
 | all α f bx=>intro R S hV h;cases h
 | gi x ds b y gr gh=>
  intro R S hV h af d
  unfold aG.kD at h
  split at h
  ·rename_i hx
   refine⟨aG.oQ (aG.K2 hx d.1) fun ex s hs=>⟨hs.1,fun e=>absurd e hs.2⟩,fun q=>aG.oQ (gh h af (d.2 q)) fun ex s hs=>⟨hs.1,fun e=> ?_⟩⟩
   obtain⟨h1,h2,aH⟩:=hs.2 e
   have dy: ∀(l:List Prop),n3 l→ ∀φ∈l,φ:=by
    intro l
    induction l with
    | nil=>intro _ φ dK;cases dK
    | cons a r bx=>
     intro hc φ dK
     cases r with
     | nil=>rw[List.mem_singleton.1 dK];exact hc
     | cons gS zF=>
      have hc:a∧n3 (gS::zF):=hc
      rcases List.mem_cons.1 dK with rfl | dK
      ·exact hc.1
      ·exact bx hc.2 φ dK
   have dy:=dy _ q
   refine⟨h1,?_,fun φ dK=> ?_⟩
   ·unfold aG.js
    split
    ·exact h2
    ·rename_i cd
     have hb:b.den=true:=dy _ (by
      unfold s0
      split
      ·exact absurd rfl cd
      ·simp)
     rw[dh.wx,hb,h2];rfl
   ·rcases List.mem_append.1 dK with dK | dK
    ·have hm: ∀b:dh,φ∈s0 ds b:=fun b=>by
      unfold s0
      split
      ·exact dK
      ·exact List.mem_append_left _ dK
     exact dy φ (hm b)
    ·exact aH φ dK
  ·cases h
 | hg b en x y gr gh=>
  intro R S hV h af d
  have h:oM.hg b en x.kD y.kD= .some S hV:=h
  have Lf: ∀{z:aG} {R:Exit→TS→Prop},z.kD= .none→z.den R→z.den fun ex s=>R ex s∧(ex= .normal→False):=fun aJ Qn=>aG.K2 aJ Qn
  have Hv:b.den=true→x.js.den=true→(dh.r0 b x.js y.js).den=true:=fun h1 h2=>by rw[dh.wx,h1,h2];rfl
  have Hw:b.den=false→y.js.den=true→(dh.r0 b x.js y.js).den=true:=fun h1 h2=>by rw[dh.wx,h1,h2];rfl
  have HF:x.js.den=true→(∀φ∈x.facts,φ)→ ∀φ∈(aG.hg b en x y).facts,φ:=fun h1 h2 φ dK=>by
   unfold aG.facts at dK
   split at dK
   ·rename_i e;rw[e] at h1;cases h1
   ·split at dK
    ·exact h2 φ dK
    ·cases dK
  have HG:y.js.den=true→(∀φ∈y.facts,φ)→ ∀φ∈(aG.hg b en x y).facts,φ:=fun h1 h2 φ dK=>by
   unfold aG.facts at dK
   split at dK
   ·exact h2 φ dK
   ·split at dK
    ·rename_i e;rw[e] at h1;cases h1
    ·cases dK
  have ev: ∀{s:TS},s.B=en.T++en.B→s.fx ⟨s.T++en.T,en.B,s.vs,s.aW⟩:=fun cS=>⟨rfl,rfl,fun k=> .inl (Yq cS _ _ k)⟩
  unfold oM.hg at h
  split at h
  ·cases h
  ·rename_i hx
   split at h
   ·cases h
   ·cases h
   ·rename_i s q bd
    cases h
    have cS:=af _ (List.mem_cons_self ..)
    refine⟨fun hb=>aG.oQ (Lf hx (d.1 hb)) fun ex z aJ=>⟨aJ.1,fun e=>(aJ.2 e).elim⟩,fun hb=>aG.oQ (gh bd (fun p ai=>af p (List.mem_cons_of_mem _ ai)) (d.2 hb)) fun ex z aJ=>⟨aJ.1,fun e=> ?_⟩⟩
    obtain⟨h1,h2,aH⟩:=aJ.2 e
    exact⟨h1.trans (ev cS),Hw hb h2,HG h2 aH⟩
  ·rename_i s q hx
   split at h
   ·cases h
   ·rename_i bd
    cases h
    have cS:=af _ (List.mem_cons_self ..)
    refine⟨fun hb=>aG.oQ (gr hx (fun p ai=>af p (List.mem_cons_of_mem _ ai)) (d.1 hb)) fun ex z aJ=>⟨aJ.1,fun e=> ?_⟩,fun hb=>aG.oQ (Lf bd (d.2 hb)) fun ex z aJ=>⟨aJ.1,fun e=>(aJ.2 e).elim⟩⟩
    obtain⟨h1,h2,aH⟩:=aJ.2 e
    exact⟨h1.trans (ev cS),Hv hb h2,HF h2 aH⟩
   ·rename_i s' wB bd
    split at h
    ·rename_i hc
     cases h
     simp only[Bool.and_eq_true] at hc
     obtain⟨⟨cr,gT⟩,jp⟩:=hc
     have R3:=af _ (List.mem_cons_self ..)
     have R4:=af _ (List.mem_cons_of_mem _ (List.mem_cons_self ..))
     obtain⟨a1,bA⟩:=W2 (b:=b) R3 R4 cr (GX gT) (Nat.eq_of_beq_eq_true jp) (fun p ai=>af p (List.mem_cons_of_mem _ (List.mem_cons_of_mem _ (List.mem_append_right _ (List.mem_append_right _ ai)))))
     refine⟨fun hb=>aG.oQ (gr hx (fun p ai=>af p (List.mem_cons_of_mem _ (List.mem_cons_of_mem _ (List.mem_append_left _ ai)))) (d.1 hb)) fun ex z aJ=>⟨aJ.1,fun e=> ?_⟩,
      fun hb=>aG.oQ (gh bd (fun p ai=>af p (List.mem_cons_of_mem _ (List.mem_cons_of_mem _ (List.mem_append_right _ (List.mem_append_left _ ai))))) (d.2 hb)) fun ex z aJ=>⟨aJ.1,fun e=> ?_⟩⟩
     ·obtain⟨h1,h2,aH⟩:=aJ.2 e
      exact⟨h1.trans (a1 hb),Hv hb h2,HF h2 aH⟩
     ·obtain⟨h1,h2,aH⟩:=aJ.2 e
      exact⟨h1.trans (bA hb),Hw hb h2,HG h2 aH⟩
    ·cases h
def iU:List (Nat×Nat)→Nat→Option Nat
 | [],_=>none
 | (k,m)::r,t=>match Nat.beq k t with
  | true=>some m
  | false=>iU r t
section
variable [FZ] {n:Nat} {s:TS}
theorem w0 (t:Nat):(s.av n).T.getD t .undef=if t<n then(s.get t).bi else .undef:=by
 show((List.range n).map fun t=>(s.get t).bi).getD t .undef=_
 rw[List.getD_eq_getElem?_getD,List.getElem?_map]
 by_cases h:t<n
 ·rw[List.getElem?_range h,if_pos h];rfl
 ·rw[List.getElem?_eq_none (by simpa using h),if_neg h];rfl
theorem sl (v:Nat):dt (s.av n).L v=(iU s.vs v).map fun m=>cc (gq s v 0 m):=by
 show dt (s.vs.map fun p=>(p.1,cc (gq s p.1 0 p.2))) v=_
 induction s.vs with
 | nil=>rfl
 | cons p r bx=>
  obtain⟨k,m⟩:=p
  rw[List.map_cons]
  unfold dt iU
  by_cases h:v=k
  ·subst h;simp
  ·have:Nat.beq k v=false:=by
    cases hb:Nat.beq k v with
    | true=>exact absurd (Nat.eq_of_beq_eq_true hb).symm h
    | false=>rfl
   simp only[h,if_false,this];exact bx
theorem nG (b:Nat):s.fj[b]?=if b<s.aW then some (s.get (bD b)).dW else none:=by
 show((List.range s.aW).map fun b=>(s.get (bD b)).dW)[b]?=_
 rw[List.getElem?_map]
 by_cases h:b<s.aW
 ·rw[List.getElem?_range h,if_pos h];rfl
 ·rw[List.getElem?_eq_none (by simpa using h),if_neg h];rfl
theorem kN:s.fj.length=s.aW:=by show((List.range s.aW).map _).length=_;simp
theorem pv {b:Nat} (h:b<s.aW):(s.av n).H[b]?=some (s.get (bD b)).dW:=by
 show(s.fj++fT s)[b]?=_
 rw[List.getElem?_append_left (by rw[kN];exact h),nG,if_pos h]
theorem z8 (h:hC s=true):(s.av n).H.length=s.aW:=by
 show(s.fj++fT s).length=_
 unfold fT;rw[h];simp[kN]
end
def xZ:Value→TV
 | .int k n=> .i k n
 | .bool b=> .b (match b with
  | true=> .t
  | false=> .f)
 | .string x=> .s x
 | .slice none 0 0=> .nil true true
 | .pointer none=> .o .eY
 | .nilIface=> .o .fg
 | _=> .u
theorem P9 (v:Value):(xZ v).bi=mh v:=by
 unfold xZ mh
 split
 ·rfl
 ·rename_i b;cases b<;>rfl
 ·rfl
 ·rfl
 ·rfl
 ·rfl
 ·rename_i h1 h2 aH bn cX eG
  split
  ·exact absurd rfl (h1 _ _)
  ·exact absurd rfl (h2 _)
  ·exact absurd rfl (aH _)
  ·exact absurd rfl bn
  ·exact absurd rfl cX
  ·exact absurd rfl eG
  ·rfl
def b7 (n:Nat) (s:TS):Operand→TV
 | .tmp t=>(match Nat.blt t n with
  | true=>s.get t
  | false=> .u)
 | .const v=>xZ v
 | .func f=> .fn f []
 | .global _=> .u
theorem je [FZ] (n:Nat) (s:TS):bR (s.av n).T=fun x=>(b7 n s x).bi:=by
 funext x
 cases x with
 | tmp t=>
  show(s.av n).T.getD t .undef=_
  rw[w0]
  unfold b7
  by_cases h:t<n
  ·have hb:Nat.blt t n=true:=by rw[Nat.blt_eq];exact h
   simp only[if_pos h,hb]
  ·have hb:Nat.blt t n=false:=by
    cases hb:Nat.blt t n with
    | true=>rw[Nat.blt_eq] at hb;exact absurd hb h
    | false=>rfl
   simp only[if_neg h,hb];rfl
 | const v=>exact(P9 v).symm
 | func f=>rfl
 | global g=>rfl
def Hp (x:dh) (K:dh→aG):aG:=match x with
 | .t=>K .t
 | .f=>K .f
 | .v p=>K (.v p)
 | .at i p=>K (.at i p)
 | .n p=>K (.n p)
 | .bm p q=>K (.bm p q)
 | .or p q=>K (.or p q)
 | .ite p q r=>K (.ite p q r)
 | .sY p q=>K (.sY p q)
 | .ne p q=>K (.ne p q)
theorem Rs (x:dh) (K:dh→aG):Hp x K=K x:=by cases x<;>rfl
def mZ (v:TV) (K:TV→aG):aG:=match v with
 | .u=>K .u
 | .i k m=>K (.i k m)
 | .b x=>Hp x fun x=>K (.b x)
 | .s x=>K (.s x)
 | .l e xs f r=>K (.l e xs f r)
 | .nil f r=>K (.nil f r)
 | .ref p g m f=>K (.ref p g m f)
 | .ptr p g j m c=>K (.ptr p g j m c)
 | .lp t c=>K (.lp t c)
 | .cM e x c=>K (.cM e x c)
 | .agg c=>K (.agg c)
 | .tup c=>K (.tup c)
 | .fn f c=>K (.fn f c)
 | .o a=>K (.o a)
 | .blk g e xs m h=>K (.blk g e xs m h)
 | .ev g c=>K (.ev g c)
 | .iE g m ids=>K (.iE g m ids)
 | .fH V ids n h=>K (.fH V ids n h)
 | .new id xs=>K (.new id xs)
 | .s7 w ids m n=>K (.s7 w ids m n)
 | .s5 w ids m j=>K (.s5 w ids m j)
 | .wl id m n=>K (.wl id m n)
theorem n7 (v:TV) (K:TV→aG):mZ v K=K v:=by
 cases v with
 | b x=>exact Rs x fun x=>K (.b x)
 | _=>rfl
def lz:(e:aX)→e.T→AV
 | .ptr e,x=> .cM (b4 false e x) 0
 | .gH f .unit,_=> .fn f []
 | .gH f e,x=> .fn f [lz e x]
 | e,x=>match e.isS with
  | true=> .agg (b4 false e x)
  | false=>ig false e x
def lA:(es:List aX)→cq es→List AV
 | [],_=>[]
 | e::r,x=>lz e x.1::lA r x.2
def oR (e:aX) (x:e.T):AV:=match e.isS with
 | true=> .agg (b4 true e x)
 | false=>ig true e x
def mW:(es:List aX)→cq es→List AV
 | [],_=>[]
 | e::r,x=>oR e x.1::mW r x.2
def pM:(es:List aX)→cq es→AV
 | [e],x=>oR e x.1
 | es,x=> .tup (mW es x)
def zI (e:aX) (x:e.T):TV:=match e.isS with
 | true=> .agg (hL true e x)
 | false=>w7 true e x
def zJ:(es:List aX)→cq es→List TV
 | [],_=>[]
 | e::r,x=>zI e x.1::zJ r x.2
def zK:(es:List aX)→cq es→TV
 | [e],x=>zI e x.1
 | es,x=> .tup (zJ es x)
theorem Mi (e:aX) (x:e.T):(zI e x).bi=oR e x:=by
 unfold zI oR
 cases e.isS with
 | true=>show AV.agg (cc _)=_;rw[xQ]
 | false=>exact Ft true e x
theorem Mj: ∀(es:List aX) (x:cq es),cc (zJ es x)=mW es x
 | [],_=>rfl
 | e::r,x=>by rw[zJ,cc,mW,Mi,Mj r]
theorem El (es:List aX) (x:cq es):(zK es x).bi=pM es x:=by
 match es,x with
 | [],x=>rfl
 | [e],x=>exact Mi e x.1
 | e::b1::r,x=>show AV.tup (cc _)=_;rw[Mj];rfl
structure cw (P:Program) where
 f:FuncId
 ps:List aX
 rs:List aX
 pre:Option (cq ps→Prop)
 fn:cq ps→cq rs
 ok: ∀x,(match pre with
  | none=>True
  | some p=>p x)→a_ P f (lA ps x) (pM rs (fn x))
def PI {e b1:aX} (h:b1=e) (x:b1.T):e.T:=h▸x
def xY (a8:IntKind) (v:TV) (K:Int→List Prop→aG):aG:=match v with
 | .i k n=>if k=a8 then K n [] else .no
 | _=> .no
def Bh (v:TV) (K:Bool→List Prop→aG):aG:=match v with
 | .b x=>K x.den []
 | _=> .no
def Bl (v:TV) (K:ByteArray→List Prop→aG):aG:=match v with
 | .s x=>K x []
 | _=> .no
def Bg (e:aX) (g n:Nat) (v:TV) (K:List e.T→List Prop→aG):aG:=match v with
 | .blk cL b1 xs jw _=>if h:b1=e then .eq cL g (.eq jw n (K (jL h xs) [xs.length≤4611686018427387904])) else .no
 | _=> .no
def Bm (s:TS) (e:aX) (g n:Nat) (v:TV) (K:List e.T→List Prop→aG):aG:=match v with
 | .iE cL m ids=>(match s.get cT with
  | .fH V cK bE _=>if h:aX.held=e then .eq cK ids (.eq cL 0 (.eq g 0 (.eq n bE (.eq m s.aW (K (jL h V) [V.length≤4611686018427387904]))))) else .no
  | _=> .no)
 | v=>Bg e g n v K
def Bj (s:TS) (e:aX) (v:TV) (K:List e.T→List Prop→aG):aG:=match v with
 | .l b1 xs _ _=>if h:b1=e then K (jL h xs) [] else .no
 | .nil _ _=>K [] []
 | .ref b g n _=>(match Nat.blt b s.aW with
  | true=>Bm s e g n (s.get (bD b)) K
  | false=> .no)
 | _=> .no
def lu (s:TS):(e:aX)→TV→(e.T→List Prop→aG)→aG
 | .int,v,K=>xY .i64 v K
 | .u64,v,K=>xY .u64 v K
 | .bool,v,K=>Bh v K
 | .str,v,K=>Bl v K
 | .l e,v,K=>Bj s e v K
 | _,_,_=> .no
def u4 (s:TS):(es:List aX)→List TV→(cq es→List Prop→aG)→aG
 | [],[],K=>K () []
 | e::r,v::vs,K=>lu s e v fun x o=>u4 s r vs fun y ke=>K (x,y) (o++ke)
 | _,_,_=> .no
def lv (s:TS) (e:aX) (v:TV) (K:e.T→List Prop→aG):aG:=match e.isS with
 | true=>(match v with
  | .agg c=>u4 s e.cm c fun x o=>K (e.mk x) o
  | _=> .no)
 | false=>lu s e v K
def Bk (s:TS) (e:aX) (v:TV) (K:e.T→List Prop→aG):aG:=match v with
 | .lp t c=>(match Nat.beq c 0 with
  | true=>(match iU s.vs t with
   | some m=>u4 s e.cm (gq s t 0 m) fun x o=>K (e.mk x) o
   | none=> .no)
  | false=> .no)
 | .cM b1 x c=>(match Nat.beq c 0 with
  | true=>if h:b1=e then K (PI h x) [] else .no
  | false=> .no)
 | _=> .no
def Bi (f:Nat) (v:TV) (K:Unit→List Prop→aG):aG:=match v with
 | .fn g c=>(match Nat.beq f g with
  | true=>(match c with
   | []=>K () []
   | _=> .no)
  | false=> .no)
 | _=> .no
def xX (f:Nat) (v:TV) (K:TV→aG):aG:=match v with
 | .fn g c=>(match Nat.beq f g with
  | true=>(match c with
   | [w]=>K w
   | _=> .no)
  | false=> .no)
 | _=> .no
def conv (s:TS):(e:aX)→TV→(e.T→List Prop→aG)→aG
 | .ptr e,v,K=>Bk s e v K
 | .gH f .unit,v,K=>Bi f v K
 | .gH f e,v,K=>xX f v fun w=>match e.isS with
  | true=> .no
  | false=>conv s e w K
 | .bG,v,K=>lv s .bG v K
 | .dF,v,K=>lv s .dF v K
 | .dN,v,K=>lv s .dN v K
 | .lB,v,K=>lv s .lB v K
 | .dO,v,K=>lv s .dO v K
 | .held,v,K=>lv s .held v K
 | .frame,v,K=>lv s .frame v K
 | .done,v,K=>lv s .done v K
 | .fault,v,K=>lv s .fault v K
 | .stays,v,K=>lv s .stays v K
 | .fG,v,K=>lv s .fG v K
 | .int,v,K=>lu s .int v K
 | .u64,v,K=>lu s .u64 v K
 | .u8,v,K=>lu s .u8 v K
 | .bool,v,K=>lu s .bool v K
 | .str,v,K=>lu s .str v K
 | .unit,v,K=>lu s .unit v K
 | .nat,v,K=>lu s .nat v K
 | .l e,v,K=>lu s (.l e) v K
def Bb (s:TS):(es:List aX)→List TV→(cq es→List Prop→aG)→aG
 | [],[],K=>K () []
 | e::r,v::vs,K=>conv s e v fun x o=>Bb s r vs fun y ke=>K (x,y) (o++ke)
 | _,_,_=> .no
section
variable {n:Nat} {s:TS} {R:Exit→TS→Prop}
theorem PL {L:List (Nat×List AV)} {H:List Blk} (e:aX) (x:e.T):l9 L H (b4 true e x) (b4 false e x):=by
 rw[←ly,←ly]
 have key: ∀(es:List aX) (y:cq es),l9 L H (ha true es y) (ha false es y):=by
  intro es
  induction es with
  | nil=>intro y;exact .nil
  | cons e r bx=>
   intro y
   refine .cons ?_ (bx y.2)
   cases e<;>first | exact .int _ _ | exact .bool _ | exact .str _ | exact fA | exact .undef _
 exact key _ _
end
section
variable {n:Nat} {s:TS} {R:Exit→TS→Prop}
theorem GK {k:IntKind} {v:TV} {K:Int→List Prop→aG} (h:(xY k v K).den R): ∃m,v= .i k m∧(K m []).den R:=by
 unfold xY at h
 split at h
 ·split at h
  ·rename_i e;subst e;exact⟨_,rfl,h⟩
  ·exact h.elim
 ·exact h.elim
end
section
variable {n:Nat} {s:TS} {R:Exit→TS→Prop}
theorem P3 {v:TV} {K:Bool→List Prop→aG} (h:(Bh v K).den R): ∃x,v= .b x∧(K x.den []).den R:=by
 unfold Bh at h
 split at h
 ·exact⟨_,rfl,h⟩
 ·exact h.elim
end
section
variable {n:Nat} {s:TS} {R:Exit→TS→Prop}
theorem P8 {v:TV} {K:ByteArray→List Prop→aG} (h:(Bl v K).den R): ∃x,v= .s x∧(K x []).den R:=by
 unfold Bl at h
 split at h
 ·exact⟨_,rfl,h⟩
 ·exact h.elim
end
section
variable {n:Nat} {s:TS} {R:Exit→TS→Prop}
theorem P2 {e:aX} {g m:Nat} {v:TV} {K:List e.T→List Prop→aG} (h:(Bg e g m v K).den R): ∃xs,∃hx:xs.length=m,v= .blk g e xs m hx∧(K xs [xs.length≤4611686018427387904]).den R:=by
 unfold Bg at h
 split at h
 ·rename_i cL b1 xs jw hx
  split at h
  ·rename_i bw
   subst bw
   obtain⟨h1,h2,h⟩:=h
   subst h1;subst h2
   exact⟨xs,hx,rfl,h⟩
  ·exact h.elim
 ·exact h.elim
end
section
variable {n:Nat} {s:TS} {R:Exit→TS→Prop}
theorem Zz {L:List (Nat×List AV)} {H:List Blk} {a b:AV} (h:dP L H a b) (hb: ∀l,b≠ .agg l):eW L H a b:=by
 rcases h with⟨l,eB,_,e,_⟩ | h
 ·exact absurd e (hb eB)
 ·exact h
end
section
variable {n:Nat} {s:TS} {R:Exit→TS→Prop}
theorem Qs (fr:Bool) (e:aX) (x:e.T): ∀l,ig fr e x≠ .agg l:=by
 intro l h;cases e<;>cases h
end
section
variable {n:Nat} {s:TS} {R:Exit→TS→Prop}
theorem P4 {f:Nat} {v:TV} {K:Unit→List Prop→aG} (h:(Bi f v K).den R):v= .fn f []∧(K () []).den R:=by
 unfold Bi at h
 split at h
 ·split at h
  ·rename_i hf
   obtain rfl:=Nat.eq_of_beq_eq_true hf
   split at h
   ·exact⟨rfl,h⟩
   ·exact h.elim
  ·exact h.elim
 ·exact h.elim
end
section
variable {n:Nat} {s:TS} {R:Exit→TS→Prop}
theorem P5 {f:Nat} {v:TV} {K:TV→aG} (h:(xX f v K).den R): ∃w,v= .fn f [w]∧(K w).den R:=by
 unfold xX at h
 split at h
 ·split at h
  ·rename_i hf
   obtain rfl:=Nat.eq_of_beq_eq_true hf
   split at h
   ·exact⟨_,rfl,h⟩
   ·exact h.elim
  ·exact h.elim
 ·exact h.elim
end
section
variable {n:Nat} {s:TS} {R:Exit→TS→Prop}
theorem Qw {e:aX} (h:e.isS=false) (x:e.T): ∀l,lz e x≠ .agg l:=by
 intro l
 cases e with
 | gH f e=>cases e<;>(intro h;cases h)
 | ptr e=>intro h;cases h
 | _=>first | (cases h;done) | exact Qs false _ x l
end
section
variable [FZ] {n:Nat} {s:TS} {R:Exit→TS→Prop}
theorem oS {V:List ab} {ids:List Nat} {bE:Nat} {hv:V.length=bE} (hk:s.get cT= .fH V ids bE hv):(s.av n).H=s.fj++List.map bB ‹FZ›.bs:=by
 show s.fj++fT s=_
 unfold fT hC
 rw[hk]
theorem G_ {V:List ab} {ids:List Nat} {bE:Nat} {hv:V.length=bE} (hk:s.get cT= .fH V ids bE hv) {id:Nat} {k:Blk} (h:(List.map bB ‹FZ›.bs)[id]?=some k):(s.av n).H[id+s.aW]?=some k:=by
 rw[oS hk,List.getElem?_append_right (by rw[kN];omega),kN,Nat.add_sub_cancel];exact h
variable (aJ:Fits s)
include aJ in
theorem P_ {e:aX} {b g m:Nat} {cW:Bool} {K:List e.T→List Prop→aG} (hb:b<s.aW) (h:(Bm s e g m (s.get (bD b)) K).den R): ∃x o,(K x o).den R∧((∀φ∈o,φ)→eW (s.av n).L (s.av n).H (.ref b g 0 m cW) (.aR (List.map (b4 false e) x) false false)):=by
 unfold Bm at h
 split at h
 ·rename_i cL gj ids aL
  split at h
  ·rename_i V cK bE iO hk
   split at h
   ·rename_i he
    subst he
    obtain⟨h1,h2,aH,bn,cX,h⟩:=h
    subst h1;subst h2;subst aH;subst bn;subst cX;subst iO
    refine⟨_,_,h,fun aD=> ?_⟩
    have aE:=aD _ (List.mem_singleton.2 rfl)
    obtain⟨q1,q2,q3⟩:=aJ V cK _ _ hk
    have nc:V.length= ‹FZ›.ws.length:=by rw[←q2];exact iC q1.ok
    have:=zQ (L:=(s.av n).L) (H:=(s.av n).H) (b:=b) (s:=s.aW) (n:=V.length) (full:=cW) (ws:= ‹FZ›.ws) (ids:=cK) (bs:= ‹FZ›.bs) nc (by rw[pv hb,aL];rfl) (fun id k h4=>G_ hk h4) q1.ok (by omega) (fun x hx=>by have:=q1.len x hx;omega)
    rw[q2] at this
    exact this
   ·exact h.elim
  ·exact h.elim
 ·obtain⟨xs,hx,aL,h'⟩:=P2 h
  subst hx
  refine⟨_,_,h',fun aD=> ?_⟩
  have aE:=aD _ (List.mem_singleton.2 rfl)
  exact Mw (eT:=b4 true e) (by rw[pv hb,aL];rfl) (fun x=>PL e x) aE
include aJ in
theorem P6 {e:aX} {v:TV} {K:List e.T→List Prop→aG} (h:(Bj s e v K).den R): ∃x o,(K x o).den R∧((∀φ∈o,φ)→eW (s.av n).L (s.av n).H v.bi (.aR (List.map (b4 false e) x) false false)):=by
 unfold Bj at h
 split at h
 ·split at h
  ·rename_i bw;subst bw;exact⟨_,_,h,fun _=>fA⟩
  ·exact h.elim
 ·exact⟨_,_,h,fun _=>by rw[List.map_nil];exact fA⟩
 ·rename_i b g e5 cW
  split at h
  ·rename_i hb
   exact P_ aJ (by rw[←Nat.blt_eq];exact hb) h
  ·exact h.elim
 ·exact h.elim
include aJ in
theorem Ba {e:aX} {v:TV} {K:e.T→List Prop→aG} (h:(lu s e v K).den R): ∃x o,(K x o).den R∧((∀φ∈o,φ)→eW (s.av n).L (s.av n).H v.bi (ig false e x)):=by
 cases e with
 | int=>obtain⟨m,rfl,h⟩:=GK h;exact⟨m,_,h,fun _=> .int _ _⟩
 | u64=>obtain⟨m,rfl,h⟩:=GK h;exact⟨m,_,h,fun _=> .int _ _⟩
 | bool=>obtain⟨x,rfl,h⟩:=P3 h;exact⟨_,_,h,fun _=> .bool _⟩
 | str=>obtain⟨x,rfl,h⟩:=P8 h;exact⟨_,_,h,fun _=> .str _⟩
 | l e=>exact P6 aJ h
 | _=>exact h.elim
include aJ in
theorem xV: ∀{es:List aX} {vs:List TV} {K:cq es→List Prop→aG},(u4 s es vs K).den R→ ∃x o,(K x o).den R∧((∀φ∈o,φ)→aK (eW (s.av n).L (s.av n).H) (cc vs) (ha false es x))
 | [],[],K,h=>⟨(),[],h,fun _=>aK.nil⟩
 | e::r,v::vs,K,h=>by
  obtain⟨x,o,h,c7⟩:=Ba aJ (n:=n) (show(lu s e v _).den R from h)
  obtain⟨y,ke,h,gv⟩:=xV h
  exact⟨(x,y),o++ke,h,fun aD=>aK.cons (c7 fun φ dK=>aD φ (List.mem_append_left _ dK)) (gv fun φ dK=>aD φ (List.mem_append_right _ dK))⟩
 | [],_::_,K,h=>h.elim
 | _::_,[],K,h=>h.elim
include aJ in
theorem PZ {e:aX} {v:TV} {K:e.T→List Prop→aG} (h:(lv s e v K).den R): ∃x o,(K x o).den R∧((∀φ∈o,φ)→dP (s.av n).L (s.av n).H v.bi (match e.isS with
  | true=> .agg (b4 false e x)
  | false=>ig false e x)):=by
 unfold lv at h
 cases ez:e.isS with
 | true=>
  rw[ez] at h
  simp only at h
  split at h
  ·rename_i c
   obtain⟨x,o,h,k⟩:=xV aJ (n:=n) h
   refine⟨_,o,h,fun aD=> ?_⟩
   show dP _ _ (.agg (cc c)) (.agg (b4 false e (e.mk x)))
   rw[←ly,aX.N4]
   exact dP.agg (k aD)
  ·exact h.elim
 | false=>
  rw[ez] at h
  obtain⟨x,o,h,k⟩:=Ba aJ (n:=n) (show(lu s e v K).den R from h)
  exact⟨x,o,h,fun aD=> .inr (k aD)⟩
include aJ in
theorem P7 {e:aX} {v:TV} {K:e.T→List Prop→aG} (h:(Bk s e v K).den R): ∃x o,(K x o).den R∧((∀φ∈o,φ)→dP (s.av n).L (s.av n).H v.bi (.cM (b4 false e x) 0)):=by
 unfold Bk at h
 split at h
 ·rename_i t c
  split at h
  ·rename_i hc
   obtain rfl:=Nat.eq_of_beq_eq_true hc
   split at h
   ·rename_i m hm
    obtain⟨x,o,h,k⟩:=xV aJ (n:=n) h
    refine⟨_,o,h,fun aD=> .inr ?_⟩
    have k:=k aD
    show eW _ _ (.et t 0) (.cM (b4 false e (e.mk x)) 0)
    rw[←ly,aX.N4]
    exact .et (cells:=cc (gq s t 0 m)) (by rw[sl,hm];rfl) k.1 k.2
   ·exact h.elim
  ·exact h.elim
 ·rename_i b1 x c
  split at h
  ·rename_i hc
   obtain rfl:=Nat.eq_of_beq_eq_true hc
   split at h
   ·rename_i bw;subst bw;exact⟨_,_,h,fun _=> .inr (.cM _ _)⟩
   ·exact h.elim
  ·exact h.elim
 ·exact h.elim
include aJ in
theorem Bc: ∀{e:aX} {v:TV} {K:e.T→List Prop→aG},(conv s e v K).den R→ ∃x o,(K x o).den R∧((∀φ∈o,φ)→dP (s.av n).L (s.av n).H v.bi (lz e x)):=by
 intro e
 induction e with
 | ptr e bx=>intro v K h;exact P7 aJ h
 | gH f e bx=>
  intro v K h
  have key:(∀x,lz (.gH f e) x= .fn f [lz e x])→(xX f v fun w=>match e.isS with
   | true=> .no
   | false=>conv s e w K).den R→ ∃x o,(K x o).den R∧((∀φ∈o,φ)→dP (s.av n).L (s.av n).H v.bi (lz (.gH f e) x)):=by
   intro he h
   obtain⟨w,rfl,h'⟩:=P5 h
   cases ez:e.isS with
   | true=>rw[ez] at h';exact h'.elim
   | false=>
    rw[ez] at h'
    obtain⟨x,o,h2,k⟩:=bx h'
    refine⟨x,o,h2,fun aD=> .inr ?_⟩
    rw[he]
    refine eW.fn (caps:=[w.bi]) rfl fun j a b h1 h2=> ?_
    cases j with
    | zero=>cases h1;cases h2;exact Zz (k aD) (Qw ez x)
    | succ j=>cases h1
  cases e with
  | unit=>
   obtain⟨rfl,h'⟩:=P4 h
   exact⟨(),[],h',fun _=> .inr (eW.fn (caps:=[]) rfl fun j a b h1 _=>by cases h1)⟩
  | _=>exact key (fun x=>rfl) h
 | _=>
  intro v K h
  first
  | exact PZ aJ (n:=n) h
  | (obtain⟨x,o,h,k⟩:=Ba aJ (n:=n) h;exact⟨x,o,h,fun aD=> .inr (k aD)⟩)
include aJ in
theorem GD: ∀{es:List aX} {vs:List TV} {K:cq es→List Prop→aG},(Bb s es vs K).den R→ ∃x o,(K x o).den R∧((∀φ∈o,φ)→aK (dP (s.av n).L (s.av n).H) (cc vs) (lA es x))
 | [],[],K,h=>⟨(),[],h,fun _=>aK.nil⟩
 | e::r,v::vs,K,h=>by
  obtain⟨x,o,h,c7⟩:=Bc aJ (n:=n) (show(conv s e v _).den R from h)
  obtain⟨y,ke,h,gv⟩:=GD h
  exact⟨(x,y),o++ke,h,fun aD=>aK.cons (c7 fun φ dK=>aD φ (List.mem_append_left _ dK)) (gv fun φ dK=>aD φ (List.mem_append_right _ dK))⟩
 | [],_::_,K,h=>h.elim
 | _::_,[],K,h=>h.elim
end
def zo (l:List Prop) (t:aG):aG:=match l with
 | []=>t
 | l=> .p (n3 l) t
theorem GC: ∀{l:List Prop},n3 l→ ∀φ∈l,φ
 | [],_,φ,h=>by cases h
 | [a],hc,φ,h=>by rw[List.mem_singleton.1 h];exact hc
 | a::b::r,hc,φ,h=>by
  have hc:a∧n3 (b::r):=hc
  rcases List.mem_cons.1 h with rfl | h
  ·exact hc.1
  ·exact GC hc.2 φ h
theorem Lr {l:List Prop} {t:aG} {R:Exit→TS→Prop} (h:(zo l t).den R):(∀φ∈l,φ)∧t.den R:=by
 unfold zo at h
 split at h
 ·exact⟨(fun φ h=>by cases h),h⟩
 ·exact⟨GC h.1,h.2⟩
def yj {P:Program}:List (cw P)→FuncId→(cw P→aG)→aG
 | [],_,_=> .no
 | c::r,f,K=>match Nat.beq c.f f with
  | true=>K c
  | false=>yj r f K
def tK:TV→Bool
 | .tup _=>false
 | .o a=>dL a
 | _=>true
theorem zi {v:TV} (h:tK v=true):dL v.bi=true:=by cases v<;>first | rfl | exact h | cases h
def D5 {P:Program} (c:cw P) (x:cq c.ps):List Prop:=match c.pre with
 | none=>[]
 | some p=>[p x]
def A0 {P:Program} (nH:List (cw P)) (f:FuncId) (args:List TV) (s:TS) (K:TV→aG):aG:=match args.all tK with
 | false=> .no
 | true=>yj nH f fun c=>Bb s c.ps args fun x o=>zo (o++D5 c x) (K (zK c.rs (c.fn x)))
theorem Hg {P:Program} {f:FuncId} {K:cw P→aG} {R:Exit→TS→Prop}: ∀{nH:List (cw P)},(yj nH f K).den R→ ∃c,c.f=f∧(K c).den R
 | [],h=>h.elim
 | c::r,h=>by
  unfold yj at h
  split at h
  ·rename_i hf;exact⟨c,Nat.eq_of_beq_eq_true hf,h⟩
  ·exact Hg h
theorem PG [FZ] {P:Program} {nH:List (cw P)} {f:FuncId} {args:List TV} {s:TS} {K:TV→aG} {R:Exit→TS→Prop} {n:Nat} {Kp:AV→Prop} (aJ:Fits s) (hK: ∀v,(K v).den R→Kp v.bi) (h:(A0 nH f args s K).den R):
  mf P f (cc args) (s.av n).L (s.av n).H Kp:=by
 unfold A0 at h
 split at h
 ·exact h.elim
 ·rename_i ap
  obtain⟨c,rfl,h1⟩:=Hg h
  obtain⟨x,o,h2,k⟩:=GD aJ (n:=n) h1
  obtain⟨aD,aH⟩:=Lr h2
  refine⟨?_,_,_,k fun φ dK=>aD φ (List.mem_append_left _ dK),c.ok x ?_,?_⟩
  ·rw[List.all_eq_true] at ap ⊢
   intro a aC
   rw[lr] at aC
   obtain⟨v,hv,rfl⟩:=List.mem_map.1 aC
   exact zi (ap v hv)
  ·have ai: ∀φ∈D5 c x,φ:=fun φ dK=>aD φ (List.mem_append_right _ dK)
   unfold D5 at ai
   revert ai
   cases c.pre with
   | none=>intro _;trivial
   | some p=>intro ai;exact ai _ (List.mem_singleton.2 rfl)
  ·rw[←El];exact hK _ aH
inductive xe:Type 1 where
 | no
 | v (x:TV)
 | c (φ:Prop) (x:TV)
 | ch (φ ψ:Prop) (x:TV)
def oV (F:List Blk→(AV→Prop)→Prop) (K:TV→aG):xe→aG
 | .no=> .no
 | .v x=> .eq F (fun _ Q=>Q x.bi) (mZ x K)
 | .c φ x=> .eq F (fun _ Q=>φ∧Q x.bi) (.p φ (mZ x K))
 | .ch φ ψ x=> .eq F (fun _ Q=>φ∧ψ∧Q x.bi) (.p (φ∧ψ) (mZ x K))
theorem pS {F:List Blk→(AV→Prop)→Prop} (H:List Blk) {K:TV→aG} {g:xe} {R:Exit→TS→Prop} {Kp:AV→Prop} (hK: ∀v,(K v).den R→Kp v.bi) (h:(oV F K g).den R):F H Kp:=by
 cases g with
 | no=>exact h.elim
 | v x=>obtain⟨e,h⟩:=h;rw[n7] at h;rw[e];exact hK _ h
 | c φ x=>obtain⟨e,h1,h⟩:=h;rw[n7] at h;rw[e];exact⟨h1,hK _ h⟩
 | ch φ ψ x=>obtain⟨e,h1,h⟩:=h;rw[n7] at h;rw[e];exact⟨h1.1,h1.2,hK _ h⟩
def n1:TV→List TV
 | .agg c=>c
 | v=>[v]
def so (P:Program) (t:TypeId) (cells:List TV) (c:Nat):TV:=match tA P t with
 | true=> .agg ((cells.drop c).take (P.cellsOf t))
 | false=>cells.getD c .u
def RG (op:BinOp) (x y:TV):xe:=match x with
 | .i k a=>(match y with
  | .i _ b=>(match op with
   | .add=> .v (.i k (k.wrap (a+b)))
   | .sub=> .v (.i k (k.wrap (a - b)))
   | .mul=> .v (.i k (k.wrap (a*b)))
   | .quo=> .c (b≠0) (.i k (k.wrap (a.tdiv b)))
   | .rem=> .c (b≠0) (.i k (a.tmod b))
   | .and=> .v (.i k (k.wrap (BitVec.ofInt k.bits a&&&BitVec.ofInt k.bits b).toNat))
   | .shl=> .c (0≤b) (.i k (k.wrap (a*2 ^ (min b.toNat k.bits))))
   | .shr=> .c (0≤b) (.i k (a.fdiv (2 ^ (min b.toNat k.bits))))
   | .eql=> .v (.b (.v (a==b)))
   | .neq=> .v (.b (.v (a !=b)))
   | .lss=> .v (.b (.v (decide (a<b))))
   | .leq=> .v (.b (.v (decide (a≤b))))
   | .gtr=> .v (.b (.v (decide (a>b))))
   | .geq=> .v (.b (.v (decide (a ≥ b))))
   | _=> .no)
  | _=> .no)
 | .b p=>(match y with
  | .b q=>(match op with
   | .eql=> .v (.b (.sY p q))
   | .neq=> .v (.b (.ne p q))
   | _=> .no)
  | _=> .no)
 | .s p=>(match y with
  | .s q=>(match op with
   | .add=> .c (p.size+q.size≤9223372036854775807) (.s (p++q))
   | .eql=> .v (.b (.v (p.toList==q.toList)))
   | .neq=> .v (.b (.v (!(p.toList==q.toList))))
   | _=> .no)
  | _=> .no)
 | .agg l=>(match y with
  | .agg m=>(match l,m with
   | [.i _ a,.i _ b],[.i _ c,.i _ d]=>(match op with
    | .eql=> .v (.b (.v (a==c&&b==d)))
    | .neq=> .v (.b (.v (!(a==c&&b==d))))
    | _=> .no)
   | _,_=> .no)
  | _=> .no)
 | _=> .no
def xa (P:Program) (t:TypeId):List TV:=match(P.info? t).bind (·.zero) with
 | some z=>z.cells.toList.map xZ
 | none=>[]
def Hb (pl:List (Nat×Nat)) (cells:List TV):List (Nat×TV)→List TV
 | []=>cells
 | (i,v)::r=>match pl[i]? with
  | some p=>Hb pl (cells.take p.1++n1 v++cells.drop (p.1+(n1 v).length)) r
  | none=>cells
def Rz (e:aX) (v:TV):e.T:=match e.isS with
 | true=>e.mk (m1 e.cm (n1 v))
 | false=>B1 e v
def Ru:TV→Bool
 | .l _ _ _ fr=>fr
 | .nil _ fr=>fr
 | .agg c=>c.all fun v=>match v with
  | .l _ _ _ fr=>fr
  | .nil _ fr=>fr
  | _=>true
 | _=>true
def KR (e:aX) (xs:List e.T) (l:List TV):TV:=match l with
 | []=> .nil true true
 | l=> .l e xs true (l.all Ru)
def y5 (s:TS) (e:aX):List TV→(List e.T→aG)→aG
 | [],K=>K []
 | v::r,K=>conv s e v fun x _=>y5 s e r fun xs=>K (x::xs)
theorem DD [FZ] {n:Nat} {s:TS} {e:aX} {R:Exit→TS→Prop} (aJ:Fits s): ∀{l:List TV} {K:List e.T→aG},(y5 s e l K).den R→ ∃xs,(K xs).den R
 | [],K,h=>⟨_,h⟩
 | v::r,K,h=>by
  obtain⟨x,o,h,_⟩:=Bc aJ (n:=n) (show(conv s e v _).den R from h)
  obtain⟨xs,h⟩:=DD (n:=n) aJ h
  exact⟨_,h⟩
def tD:List (Nat×aX)→Nat→(aX→aG)→aG
 | [],_,_=> .no
 | (k,e)::r,t,K=>match Nat.beq k t with
  | true=>K e
  | false=>tD r t K
structure gf (P:Program) where
 n:Nat
 Bz:List (Nat×aX)
 nH:List (cw P)
section
variable {P:Program} (cf:gf P) (s:TS)
def gs (P:Program) (n:Nat) (s:TS) (op:Op):xe:=match op with
 | .nilCheck x=> .v (b7 n s x)
 | .load t a=>(match b7 n s a with
  | .lp v c=>(match iU s.vs v with
   | some m=> .v (so P t (gq s v 0 m) c)
   | none=> .no)
  | .cM e x c=> .v (so P t (hL false e x) c)
  | _=> .no)
 | .fieldAddr t x f=>(match yc P t f with
  | some fd=>(match b7 n s x with
   | .lp v c=> .v (.lp v (c+fd.offset))
   | .cM e x c=> .v (.cM e x (c+fd.offset))
   | .ptr b g i m c=> .v (.ptr b g i m (c+fd.offset))
   | _=> .no)
  | none=> .no)
 | .unOp op _ x=>(match b7 n s x with
  | .b z=>(match op with
   | .not=> .v (.b z.not)
   | _=> .no)
  | .i k m=>(match op with
   | .neg=> .v (.i k (k.wrap (0 - m)))
   | _=> .no)
  | _=> .no)
 | .convert _ d x=>(match b7 n s x with
  | .i _ m=>(match tz P d with
   | some k=> .v (.i k (k.wrap m))
   | none=> .no)
  | _=> .no)
 | .binOp op _ x y _=>RG op (b7 n s x) (b7 n s y)
 | .build t ps=>(match D0 P t with
  | some pl=> .v (.agg (Hb pl (xa P t) (ps.toList.map fun p=>(p.1,b7 n s p.2))))
  | none=> .no)
 | .index _ x i=>(match b7 n s x with
  | .s z=>(match b7 n s i with
   | .i _ m=> .ch (0≤m) (m<z.size) (.i .u8 (z.data.getD m.toNat 0).toNat)
   | _=> .no)
  | _=> .no)
 | .extract x i=>(match b7 n s x with
  | .tup l=> .v (l.getD i .u)
  | _=> .no)
 | .makeFunc fn _ caps=>(match fn with
  | .func f=> .v (.fn f (caps.toList.map (b7 n s)))
  | _=> .no)
 | _=> .no
def p7 (P:Program) (t:TypeId):Option Nat:=match ht P t with
 | some e=>(match(P.info? e).isSome with
  | true=>some (P.cellsOf e)
  | false=>none)
 | none=>none
theorem tw {P:Program} {t:TypeId} {m:Nat} (h:p7 P t=some m): ∃e,ht P t=some e∧(P.info? e).isSome=true∧P.cellsOf e=m:=by
 unfold p7 at h
 split at h
 ·rename_i e he
  split at h
  ·rename_i hi;exact⟨e,he,hi,Option.some.inj h⟩
  ·cases h
 ·cases h
def oP (s:TS) (b g:Nat) (K:(e:aX)→(xs:List e.T)→(m:Nat)→xs.length=m→aG):aG:=match Nat.blt b s.aW with
 | true=>(match s.get (bD b) with
  | .blk cL e xs m h=> .eq cL g (K e xs m h)
  | _=> .no)
 | false=> .no
theorem sL [FZ] {n:Nat} {s:TS} {b g:Nat} {K:(e:aX)→(xs:List e.T)→(m:Nat)→xs.length=m→aG} {R:Exit→TS→Prop} (h:(oP s b g K).den R):
  ∃e xs m hm,(K e xs m hm).den R∧b<s.aW∧(s.av n).H[b]?=some ⟨g,e.jW,xs.map (b4 true e)⟩:=by
 unfold oP at h
 split at h
 ·rename_i hb
  have hb:b<s.aW:=by rw[←Nat.blt_eq];exact hb
  split at h
  ·rename_i cL e xs m hm aL
   obtain⟨h1,h⟩:=h
   subst h1
   exact⟨e,xs,m,hm,h,hb,by rw[pv hb,aL];rfl⟩
  ·exact h.elim
 ·exact h.elim
def xS (V:List ab) (ids:List Nat) (m:Nat) (i:Int):List TV:=[.i .i64 (nth V i).az,.i .i64 (nth V i).aa,.s7 i ids m (nth V i).U.length,.b (.v (nth V i).an),.i .i64 (nth V i).ao]
theorem Ah {ws:List ab} {ids:List Nat} {bs:List (List Bool)} {i:Int} (ok:lk ws ids bs) (h:i.toNat<(view ws ids bs).length):nth (view ws ids bs) i={nth ws i with U:=bs.getD (nth ids i) []}:=by
 have aE:=iC ok
 have h1:=fY (xs:=ws) (i:=i) (by omega)
 have h2:=fY (xs:=ids) (i:=i) (by have:=ok.len;omega)
 have:=uy (bs:=bs) h1 h2
 rw[fY h] at this
 exact Option.some.inj this
theorem YB [Z:FZ] {V:List ab} {ids:List Nat} {m:Nat} {i:Int} (G:iG Z.ws ids Z.bs) (e:view Z.ws ids Z.bs=V) (h:i.toNat<V.length):(bh m Z.ws ids)[i.toNat]?=some (cc (xS V ids m i)):=by
 subst e
 have aE:=iC G.ok
 have SH:=G.ok.len
 rw[ei SH (by omega)]
 have hb:=G.ok.U i.toNat _ _ (fY (xs:=Z.ws) (i:=i) (by omega)) (fY (xs:=ids) (i:=i) (by omega))
 unfold xS
 rw[Ah G.ok h]
 show some (jP m (nth Z.ws i) (nth ids i))=some _
 unfold jP
 rw[hb];rfl
def CY (P:Program) (t:TypeId) (b g m:Nat) (i:Int) (s:TS) (v:TV) (K:TV→aG):aG:=match v with
 | .iE cL _ _=>(match Nat.blt b s.aW with
  | true=> .eq cL g (.eq (p7 P t) (some 5) (.p (0≤i∧i.toNat<m) (K (.ptr b g i m 0))))
  | false=> .no)
 | _=>oP s b g fun e _ _ _=> .eq (p7 P t) (some e.jW) (.p (0≤i∧i.toNat<m) (K (.ptr b g i m 0)))
def CZ (P:Program) (t:TypeId) (w:Int) (ids:List Nat) (m k:Nat) (i:Int) (s:TS) (K:TV→aG):aG:=match s.get cT with
 | .fH V cK _ _=> .eq cK ids (.eq m s.aW (.eq (p7 P t) (some 1) (.p (w.toNat<V.length∧0≤i∧i.toNat<k) (K (.s5 w ids m i)))))
 | _=> .no
def C0 (P:Program) (t:TypeId) (x i:TV) (s:TS) (K:TV→aG):aG:=match i with
 | .i _ i=>(match x with
  | .l e xs _ _=> .eq (p7 P t) (some e.jW) (.p (0≤i∧i.toNat<xs.length) (K (.cM e (qi e xs i) 0)))
  | .ref b g m _=>CY P t b g m i s (s.get (bD b)) K
  | .s7 w ids m k=>CZ P t w ids m k i s K
  | _=> .no)
 | _=> .no
def Dy (P:Program) (t:TypeId) (w:Int) (ids:List Nat) (m:Nat) (j:Int) (s:TS) (K:TV→aG):aG:=match s.get cT with
 | .fH V cK _ _=> .eq cK ids (.eq m s.aW (.p (w.toNat<V.length∧j.toNat<(nth V w).U.length) (oV (fun _ Q=>hE P t [AV.bool (nth (nth V w).U j)] 0 Q) K (.v (so P t [.b (.v (nth (nth V w).U j))] 0)))))
 | _=> .no
def Dz (P:Program) (t:TypeId) (b g:Nat) (i:Int) (m c:Nat) (s:TS) (K:TV→aG):aG:=match s.get (bD b) with
 | .iE cL gj ids=>(match Nat.blt b s.aW with
  | true=>(match s.get cT with
   | .fH V cK _ _=> .eq cL g (.eq cK ids (.p (i.toNat<V.length) (oV (fun _ Q=>hE P t (cc (xS V ids gj i)) c Q) K (.v (so P t (xS V ids gj i) c)))))
   | _=> .no)
  | false=> .no)
 | .ev cL aw=>(match Nat.blt b s.aW with
  | true=> .eq cL g (.eq i 0 (oV (fun _ Q=>hE P t (cc aw) c Q) K (.v (so P t aw c))))
  | false=> .no)
 | _=>oP s b g fun e xs ej _=> .eq ej m (.p (i.toNat<m) (oV (fun _ Q=>hE P t (b4 true e (qi e xs i)) c Q) K (.v (so P t (hL true e (qi e xs i)) c))))
def EE (P:Program) (t:TypeId) (x:TV) (lo hi:Option TV) (K:TV→aG):aG:=match x with
 | .l e xs _ fr=>(match lo with
  | none=>(match hi with
   | some (.i _ b)=> .eq (p7 P t) (some e.jW) (.p (0≤b∧b≤(xs.length:Int)) (K (.l e (xs.take b.toNat) false fr)))
   | _=> .no)
  | some (.i _ a)=>(match hi with
   | none=> .eq (p7 P t) (some e.jW) (.p (0≤a∧a≤(xs.length:Int)) (K (.l e (xs.drop a.toNat) false fr)))
   | _=> .no)
  | _=> .no)
 | _=> .no
def DA (P:Program) (t:TypeId) (x:TV) (K:TV→aG):aG:=match x with
 | .l _ xs _ _=> .eq (h6 P t x.bi) true (K (.i .i64 xs.length))
 | .nil _ _=> .eq (h6 P t x.bi) true (K (.i .i64 (0:Nat)))
 | .s z=> .eq (h6 P t x.bi) true (K (.i .i64 z.size))
 | .ref _ _ m _=> .eq (h6 P t x.bi) true (K (.i .i64 m))
 | .s7 _ _ _ k=> .eq (h6 P t x.bi) true (K (.i .i64 k))
 | _=> .no
def pr (o:Oper) (K:TV→aG):aG:=match o.op with
 | .move x=>mZ (b7 cf.n s x) K
 | .assign x=>mZ (b7 cf.n s x) K
 | .indexAddr t x i=>C0 P t (b7 cf.n s x) (b7 cf.n s i) s K
 | .load t a=>(match b7 cf.n s a with
  | .ptr b g i m c=>Dz P t b g i m c s K
  | .s5 w ids m j=>Dy P t w ids m j s K
  | _=>oV (fun H Q=>h0 P o (fun x=>(b7 cf.n s x).bi) s.bT H Q) K (gs P cf.n s o.op))
 | .slice t x lo hi mx=>(match mx with
  | none=>EE P t (b7 cf.n s x) (lo.map (b7 cf.n s)) (hi.map (b7 cf.n s)) K
  | some _=> .no)
 | .call c=>(match c.callee with
  | .builtin b=>(match b with
   | .len=>(match c.args.toList,c.argTypes.toList with
    | [x],[t]=>DA P t (b7 cf.n s x) K
    | _,_=> .no)
   | _=> .no)
  | .value f=>(match b7 cf.n s f with
   | .fn g caps=>A0 cf.nH g (c.args.toList.map (b7 cf.n s)++caps) s K
   | _=> .no)
  | _=> .no)
 | .buildSlice t m ps=>tD cf.Bz t fun e=>y5 s e (ps.toList.map fun p=>b7 cf.n s p.2) fun xs=>oV (fun H Q=>h0 P o (fun x=>(b7 cf.n s x).bi) s.bT H Q) K (.v (KR e xs (ps.toList.map fun p=>b7 cf.n s p.2)))
 | op=>oV (fun H Q=>h0 P o (fun x=>(b7 cf.n s x).bi) s.bT H Q) K (gs P cf.n s op)
end
theorem DS {e:aX} {xs:List e.T} {i:Int} (h:i.toNat<xs.length) (fr:Bool):(xs.map (b4 fr e))[i.toNat]?=some (b4 fr e (qi e xs i)):=by
 rw[List.getElem?_map]
 have:xs[i.toNat]?=some (qi e xs i):=by
  have:= @fY e.T e.rG xs i h
  exact this
 rw[this];rfl
section
variable {P:Program} {cf:gf P} {s:TS} {R:Exit→TS→Prop} {K:TV→aG} {Kp:AV→Prop}
theorem Y1 {t:TypeId} {x:TV} {lo hi:Option TV} {H:List Blk} (hK: ∀v,(K v).den R→Kp v.bi) (h:(EE P t x lo hi K).den R):si P t x.bi (lo.map TV.bi) (hi.map TV.bi) H Kp:=by
 unfold EE at h
 split at h
 ·rename_i e xs cW fr
  have eg: ∀{m:Nat},m=e.jW→ ∀(i:Nat) (row:List AV),(List.map (b4 false e) xs)[i]?=some row→row.length=m:=fun hm i row aq=>by
   rw[List.getElem?_map] at aq
   cases hx:xs[i]? with
   | none=>rw[hx] at aq;cases aq
   | some x=>rw[hx] at aq;cases aq;rw[q6,hm]
  split at h
  ·split at h
   ·rename_i k b
    obtain⟨h1,h2,h⟩:=h
    obtain⟨lg,q1,q2,q3⟩:=tw h1
    refine dk q1 ?_
    rw[if_pos q2]
    refine⟨h2.1,Nat.zero_le _,by rw[List.length_map];omega,eg q3,?_⟩
    rw[List.drop_zero,Nat.sub_zero,←List.map_take];exact hK _ h
   ·exact h.elim
  ·split at h
   ·rename_i k a
    obtain⟨h1,h2,h⟩:=h
    obtain⟨lg,q1,q2,q3⟩:=tw h1
    refine dk q1 ?_
    rw[if_pos q2]
    refine⟨h2.1,by rw[List.length_map];omega,Nat.le_refl _,eg q3,?_⟩
    rw[List.take_of_length_le (by rw[List.length_drop];omega),←List.map_drop];exact hK _ h
   ·exact h.elim
  ·exact h.elim
 ·exact h.elim
end
section
variable {P:Program} {cf:gf P} {s:TS} {R:Exit→TS→Prop} {K:TV→aG} {Kp:AV→Prop}
theorem WA {t:TypeId} {x:TV} (hK: ∀v,(K v).den R→Kp v.bi) (h:(DA P t x K).den R):dM (h6 P t x.bi) (pc x.bi Kp):=by
 unfold DA at h
 split at h
 ·obtain⟨h1,h⟩:=h
  rw[h1]
  show Kp (.int .i64 ((List.map _ _).length:Nat))
  rw[List.length_map];exact hK _ h
 ·obtain⟨h1,h⟩:=h;rw[h1];exact hK _ h
 ·obtain⟨h1,h⟩:=h;rw[h1];exact hK _ h
 ·obtain⟨h1,h⟩:=h;rw[h1];exact hK _ h
 ·obtain⟨h1,h⟩:=h;rw[h1];exact hK _ h
 ·exact h.elim
end
section
variable {P:Program} {cf:gf P} {s:TS} {R:Exit→TS→Prop} {K:TV→aG} {Kp:AV→Prop}
theorem DE {l:List (Nat×aX)} {t:Nat} {K:aX→aG} (h:(tD l t K).den R): ∃e,(K e).den R:=by
 induction l with
 | nil=>exact h.elim
 | cons p r bx=>
  obtain⟨k,e⟩:=p
  unfold tD at h
  split at h
  ·exact⟨e,h⟩
  ·exact bx h
end
section
variable [FZ] {P:Program} {cf:gf P} {s:TS} {R:Exit→TS→Prop} {K:TV→aG} {Kp:AV→Prop}
variable (aJ:Fits s)
theorem TC {t:TypeId} {b g m:Nat} {i:Int} {k:IntKind} {cW:Bool} (hK: ∀v,(K v).den R→Kp v.bi) (h:(CY P t b g m i s (s.get (bD b)) K).den R):tv P t (.ref b g 0 m cW) (.int k i) (s.av cf.n).H Kp:=by
 unfold CY at h
 split at h
 ·rename_i cL gj ids aL
  split at h
  ·rename_i hb
   have hb:b<s.aW:=by rw[←Nat.blt_eq];exact hb
   obtain⟨h1,h2,aH,h⟩:=h
   subst h1
   obtain⟨lg,q1,q2,q3⟩:=tw h2
   refine dk q1 ?_
   rw[if_pos q2]
   refine dk (by rw[pv hb,aL]) ⟨rfl,q3.symm,aH.1,by have:=aH.2;omega,?_⟩
   rw[Nat.zero_add];exact hK _ h
  ·exact h.elim
 ·obtain⟨e,xs,ej,hm,h,hb,ax⟩:=sL (n:=cf.n) h
  obtain⟨h1,h2,h⟩:=h
  obtain⟨lg,q1,q2,q3⟩:=tw h1
  refine dk q1 ?_
  rw[if_pos q2]
  refine dk ax ⟨rfl,q3.symm,h2.1,by have:=h2.2;omega,?_⟩
  rw[Nat.zero_add];exact hK _ h
include aJ in
theorem BO {V:List ab} {ids:List Nat} {w:Int} {bE:Nat} {hv:V.length=bE} (hk:s.get cT= .fH V ids bE hv) (hw:w.toNat<V.length):(s.av cf.n).H[nth ids w+s.aW]?=some (bB (nth V w).U):=by
 obtain⟨G,e,_⟩:=aJ V ids _ _ hk
 have aE:=iC G.ok
 rw[e] at aE
 have hid:=G.ok.lt w.toNat _ (fY (xs:=ids) (i:=w) (by have:=G.ok.len;omega))
 refine G_ hk ?_
 rw[pO hid,←e,Ah G.ok (by rw[e];exact hw)]
include aJ in
theorem TE {t:TypeId} {w:Int} {ids:List Nat} {m c:Nat} {i:Int} {k:IntKind} (hK: ∀v,(K v).den R→Kp v.bi) (h:(CZ P t w ids m c i s K).den R):tv P t (.ref (nth ids w+m) 0 0 c false) (.int k i) (s.av cf.n).H Kp:=by
 unfold CZ at h
 split at h
 ·rename_i V cK bE iO hk
  obtain⟨h1,h2,aH,bn,h⟩:=h
  subst h1;subst h2
  obtain⟨lg,q1,q2,q3⟩:=tw aH
  refine dk q1 ?_
  rw[if_pos q2]
  refine dk (BO aJ hk bn.1) ⟨rfl,q3.symm,bn.2.1,by have:=bn.2.2;omega,?_⟩
  rw[Nat.zero_add];exact hK _ h
 ·exact h.elim
include aJ in
theorem TH {t:TypeId} {x i:TV} (hK: ∀v,(K v).den R→Kp v.bi) (h:(C0 P t x i s K).den R):tv P t x.bi i.bi (s.av cf.n).H Kp:=by
 unfold C0 at h
 split at h
 ·split at h
  ·obtain⟨h1,h2,h⟩:=h
   obtain⟨lg,q1,q2,q3⟩:=tw h1
   refine dk q1 ?_
   rw[if_pos q2]
   exact⟨h2.1,dk (DS h2.2 false) ⟨by rw[q6,q3],hK _ h⟩⟩
  ·exact TC hK h
  ·exact TE aJ hK h
  ·exact h.elim
 ·exact h.elim
include aJ in
theorem Wq {t:TypeId} {w:Int} {ids:List Nat} {m:Nat} {j:Int} (hK: ∀v,(K v).den R→Kp v.bi) (h:(Dy P t w ids m j s K).den R):mr P t (.ptr (nth ids w+m) 0 j.toNat 0) (s.av cf.n).L (s.av cf.n).H Kp:=by
 unfold Dy at h
 split at h
 ·rename_i V cK bE iO hk
  obtain⟨h1,h2,aH,h⟩:=h
  subst h1;subst h2
  exact dk (BO aJ hk aH.1) ⟨rfl,dk (u2 aH.2) (pS [] hK h)⟩
 ·exact h.elim
include aJ in
theorem Wr {t:TypeId} {b g m c:Nat} {i:Int} (hK: ∀v,(K v).den R→Kp v.bi) (h:(Dz P t b g i m c s K).den R):mr P t (.ptr b g i.toNat c) (s.av cf.n).L (s.av cf.n).H Kp:=by
 unfold Dz at h
 split at h
 ·rename_i cL gj ids aL
  split at h
  ·rename_i hb
   have hb:b<s.aW:=by rw[←Nat.blt_eq];exact hb
   split at h
   ·rename_i V cK bE iO hk
    obtain⟨h1,h2,aH,h⟩:=h
    subst h1;subst h2
    obtain⟨G,e,_⟩:=aJ V cK _ _ hk
    exact dk (by rw[pv hb,aL]) ⟨rfl,dk (YB G e aH) (pS [] hK h)⟩
   ·exact h.elim
  ·exact h.elim
 ·rename_i cL aw aL
  split at h
  ·rename_i hb
   have hb:b<s.aW:=by rw[←Nat.blt_eq];exact hb
   obtain⟨h1,h2,h⟩:=h
   subst h1;subst h2
   exact dk (by rw[pv hb,aL]) ⟨rfl,dk (a:=cc aw) rfl (pS [] hK h)⟩
  ·exact h.elim
 ·obtain⟨e,xs,ej,hm,h,hb,ax⟩:=sL (n:=cf.n) h
  obtain⟨h1,h2,h⟩:=h
  refine dk ax ⟨rfl,dk (DS (by omega) true) ?_⟩
  exact pS [] hK h
include aJ in
theorem Mb {o:Oper} (hK: ∀v,(K v).den R→Kp v.bi) (h:(pr cf s o K).den R):h0 P o (bR (s.av cf.n).T) (s.av cf.n).L (s.av cf.n).H Kp:=by
 rw[je]
 obtain⟨dst,op,ty,pos,after,guard⟩:=o
 unfold pr at h
 split at h
 ·rename_i x eO;cases eO;rw[n7] at h;exact hK _ h
 ·rename_i x eO;cases eO;rw[n7] at h;exact hK _ h
 ·rename_i t x i eO;cases eO;exact TH aJ hK h
 ·rename_i t a eO
  cases eO
  split at h
  ·rename_i b g i m c aC
   show mr P t (b7 cf.n s a).bi _ _ Kp
   rw[aC];exact Wr aJ hK h
  ·rename_i w ids m j aC
   show mr P t (b7 cf.n s a).bi _ _ Kp
   rw[aC];exact Wq aJ hK h
  ·exact pS (F:=fun H Q=>h0 P _ _ _ H Q) _ hK h
 ·rename_i t x lo hi mx eO
  cases eO
  split at h
  ·have:=Y1 (H:=(s.av cf.n).H) hK h
   show si P t _ (lo.map _) (hi.map _) _ Kp
   rw[Option.map_map,Option.map_map] at this
   exact this
  ·exact h.elim
 ·rename_i c eO
  cases eO
  obtain⟨callee,args,argTypes⟩:=c
  split at h
  ·rename_i b hb
   cases hb
   split at h
   ·show(match args.toList,argTypes.toList with
     | [x],[t]=>dM (h6 P t ((fun x=>(b7 cf.n s x).bi) x)) (pc ((fun x=>(b7 cf.n s x).bi) x) Kp)
     | _,_=>False)
    split at h
    ·rename_i x t h1 h2
     simp only at h1 h2
     simp only[h1,h2];exact WA hK h
    ·exact h.elim
   ·exact h.elim
  ·rename_i f hf
   cases hf
   show jK (b7 cf.n s f).bi fun g caps=>mf P g (args.toList.map (fun x=>(b7 cf.n s x).bi)++caps) _ _ Kp
   split at h
   ·rename_i g caps hc
    rw[hc]
    have:=PG (n:=cf.n) aJ hK h
    rw[lr,List.map_append,List.map_map] at this
    show mf P g (_++cc caps) _ _ Kp
    rw[lr];exact this
   ·exact h.elim
  ·exact h.elim
 ·rename_i t m ps eO
  cases eO
  obtain⟨e,h⟩:=DE h
  obtain⟨xs,h⟩:=DD (n:=cf.n) aJ h
  exact pS (F:=fun H Q=>h0 P _ _ _ H Q) _ hK h
 ·exact pS (F:=fun H Q=>h0 P _ _ _ H Q) _ hK h
end
theorem hn {n:Int} (h1: -9223372036854775808≤n) (h2:n≤9223372036854775807):IntKind.i64.wrap n=n:=by
 rw[IntKind.wrap_i64];omega
def bN (x a b:Int):Bool:=decide (a≤x)&&decide (x≤b)
theorem vV {x a b:Int}:bN x a b=true↔a≤x∧x≤b:=by simp[bN]
theorem hT {α:Type} [Inhabited α] {xs:List α} {i:Int} (h:i.toNat<xs.length):nth xs i=xs[i.toNat]:=by
 have:=fY h
 rw[List.getElem?_eq_getElem h] at this
 exact(Option.some.inj this).symm
theorem eC {α:Type} [Inhabited α] {xs:List α} {i:Int} (h:i.toNat<xs.length):nth xs i∈xs:=by rw[hT h];exact List.getElem_mem h
theorem h7 {α:Type} [Inhabited α] {xs:List α} {i:Nat} (h:i<xs.length):nth xs (i:Int)=xs[i]:=by rw[hT (by simpa using h)];simp
def first {α:Type} (xs:List α) (p:α→Bool):Option Nat:=xs.findIdx? p
theorem QQ {α:Type} {xs:List α} {p:α→Bool} (h: ∀x∈xs,p x=false):first xs p=none:=by
 unfold first;rw[List.findIdx?_eq_none_iff];exact h
theorem QR {α:Type} [Inhabited α] {xs:List α} {p:α→Bool} {i:Int} (h: ∀x∈xs.take i.toNat,p x=false) (hi:i.toNat<xs.length) (ai:p (nth xs i)=true):first xs p=some i.toNat:=by
 unfold first
 rw[List.findIdx?_eq_some_iff_getElem]
 refine⟨hi,by rw[←hT hi];exact ai,fun j ar=> ?_⟩
 have:=h xs[j] (by rw[List.mem_take_iff_getElem];exact⟨j,by omega,rfl⟩)
 simp[this]
def zm (o:Option Nat):Int:=match o with
 | some i=>i
 | none=> -1
def k6 (xs:List Int) (v:Int):Int:=zm (first xs (fun x=>v==x))
def fI (xs:List Int) (v:Int):Bool:=xs.contains v
def o8 (xs:List Bool) (v:Bool):Int:=zm (first xs (fun x=>v==x))
def h3 (xs:List Bool) (v:Bool):Bool:=xs.contains v
def ah {α:Type} (x:α):α:=x
def meets (a b:List Int):Bool:=a.any fun x=>b.contains x
def dup (l:List Int):Bool:= !decide l.Nodup
def cg (w:Way):List b9:=w.a7++w.bJ
def fV (l:List Int) (n:Int):Bool:=decide (l.length≤30)&&l.all (fun x=>bN x 0 (n - 1))&&decide l.Nodup
def ju (p:aN) (l:List b9):Bool:=decide (l.length≤30)&&l.all (fun x=>bN x.bo 0 (p.bu.length - 1)&&bN x.bG 1 2)&&decide (l.map (·.bo)).Nodup
def gB (p:aN) (w:Way):Bool:=
 decide (w.ag≠[])&&fV w.ag p.ag&&fV w.bZ p.ag&&fV w.c6 p.ag&&ju p w.a7&&ju p w.bJ&&
 decide ((cg w).map (·.bo)).Nodup&&w.a7.all (fun x=>w.ag.contains (nth p.bu x.bo))&& !meets w.ag w.bZ
def pG (p:aN) (i k:Nat):Bool:=nth (nth p.bz i) k
def mQ (p:aN) (i k:Nat):Bool:=(pG p i k !=pG p k i) || (decide (i≠k)&& !pG p i k&&meets (nth p.M i).ag (nth p.M k).ag)
def mz (p:aN):ho:=if p.bz.length=p.M.length then
  match first p.bz (fun b=>decide (b.length≠p.M.length)) with
  | some k=>⟨4,k⟩
  | none=>match first (List.range p.M.length) (fun i=>(List.range p.M.length).any fun k=>mQ p i k) with
   | some k=>⟨5,k⟩
   | none=>⟨0,0⟩
 else⟨4,0⟩
def tS (p:aN):ho:=match first p.M (fun w=> !gB p w) with
 | some k=>⟨3,k⟩
 | none=>mz p
def tR (p:aN):ho:=match first p.bu (fun s=> !bN s 0 (p.ag - 1)) with
 | some k=>⟨2,k⟩
 | none=>tS p
def gx (p:aN):ho:=if bN p.ag 1 60&&bN p.dq 1 300&&decide (p.bu.length≤40)&&decide (p.M.length≤100) then tR p else⟨1,0⟩
def fP (p:aN):Bool:=decide (gx p=⟨0,0⟩)
def ee (n:Nat) (left:Int):Int:=if left<n then -1 else left - n
def px (w:Way):Nat:=w.ag.length+w.a7.length+w.bJ.length+w.bZ.length+w.c6.length
def ss (ws:List Way):Nat:=ws.length+(ws.map px).sum
def qX (bs:List (List Bool)):Nat:=bs.length+(bs.map List.length).sum
def iy (p:aN):Nat:=p.bu.length+ss p.M+qX p.bz
def rr (ws:List ab):Nat:=ws.length+(ws.map fun h=>h.U.length).sum
def m0 (f:Frame):Nat:=f.aF.length+f.aB.length+rr f.M
theorem KL {n m:Nat} {left:Int} (aM:0≤left):ee (n+m) left=if ee n left<0 then -1 else ee m (ee n left):=by
 unfold ee
 split<;>split<;>(try split)<;>(try split)<;>omega
def bX {α:Type} (a:List α) (left:Int):Int:=ee a.length left
def oD (w:Way) (left:Int):Int:=ee (px w) left
def nF (w:List Way) (left:Int):Int:=ee (ss w) left
def qx (w:List (List Bool)) (left:Int):Int:=ee (qX w) left
def nE (p:aN) (left:Int):Int:=ee (iy p) left
def oC (h:ab) (left:Int):Int:=ee h.U.length left
def qy (h:List ab) (left:Int):Int:=ee (rr h) left
def pw (f:Frame) (left:Int):Int:=ee (m0 f) left
def eZ {α:Type} (a:α) (left:Int):Prop:=0≤left∧left≤1048576
def small {α:Type} (a:List α):Prop:=a.length≤1048576
def wX (w:Way):Prop:=px w≤1048576
def zX (w:List Way):Prop:=ss w≤1048576
def zU (w:List (List Bool)):Prop:=qX w≤1048576
def EJ (p:aN):Prop:=iy p≤1048576
def eqv {α:Type} [DecidableEq α] (a b:α):Bool:=decide (a=b)
def oI {α:Type} (a:α):Bool:=true
def wy (l:List Int) (n:Int):Prop:= -9223372036854775808<n∧n≤9223372036854775807
def D6 (p:aN) (w:Way):Prop:= -9223372036854775808<p.ag∧p.ag≤9223372036854775807
def zt (w:Way):Prop:=w.a7.length≤1048576∧w.bJ.length≤1048576
def n6 {α β:Type} (a:List α) (f:α→β) (d:β) (i:Int):List β:=(a.take i.toNat).map f++List.replicate (a.length - i.toNat) d
theorem QN {α β:Type} (a:List α) (f:α→β) (d:β):n6 a f d 0=List.replicate a.length d:=by simp[n6]
theorem BQ {α β:Type} {a:List α} {f:α→β} {d:β} {i:Int} (h:i≤a.length):(n6 a f d i).length=a.length:=by
 simp[n6];omega
theorem QO {α β:Type} [Inhabited α] {a:List α} {f:α→β} {d:β} {i:Int} (aM:0≤i) (h:i.toNat<a.length):(n6 a f d i).set i.toNat (f (nth a i))=n6 a f d (i+1):=by
 unfold n6
 rw[show(i+1).toNat=i.toNat+1 by omega,List.take_succ_eq_append_getElem h,List.set_append_right _ _ (by simp;omega)]
 have:List.replicate (a.length - i.toNat) d=d::List.replicate (a.length - (i.toNat+1)) d:=by
  rw[←List.replicate_succ];congr 1;omega
 rw[this,hT h]
 have aE:((a.take i.toNat).map f).length=i.toNat:=by simp;omega
 rw[aE]
 simp[List.map_append]
 rw[←List.map_take,←List.map_take,List.take_succ_eq_append_getElem h,List.map_append]
 simp
theorem QM {α β:Type} {a:List α} {f:α→β} {d:β} {i:Int} (h:(a.length:Int)≤i):n6 a f d i=a.map f:=by
 unfold n6
 rw[List.take_of_length_le (by omega),show a.length - i.toNat=0 by omega]
 simp
def cl (N:Int) (p:Int→Bool) (v:Int):Prop:=0≤v∧v≤N∧ ∀j:Int,0≤j→j<v→p j=false
def cz (N:Int) (v:Int):Nat:=(N - v).toNat
theorem dl {N:Int} {p:Int→Bool} (h:0≤N):cl N p 0:=⟨Int.le_refl _,h,fun j aM h1=>by omega⟩
theorem oH {N v:Int} (ap:N≤4611686018427387904) (aM:0≤v) (hv:v<N):IntKind.i64.wrap (v+1)=v+1:=hn (by omega) (by omega)
theorem de {N v:Int} {p:Int→Bool} (ap:N≤4611686018427387904) (h:cl N p v) (hv:decide (v<N)=true) (ai:p v=false):cl N p (IntKind.i64.wrap (v+1))∧cz N (IntKind.i64.wrap (v+1))<cz N v:=by
 obtain⟨aM,h1,h2⟩:=h
 have hv:v<N:=by simpa using hv
 rw[oH ap aM hv]
 refine⟨⟨by omega,by omega,fun j b2 ep=> ?_⟩,by unfold cz;omega⟩
 rcases Int.lt_or_eq_of_le (show j≤v by omega) with aE | rfl
 ·exact h2 j b2 aE
 ·exact ai
theorem fB {N v:Int} {p:Int→Bool} (h:cl N p v) (hv:decide (v<N)=false): ∀j:Int,0≤j→j<N→p j=false:=by
 obtain⟨aM,h1,h2⟩:=h
 have hv: ¬v<N:=by simpa using hv
 exact fun j b2 ep=>h2 j b2 (by omega)
theorem cA {α:Type} {xs:List α} {v:Int} {p:Int→Bool} (h:cl xs.length p v) (hv:decide (v<(xs.length:Int))=true):0≤v∧v.toNat<xs.length:=by
 have hv:v<(xs.length:Int):=by simpa using hv
 exact⟨h.1,by have:=h.1;omega⟩
theorem dD {α:Type} {xs:List α} (h:xs.length≤4611686018427387904):(xs.length:Int)≤4611686018427387904:=by omega
theorem c8 {α:Type} (xs:List α):0≤(xs.length:Int):=by omega
theorem km {α:Type} [Inhabited α] {xs:List α} {q:α→Bool} (h: ∀j:Int,0≤j→j<xs.length→q (nth xs j)=false): ∀x∈xs,q x=false:=fun x hx=>by
 obtain⟨i,hi,rfl⟩:=List.mem_iff_getElem.1 hx
 have:=h i (by omega) (by omega)
 rwa [h7 hi] at this
theorem nI {α:Type} [Inhabited α] {xs:List α} {q:α→Bool} {v:Int} (h:cl xs.length (fun j=>q (nth xs j)) v) (hv:decide (v<(xs.length:Int))=true) (ai:q (nth xs v)=true):first xs q=some v.toNat:=by
 have hi:=cA h hv
 refine QR (fun x hx=> ?_) hi.2 ai
 obtain⟨i,gL,rfl⟩:=List.mem_take_iff_getElem.1 hx
 have:q (nth xs (i:Int))=false:=h.2.2 i (by omega) (by omega)
 rwa [h7 (by omega)] at this
theorem nJ {α:Type} [Inhabited α] {xs:List α} {q:α→Bool} {v:Int} (h:cl xs.length (fun j=>q (nth xs j)) v) (hv:decide (v<(xs.length:Int))=false):first xs q=none:=
 QQ (km (fB h hv))
theorem Ag {α:Type} [Inhabited α] {xs:List α} {q:α→Bool} {v:Int} (h:cl xs.length (fun j=>q (nth xs j)) v) (hv:decide (v<(xs.length:Int))=true) (ai:q (nth xs v)=true):xs.any q=true:=by
 rw[List.any_eq_true];exact⟨_,eC (cA h hv).2,ai⟩
theorem w9 {α:Type} [Inhabited α] {xs:List α} {q:α→Bool} {v:Int} (h:cl xs.length (fun j=>q (nth xs j)) v) (hv:decide (v<(xs.length:Int))=false):xs.any q=false:=by
 rw[List.any_eq_false]
 intro x hx
 rw[km (fB h hv) x hx];simp
theorem not_eq {b:Bool} (h:(!b)=true):b=false:=by simpa using h
theorem Ey {α:Type} [Inhabited α] {a b:List α} (aE:a.length=b.length) (h: ∀j:Int,0≤j→j<a.length→nth a j=nth b j):a=b:=by
 apply List.ext_getElem aE
 intro i h1 h2
 have:=h i (by omega) (by omega)
 rwa [h7 h1,h7 h2] at this
theorem n5 {α:Type} [Inhabited α] [DecidableEq α] {a b:List α} {ne:Int→Bool} (cd: ∀v,ne v=true↔nth a v≠nth b v):
  ((a.length≤4611686018427387904)∧(b.length≤4611686018427387904)→((a.length:Int) !=(b.length:Int))=true→false=eqv a b)∧((a.length≤4611686018427387904)∧(b.length≤4611686018427387904)∧((!((a.length:Int) !=(b.length:Int)))=true)→
   cl a.length ne 0∧ ∀(v:Int),cl a.length ne v→(((decide (v<(a.length:Int)))=false→true=eqv a b)∧((decide (v<(a.length:Int)))=true→(((0≤v∧v.toNat<a.length)∧(0≤v∧v.toNat<b.length))∧((ne v)=true→false=eqv a b))∧
    ((!(ne v))=true→cl a.length ne (IntKind.i64.wrap (v+1))∧cz a.length (IntKind.i64.wrap (v+1))<cz a.length v)))):=by
 refine⟨fun _ h=> ?_,fun⟨h1,h2,aH⟩=> ?_⟩
 ·have:a≠b:=fun e=>by subst e;simp at h
  simp[eqv,this]
 ·have aE:a.length=b.length:=by have:(a.length:Int)=b.length:=by simpa using aH
                                omega
  refine⟨dl (c8 a),fun v a6=>⟨fun hv=> ?_,fun hv=>⟨⟨⟨cA a6 hv,by rw[←aE];exact cA a6 hv⟩,fun ap=> ?_⟩,fun ap=>de (dD h1) a6 hv (not_eq ap)⟩⟩⟩
  ·have:a=b:=Ey aE fun j b2 ep=>by
    have af:=fB a6 hv j b2 ep
    by_cases he:nth a j=nth b j
    ·exact he
    ·rw[(cd j).2 he] at af;cases af
   simp[eqv,this]
  ·have:a≠b:=fun e=>(cd v).1 ap (by rw[e])
   simp[eqv,this]
def lC {α β:Type} (a:List α) (f:α→β) (d:β) (x:List β) (v:Int):Prop:=0≤v∧v≤a.length∧x=n6 a f d v
def mi {α β:Type} (a:List α) (x:List β) (v:Int):Nat:=(a.length - v).toNat
theorem yd {α β:Type} [Inhabited α] {a:List α} {f:α→β} {d:β} {ad:List β} {φ:Int→Prop} (hs:a.length≤4611686018427387904) (aq:a.map f=ad) (dK: ∀v:Int,0≤v→v.toNat<a.length→φ v):
  lC a f d (List.replicate (a.length:Int).toNat d) 0∧ ∀(x:List β) (v:Int),lC a f d x v→(((decide (v<(a.length:Int)))=false→x.length≤4611686018427387904∧x=ad)∧((decide (v<(a.length:Int)))=true→((0≤v∧v.toNat<a.length)∧(φ v∧((0≤v∧v.toNat<x.length)∧v.toNat<x.length)))∧
   (lC a f d (x.set v.toNat (f (nth a v))) (IntKind.i64.wrap (v+1))∧mi a (x.set v.toNat (f (nth a v))) (IntKind.i64.wrap (v+1))<mi a x v))):=by
 refine⟨⟨Int.le_refl _,c8 a,by rw[QN];simp⟩,fun x v ⟨aM,h1,hx⟩=>⟨fun hv=> ?_,fun hv=> ?_⟩⟩
 ·have hv: ¬v<(a.length:Int):=by simpa using hv
  subst hx
  exact⟨by rw[BQ h1];exact hs,by rw[QM (by omega)];exact aq⟩
 ·have hv:v<(a.length:Int):=by simpa using hv
  have aS:v.toNat<a.length:=by omega
  subst hx
  refine⟨⟨⟨aM,aS⟩,dK v aM aS,⟨aM,by rw[BQ h1];exact aS⟩,by rw[BQ h1];exact aS⟩,?_⟩
  rw[oH (dD hs) aM hv]
  exact⟨⟨by omega,by omega,QO aM aS⟩,by unfold mi;omega⟩
theorem ye {α β:Type} [Inhabited α] {a:List α} {f:α→β} {d:β} {ad:List β} (hs:a.length≤4611686018427387904) (aq:a.map f=ad):
  lC a f d (List.replicate (a.length:Int).toNat d) 0∧ ∀(x:List β) (v:Int),lC a f d x v→(((decide (v<(a.length:Int)))=false→x.length≤4611686018427387904∧x=ad)∧((decide (v<(a.length:Int)))=true→((0≤v∧v.toNat<a.length)∧((0≤v∧v.toNat<x.length)∧v.toNat<x.length))∧
   (lC a f d (x.set v.toNat (f (nth a v))) (IntKind.i64.wrap (v+1))∧mi a (x.set v.toNat (f (nth a v))) (IntKind.i64.wrap (v+1))<mi a x v))):=by
 obtain⟨h1,h2⟩:=yd (φ:=fun _=>True) (d:=d) hs aq fun _ _ _=>trivial
 exact⟨h1,fun x v a6=>⟨(h2 x v a6).1,fun hv=>⟨⟨((h2 x v a6).2 hv).1.1,((h2 x v a6).2 hv).1.2.2⟩,((h2 x v a6).2 hv).2⟩⟩⟩
theorem KN {n:Nat} {left:Int} (aM:0≤left) (h1:left≤1048576) (h: ¬ee n left<0):0≤ee n left∧ee n left≤1048576:=by
 refine⟨by omega,?_⟩
 unfold ee at h ⊢
 split<;>omega
theorem KM {n m:Nat} {left:Int} (aM:0≤left) (h:ee n left<0):ee (n+m) left= -1:=by
 rw[KL aM,if_pos h]
theorem pd {n m:Nat} {left:Int} (aM:0≤left) (h: ¬ee n left<0):ee m (ee n left)=ee (n+m) left:=by
 rw[KL aM,if_neg h]
theorem Og {α:Type} {xs:List α} {left:Int} (ap:xs.length≤4611686018427387904) (h:0≤left∧left≤1048576):IntKind.i64.wrap (left - (xs.length:Int))=left - xs.length:=hn (by omega) (by omega)
theorem Aa {α:Type} {a:List α} {left:Int} (ai:0≤left∧left≤1048576) (ap:a.length≤4611686018427387904):
  ((decide ((IntKind.i64.wrap (left - (a.length:Int)))<0))=true→(-1)=bX a left)∧((!(decide ((IntKind.i64.wrap (left - (a.length:Int)))<0)))=true→(IntKind.i64.wrap (left - (a.length:Int)))=bX a left):=by
 rw[Og ap ai]
 unfold bX ee
 constructor<;>intro h<;>split<;>simp_all<;>omega
def us {α:Type} (a:List α) (f:α→Nat) (Wu:Int) (left v:Int):Prop:=0≤v∧v≤a.length∧0≤left∧left≤1048576∧left=ee (a.length+((a.take v.toNat).map f).sum) Wu
def uu {α:Type} (a:List α) (left v:Int):Nat:=(a.length - v).toNat
theorem Fi {α:Type} [Inhabited α] {a:List α} {f:α→Nat} {g:α→Int→Int} {left:Int} (aL: ∀x l,g x l=ee (f x) l) (ai:0≤left∧left≤1048576) (ap:a.length≤4611686018427387904):
  ((decide ((IntKind.i64.wrap (left - (a.length:Int)))<0))=true→(-1)=ee (a.length+(a.map f).sum) left)∧((!(decide ((IntKind.i64.wrap (left - (a.length:Int)))<0)))=true→
   us a f left (IntKind.i64.wrap (left - (a.length:Int))) 0∧ ∀(w:Int) (v:Int),us a f left w v→(((decide (v<(a.length:Int)))=false→w=ee (a.length+(a.map f).sum) left)∧((decide (v<(a.length:Int)))=true→
    (((0≤v∧v.toNat<a.length)∧(eZ (nth a v) w))∧((decide ((g (nth a v) w)<0))=true→(-1)=ee (a.length+(a.map f).sum) left))∧((!(decide ((g (nth a v) w)<0)))=true→us a f left (g (nth a v) w) (IntKind.i64.wrap (v+1))∧uu a (g (nth a v) w) (IntKind.i64.wrap (v+1))<uu a w v)))):=by
 rw[Og ap ai]
 refine⟨fun h=> ?_,fun h=>⟨⟨Int.le_refl _,c8 a,?_⟩,fun w v ⟨v0,v1,aV,cj,hw⟩=>⟨fun hv=> ?_,fun hv=> ?_⟩⟩⟩
 ·have h:left - a.length<0:=by simpa using h
  unfold ee;rw[if_pos (by omega)]
 ·have h: ¬left - a.length<0:=by simpa using h
  refine⟨by omega,by omega,?_⟩
  simp only[Int.toNat_zero,List.take_zero,List.map_nil,List.sum_nil,Nat.add_zero]
  unfold ee;rw[if_neg (by omega)]
 ·have hv: ¬v<(a.length:Int):=by simpa using hv
  rw[hw,List.take_of_length_le (by omega)]
 ·have hv:v<(a.length:Int):=by simpa using hv
  have aS:v.toNat<a.length:=by omega
  have hs:((a.take (v+1).toNat).map f).sum=((a.take v.toNat).map f).sum+f (nth a v):=by
   rw[show(v+1).toNat=v.toNat+1 by omega,List.take_succ_eq_append_getElem aS,List.map_append,List.sum_append,hT aS];simp
  have yM: ¬ee (a.length+((a.take v.toNat).map f).sum) left<0:=by omega
  have eA:g (nth a v) w=ee (a.length+((a.take (v+1).toNat).map f).sum) left:=by
   rw[aL,hw,pd ai.1 yM,hs,Nat.add_assoc]
  refine⟨⟨⟨⟨v0,aS⟩,aV,cj⟩,fun h=> ?_⟩,fun h=> ?_⟩
  ·have h:g (nth a v) w<0:=by simpa using h
   rw[eA] at h
   have aY:(a.map f).sum=((a.take (v+1).toNat).map f).sum+((a.drop (v+1).toNat).map f).sum:=by
    rw[←List.sum_append,←List.map_append,List.take_append_drop]
   rw[aY,←Nat.add_assoc,KM ai.1 h]
  ·have h: ¬g (nth a v) w<0:=by simpa using h
   rw[oH (dD ap) v0 hv]
   have:=KN ai.1 ai.2 (eA▸h)
   refine⟨⟨by omega,by omega,by rw[eA];exact this.1,by rw[eA];exact this.2,eA⟩,by unfold uu;omega⟩
theorem mE {n m T:Nat} {left:Int} {R:Prop} (ai:0≤left∧left≤1048576) (bS:T=n+m) (h: ¬ee n left<0→0≤ee n left∧ee n left≤1048576→R):
  ((decide (ee n left<0))=true→(-1)=ee T left)∧((!(decide (ee n left<0)))=true→R):=by
 refine⟨fun aY=> ?_,fun aY=> ?_⟩
 ·have aY:ee n left<0:=by simpa using aY
  rw[bS,KM ai.1 aY]
 ·have aY: ¬ee n left<0:=by simpa using aY
  exact h aY (KN ai.1 ai.2 aY)
theorem wc {α:Type} (l:List α):l.map ah=ah l:=by
 show l.map (fun x=>x)=l
 simp
theorem wg {α:Type} (f:α→Nat) {x:α}: ∀{l:List α},x∈l→f x≤(l.map f).sum
 | [],h=>by cases h
 | y::l,h=>by
  rw[List.map_cons,List.sum_cons]
  rcases List.mem_cons.1 h with rfl | h
  ·omega
  ·have:=wg f h;omega
theorem rc {xs:List Int} {x:Int}:fI xs x=true↔x∈xs:=by unfold fI;simp
theorem Sg {xs:List Int} {x k:Int} (hk:k.toNat<xs.length) (h:(x==nth xs k)=true):fI xs x=true:=by
 rw[rc,show x=nth xs k by simpa using h];exact eC hk
theorem Se {xs:List Int} {x:Int} (h: ∀j:Int,0≤j→j<xs.length→(x==nth xs j)=false):fI xs x=false:=by
 rw[←Bool.not_eq_true,rc]
 intro hm
 have:=km (q:=fun y=>x==y) h x hm
 simp at this
theorem TF (xs:List Int) (x:Int):(decide (k6 xs x ≥ 0))=fI xs x:=by
 unfold k6
 cases h:first xs (fun y=>x==y) with
 | none=>
  unfold first at h
  rw[List.findIdx?_eq_none_iff] at h
  have:fI xs x=false:=by
   rw[←Bool.not_eq_true,rc]
   intro hm
   have:=h x hm
   simp at this
  rw[this];rfl
 | some i=>
  unfold first at h
  rw[List.findIdx?_eq_some_iff_getElem] at h
  obtain⟨hi,ai,_⟩:=h
  have:fI xs x=true:=by rw[rc,show x=xs[i] by simpa using ai];exact List.getElem_mem hi
  rw[this]
  show decide ((i:Int) ≥ 0)=true
  simp
theorem Qm {xs:List Int} {v:Int} (aM:0≤v) (hv:v.toNat<xs.length) (h:fI (xs.take v.toNat) (nth xs v)=true):dup xs=true:=by
 rw[rc] at h
 unfold dup
 simp only[Bool.not_eq_true',decide_eq_false_iff_not]
 intro ap
 obtain⟨i,hi,he⟩:=List.mem_take_iff_getElem.1 h
 rw[hT hv] at he
 exact(List.pairwise_iff_getElem.1 ap) i v.toNat (by omega) hv (by omega) he
theorem GO {xs:List Int} (h: ∀j:Int,0≤j→j<xs.length→fI (xs.take j.toNat) (nth xs j)=false):dup xs=false:=by
 unfold dup
 simp only[Bool.not_eq_false',decide_eq_true_eq]
 unfold List.Nodup
 rw[List.pairwise_iff_getElem]
 intro i j hi ar aS he
 have:=h j (by omega) (by omega)
 rw[←Bool.not_eq_true,rc,h7 ar] at this
 exact this (by rw[List.mem_take_iff_getElem];exact⟨i,by omega,he⟩)
theorem Eo (x n:Int):(decide (x<0) || decide (x ≥ n))= !bN x 0 (n - 1):=by
 rw[Bool.eq_iff_iff]
 simp[bN]
 omega
theorem K8 {α:Type} {l:List α} (k:Nat):decide ((l.length:Int)≤(k:Int))=decide (l.length≤k):=decide_eq_decide.2 (by omega)
theorem Xm {α:Type} [Inhabited α] {β:Type} [DecidableEq β] {l:List α} {f:α→β} (h: ∀i j:Int,0≤i→i<j→j<l.length→f (nth l i)≠f (nth l j)):(l.map f).Nodup:=by
 unfold List.Nodup
 rw[List.pairwise_iff_getElem]
 intro i j hi ar aS
 simp only[List.length_map] at hi ar
 rw[List.getElem_map,List.getElem_map]
 have:=h i j (by omega) (by omega) (by omega)
 rwa [h7 hi,h7 ar] at this
theorem Ld {α:Type} [Inhabited α] {β:Type} [DecidableEq β] {l:List α} {f:α→β} {i j:Int} (aM:0≤i) (h1:i<j) (h2:j<l.length) (he:f (nth l i)=f (nth l j)): ¬(l.map f).Nodup:=by
 intro ap
 have:=(List.pairwise_iff_getElem.1 ap) i.toNat j.toNat (by simp;omega) (by simp;omega) (by omega)
 rw[List.getElem_map,List.getElem_map,←hT (by omega),←hT (by omega)] at this
 exact this he
theorem map_id' {α:Type} (l:List α):l.map (fun x=>x)=l:=by simp
theorem rM {l:List Int} {n:Int}:fV l n=true↔l.length≤30∧(∀x∈l,bN x 0 (n - 1)=true)∧l.Nodup:=by
 unfold fV;simp[and_assoc]
theorem WJ {l:List Int} {n:Int} (h: ∀j:Int,0≤j→j<l.length→(!bN (nth l j) 0 (n - 1) || fI (l.take j.toNat) (nth l j))=false):fV l n=decide (l.length≤30):=by
 have h1: ∀x∈l,bN x 0 (n - 1)=true:=fun x hx=>by
  have:=km (q:=fun x=> !bN x 0 (n - 1)) (fun j b2 ep=>(Bool.or_eq_false_iff.1 (h j b2 ep)).1) x hx
  simpa using this
 have h2:dup l=false:=GO fun j b2 ep=>(Bool.or_eq_false_iff.1 (h j b2 ep)).2
 have h2:l.Nodup:=by unfold dup at h2;simpa using h2
 rw[Bool.eq_iff_iff,rM]
 simp only[decide_eq_true_eq]
 exact⟨fun h=>h.1,fun h=>⟨h,h1,h2⟩⟩
theorem KQ {l:List Int} {n:Int} {v:Int} (hv:v.toNat<l.length) (h:(!bN (nth l v) 0 (n - 1))=true):fV l n=false:=by
 rw[←Bool.not_eq_true,rM]
 intro bw
 have:=bw.2.1 _ (eC hv)
 simp[this] at h
theorem WI {l:List Int} {n:Int} {i j:Int} (aM:0≤i) (h1:i<j) (h2:j<l.length) (he:(nth l i==nth l j)=true):fV l n=false:=by
 rw[←Bool.not_eq_true,rM]
 intro bw
 have:=Ld (f:=fun x=>x) aM h1 h2 (by simpa using he)
 rw[map_id'] at this
 exact this bw.2.2
theorem Sf {l:List Int} {v:Int} (aM:0≤v) (hv:v<l.length) (h: ∀j:Int,0≤j→j<v→(nth l j==nth l v)=false):fI (l.take v.toNat) (nth l v)=false:=by
 rw[←Bool.not_eq_true,rc]
 intro hm
 obtain⟨i,hi,he⟩:=List.mem_take_iff_getElem.1 hm
 have:=h i (by omega) (by omega)
 rw[h7 (by omega),he] at this
 simp at this
theorem k8 {p:aN} {l:List b9}:ju p l=true↔l.length≤30∧(∀x∈l,(bN x.bo 0 (p.bu.length - 1)&&bN x.bG 1 2)=true)∧(l.map (·.bo)).Nodup:=by
 unfold ju;simp[and_assoc]
def ms (p:aN) (x:b9):Bool:=(!bN x.bo 0 (p.bu.length - 1)) || (!bN x.bG 1 2)
theorem vZ (p:aN) (x:b9):ms p x= !(bN x.bo 0 (p.bu.length - 1)&&bN x.bG 1 2):=by unfold ms;rw[Bool.not_and]
def v7 (l:List b9) (j:Int):Bool:=(l.take j.toNat).any fun y=>y.bo==(nth l j).bo
theorem WG {p:aN} {l:List b9} (h: ∀j:Int,0≤j→j<l.length→(ms p (nth l j) || v7 l j)=false):ju p l=decide (l.length≤30):=by
 have h1: ∀x∈l,(bN x.bo 0 (p.bu.length - 1)&&bN x.bG 1 2)=true:=fun x hx=>by
  have:=km (q:=ms p) (fun j b2 ep=>(Bool.or_eq_false_iff.1 (h j b2 ep)).1) x hx
  rw[vZ] at this
  simpa using this
 have h2:(l.map (·.bo)).Nodup   :=Xm fun i j aM h1 ar=>by
  have:=(Bool.or_eq_false_iff.1 (h j (by omega) ar)).2
  unfold v7 at this
  rw[List.any_eq_false] at this
  have:=this (nth l i) (by rw[hT (by omega)];exact List.mem_take_iff_getElem.2 ⟨i.toNat,by omega,rfl⟩)
  simpa using this
 rw[Bool.eq_iff_iff,k8]
 simp only[decide_eq_true_eq]
 exact⟨fun h=>h.1,fun h=>⟨h,h1,h2⟩⟩
theorem WH {p:aN} {l:List b9} {v:Int} (hv:v.toNat<l.length) (h:ms p (nth l v)=true):ju p l=false:=by
 rw[←Bool.not_eq_true,k8]
 intro bw
 rw[vZ,bw.2.1 _ (eC hv)] at h
 cases h
theorem WE {p:aN} {l:List b9} {i j:Int} (aM:0≤i) (h1:i<j) (h2:j<l.length) (he:((nth l i).bo==(nth l j).bo)=true):ju p l=false:=by
 rw[←Bool.not_eq_true,k8]
 exact fun bw=>Ld (f:=fun x:b9=>x.bo) aM h1 h2 (by simpa using he) bw.2.2
theorem WD {l:List b9} {v:Int} (aM:0≤v) (hv:v<l.length) (h: ∀j:Int,0≤j→j<v→((nth l j).bo==(nth l v).bo)=false):v7 l v=false:=by
 unfold v7
 rw[List.any_eq_false]
 intro y bd
 obtain⟨i,hi,rfl⟩:=List.mem_take_iff_getElem.1 bd
 have:=h i (by omega) (by omega)
 rw[h7 (by omega)] at this
 rw[this];simp
theorem W3 (a b:List Int):meets a b=meets b a:=by
 unfold meets
 rw[Bool.eq_iff_iff]
 simp only[List.any_eq_true,List.contains_iff_mem]
 exact⟨fun⟨x,h1,h2⟩=>⟨x,h2,h1⟩,fun⟨x,h1,h2⟩=>⟨x,h2,h1⟩⟩
theorem y9 (x:Int) (b:List Int):meets [x] b=b.contains x:=by unfold meets;simp
theorem nK {p:aN} {w:Way}:gB p w=true↔w.ag≠[]∧fV w.ag p.ag=true∧fV w.bZ p.ag=true∧fV w.c6 p.ag=true∧ju p w.a7=true∧ju p w.bJ=true∧
  ((cg w).map (·.bo)).Nodup∧(∀x∈w.a7,w.ag.contains (nth p.bu x.bo)=true)∧meets w.ag w.bZ=false:=by
 unfold gB;simp[and_assoc]
theorem DP {w:Way}:((cg w).map (·.bo)).Nodup↔(w.a7.map (·.bo)).Nodup∧(w.bJ.map (·.bo)).Nodup∧ ∀x∈w.a7,∀y∈w.bJ,x.bo≠y.bo:=by
 unfold cg
 rw[List.map_append,List.nodup_append]
 simp only[List.mem_map]
 constructor
 ·rintro⟨h1,h2,aH⟩;exact⟨h1,h2,fun x hx y bd=>aH _ ⟨x,hx,rfl⟩ _ ⟨y,bd,rfl⟩⟩
 ·rintro⟨h1,h2,aH⟩
  refine⟨h1,h2,?_⟩
  rintro a ⟨x,hx,rfl⟩ b ⟨y,bd,rfl⟩
  exact aH x hx y bd
def jf (p:aN):Bool:=bN p.ag 1 60&&bN p.dq 1 300&&decide (p.bu.length≤40)&&decide (p.M.length≤100)
theorem D2 {p:aN} (h:jf p=false):gx p=⟨1,0⟩:=by
 unfold gx;unfold jf at h;rw[if_neg (by rw[h];simp)]
theorem D3 {p:aN} (h:jf p=true):gx p=tR p:=by
 unfold gx;unfold jf at h;rw[if_pos h]
theorem LG {p:aN} {k:Nat} (hb:jf p=true) (h:first p.bu (fun s=> !bN s 0 (p.ag - 1))=some k):gx p=⟨2,k⟩:=by rw[D3 hb];unfold tR;rw[h]
theorem LJ {p:aN} (hb:jf p=true) (h:first p.bu (fun s=> !bN s 0 (p.ag - 1))=none):gx p=tS p:=by rw[D3 hb];unfold tR;rw[h]
theorem LH {p:aN} {k:Nat} (hb:jf p=true) (h:first p.bu (fun s=> !bN s 0 (p.ag - 1))=none) (hw:first p.M (fun w=> !gB p w)=some k):gx p=⟨3,k⟩:=by rw[LJ hb h];unfold tS;rw[hw]
theorem LI {p:aN} (hb:jf p=true) (h:first p.bu (fun s=> !bN s 0 (p.ag - 1))=none) (hw:first p.M (fun w=> !gB p w)=none):gx p=mz p:=by rw[LJ hb h];unfold tS;rw[hw]
theorem LD {p:aN} (h:p.bz.length≠p.M.length):mz p=⟨4,0⟩:=by unfold mz;rw[if_neg h]
theorem LB {p:aN} {k:Nat} (h:p.bz.length=p.M.length) (hb:first p.bz (fun b=>decide (b.length≠p.M.length))=some k):mz p=⟨4,k⟩:=by unfold mz;rw[if_pos h,hb]
theorem LC {p:aN} {k:Nat} (h:p.bz.length=p.M.length) (hb:first p.bz (fun b=>decide (b.length≠p.M.length))=none) (af:first (List.range p.M.length) (fun i=>(List.range p.M.length).any fun k=>mQ p i k)=some k):mz p=⟨5,k⟩:=by
 unfold mz;rw[if_pos h,hb];simp only;rw[af]
theorem LA {p:aN} (h:p.bz.length=p.M.length) (hb:first p.bz (fun b=>decide (b.length≠p.M.length))=none) (af:first (List.range p.M.length) (fun i=>(List.range p.M.length).any fun k=>mQ p i k)=none):mz p=⟨0,0⟩:=by
 unfold mz;rw[if_pos h,hb];simp only;rw[af]
theorem r3 {p:aN}:jf p=true↔(1≤p.ag∧p.ag≤60)∧(1≤p.dq∧p.dq≤300)∧p.bu.length≤40∧p.M.length≤100:=by
 unfold jf bN;simp[and_assoc]
theorem Hl {n:Nat} {q:Nat→Bool} {v:Int} (aM:0≤v) (hv:v<n) (h: ∀j:Int,0≤j→j<v→q j.toNat=false) (af:q v.toNat=true):first (List.range n) q=some v.toNat:=by
 unfold first
 rw[List.findIdx?_eq_some_iff_getElem]
 refine⟨by simp;omega,by simpa using af,fun j ar=> ?_⟩
 have:=h j (by omega) (by omega)
 simpa using this
theorem Hk {n:Nat} {q:Nat→Bool} (h: ∀j:Int,0≤j→j<n→q j.toNat=false):first (List.range n) q=none:=by
 unfold first
 rw[List.findIdx?_eq_none_iff]
 intro x hx
 have:=h x (by omega) (by have:=List.mem_range.1 hx;omega)
 simpa using this
theorem F3 {n:Nat} {q:Nat→Bool} {v:Int} (aM:0≤v) (hv:v<n) (h:q v.toNat=true):(List.range n).any q=true:=by
 rw[List.any_eq_true];exact⟨v.toNat,List.mem_range.2 (by omega),h⟩
theorem K7 {n:Nat} {q:Nat→Bool} (h: ∀j:Int,0≤j→j<n→q j.toNat=false):(List.range n).any q=false:=by
 rw[List.any_eq_false]
 intro x hx
 have:=h x (by omega) (by have:=List.mem_range.1 hx;omega)
 simp only[Int.toNat_natCast] at this
 rw[this];simp
theorem mw {α:Type} [Inhabited α] {xs:List α} {i:Int} (h:0≤i):nth xs (i.toNat:Int)=nth xs i:=by rw[Int.toNat_of_nonneg h]
theorem WC (p:aN) (x:b9):((decide (x.bo<0)) || ((decide (x.bo ≥ (p.bu.length:Int))) || ((x.bG !=1)&&(x.bG !=2))))=ms p x:=by
 unfold ms
 rw[←Eo,Bool.or_assoc]
 congr 2
 rw[Bool.eq_iff_iff]
 simp[bN]
 omega
def np (p:aN) (w:Way) (j:Int):Bool:=ms p (nth (cg w) j) || (decide (j<(w.a7.length:Int))&& !(fI w.ag (nth p.bu (nth (cg w) j).bo)))
theorem K9 {w:Way} {j:Int} (aM:0≤j) (h:j<w.a7.length):nth (cg w) j=nth w.a7 j:=by
 rw[hT (xs:=w.a7) (by omega),hT (by unfold cg;rw[List.length_append];omega)]
 unfold cg
 rw[List.getElem_append_left]
theorem RE {p:aN} {w:Way} (h:gB p w=true): ∀l∈[w.ag,w.bZ,w.c6],fV l p.ag=true:=by
 obtain⟨-,h1,h2,aH,-⟩:=nK.1 h
 intro l aE
 simp only[List.mem_cons,List.not_mem_nil,or_false] at aE
 rcases aE with rfl | rfl | rfl
 ·exact h1
 ·exact h2
 ·exact aH
theorem RF {p:aN} {w:Way} (h:gB p w=true) {j:Int} (aM:0≤j) (ar:j.toNat<(cg w).length):np p w j=false:=by
 obtain⟨-,-,-,-,bn,cX,-,eG,-⟩:=nK.1 h
 have hm:=eC ar
 have hb:ms p (nth (cg w) j)=false:=by
  rw[vZ]
  unfold cg at hm ⊢
  rcases List.mem_append.1 hm with hm | hm
  ·rw[(k8.1 bn).2.1 _ hm];rfl
  ·rw[(k8.1 cX).2.1 _ hm];rfl
 unfold np
 rw[hb,Bool.false_or]
 by_cases aE:j<(w.a7.length:Int)
 ·rw[K9 aM aE]
  have:fI w.ag (nth p.bu (nth w.a7 j).bo)=true:=eG _ (eC (by omega))
  rw[this];simp
 ·simp[aE]
theorem RD {p:aN} {w:Way} (h1:w.ag≠[]) (aE: ∀l∈[w.ag,w.bZ,w.c6],fV l p.ag=true) (aH:w.a7.length≤30) (bn:w.bJ.length≤30)
  (ap: ∀j:Int,0≤j→j<(cg w).length→np p w j=false):((!(dup ((cg w).map (·.bo))))&&(!(meets w.ag w.bZ)))=gB p w:=by
 have hb: ∀x∈cg w,(bN x.bo 0 (p.bu.length - 1)&&bN x.bG 1 2)=true:=fun x hx=>by
  have:=km (q:=ms p) (fun j b2 ep=>by have:=ap j b2 ep;unfold np at this;exact(Bool.or_eq_false_iff.1 this).1) x hx
  rw[vZ] at this
  simpa using this
 have hc: ∀x∈w.a7,w.ag.contains (nth p.bu x.bo)=true:=fun x hx=>by
  have:=km (q:=fun x=> !(fI w.ag (nth p.bu x.bo))) (fun j b2 ep=>by
   have:=ap j b2 (by unfold cg;rw[List.length_append];omega)
   unfold np at this
   have:=(Bool.or_eq_false_iff.1 this).2
   rw[K9 b2 ep] at this
   simpa[ep] using this) x hx
  simp only[Bool.not_eq_false'] at this
  exact this
 rw[Bool.eq_iff_iff,nK]
 simp only[Bool.and_eq_true,Bool.not_eq_true',dup,Bool.not_eq_false',decide_eq_true_eq]
 constructor
 ·rintro⟨aY,hm⟩
  have pV:=DP.1 aY
  exact⟨h1,aE _ (by simp),aE _ (by simp),aE _ (by simp),k8.2 ⟨aH,fun x hx=>hb x (by unfold cg;exact List.mem_append_left _ hx),pV.1⟩,k8.2 ⟨bn,fun x hx=>hb x (by unfold cg;exact List.mem_append_right _ hx),pV.2.1⟩,aY,hc,hm⟩
 ·rintro⟨-,-,-,-,-,-,aY,-,hm⟩
  exact⟨aY,hm⟩
theorem Gc {p:aN} {i k:Int} (aM:0≤i) (h1:0≤k):(((nth (nth p.bz i) k) !=(nth (nth p.bz k) i)) || ((i !=k)&&((!(nth (nth p.bz i) k))&&(meets (nth p.M i).ag (nth p.M k).ag))))=mQ p i.toNat k.toNat:=by
 unfold mQ pG
 rw[Int.toNat_of_nonneg aM,Int.toNat_of_nonneg h1]
 have:(i !=k)=decide (i.toNat≠k.toNat):=by
  rw[Bool.eq_iff_iff];simp;omega
 rw[this,Bool.and_assoc]
theorem XU (p:aN):((gx p).code==0)=fP p:=by
 have key:(gx p).code=0→(gx p).pos=0:=by
  unfold gx tR tS mz
  split
  ·split
   ·intro h;cases h
   ·split
    ·intro h;cases h
    ·split
     ·split
      ·intro h;cases h
      ·split
       ·intro h;cases h
       ·intro _;rfl
     ·intro h;cases h
  ·intro h;cases h
 unfold fP
 rw[Bool.eq_iff_iff]
 simp only[beq_iff_eq,decide_eq_true_eq]
 constructor
 ·intro h
  have:=key h
  cases af:gx p with
  | mk c q=>rw[af] at h this;simp at h this;rw[h,this]
 ·intro h;rw[h]
theorem XT (p:aN):((gx p).code==0&&(gx p).pos==0)=fP p:=by
 unfold fP
 rw[Bool.eq_iff_iff]
 simp only[Bool.and_eq_true,beq_iff_eq,decide_eq_true_eq]
 constructor
 ·rintro⟨h1,h2⟩
  cases af:gx p with
  | mk c q=>rw[af] at h1 h2;simp at h1 h2;rw[h1,h2]
 ·intro h;rw[h];exact⟨rfl,rfl⟩
theorem XS {p:aN} (h:fP p=true):jf p=true:=by
 cases hb:jf p with
 | true=>rfl
 | false=>unfold fP at h;rw[D2 hb] at h;simp at h
def l4 (f:Frame):Prop:=f.aF.length≤1048576∧f.aB.length≤1048576∧f.M.length≤1048576∧ ∀h∈f.M,h.U.length≤1048576
structure sC (p:aN):Prop where
 cv:0≤p.ag∧p.ag≤60
 M:p.M.length≤100
 bo:p.bu.length≤40
 ag: ∀w∈p.M,w.ag≠[]∧w.ag.length≤30∧ ∀x∈w.ag,0≤x∧x<p.ag
 bZ: ∀w∈p.M,w.bZ.length≤30∧ ∀x∈w.bZ,0≤x∧x<p.ag
 c6: ∀w∈p.M,w.c6.length≤30∧ ∀x∈w.c6,0≤x∧x<p.ag
 a7: ∀w∈p.M,w.a7.length≤30∧w.bJ.length≤30∧ ∀x∈cg w,0≤x.bo∧x.bo<p.bu.length
 bu: ∀x∈p.bu,0≤x∧x<p.ag
structure jC (p:aN) (f:Frame):Prop where
 aF:(f.aF.length:Int)=p.ag
 aB:f.aB.length=p.bu.length
 M:f.M.length=p.M.length
 U: ∀(i:Nat) (h:ab) (w:Way),f.M[i]?=some h→p.M[i]?=some w→h.U.length=w.ag.length
 aa: ∀h∈f.M,0≤h.aa∧h.aa≤h.U.length
def eI (f:Frame) (x:Int):Bool:=nth f.aF x
def jl (f:Frame) (l:List Int):Bool:=l.any (eI f)
def um (f:Frame) (l:List Int):Prop:= ∀x∈l,0≤x∧x<f.aF.length
def gk (p:aN) (f:Frame) (i:Int):Bool:=
 (cg (nth p.M i)).all (fun l=>decide (nth f.aB l.bo=⟨l.bG,l.bG⟩))&& !jl f (nth p.M i).ag&& !jl f (nth p.M i).bZ
def tV (p:aN) (f:Frame) (i:Int):Prop:=sC p∧jC p f∧0≤i∧i<p.M.length
def rF (n:Nat):ab:=⟨0,0,List.replicate n false,false,0⟩
def da (p:aN) (i:Int):ab:=rF (nth p.M i).ag.length
def IF (p:aN) (i:Int):Prop:=sC p∧0≤i∧i<p.M.length
def ik (s:List Int) (f:Frame) (U:List Bool):Nat→Nat→Nat
 | 0,g=>g
 | n+1,g=>if g<s.length∧U.getD g false=true∧eI f (s.getD g 0)=false∧(g+1=s.length∨U.getD (g+1) false=true) then ik s f U n (g+1) else g
def k_ (s:List Int) (f:Frame) (h:ab):ab:=
 let U:=List.zipWith (fun b x=>b || eI f x) h.U s
 let g:=ik s f U s.length h.aa.toNat
 if g=s.length then rF s.length else{h with U:=U,aa:=g}
def kM (p:aN) (f:Frame) (i:Nat):ab:=
 let h:=nth f.M i
 let s:=(nth p.M i).ag
 if h.az=0 then h else
 let h:=if h.az≠4∧eI f (nth s 0)=true then{h with az:=4,ao:=0} else h
 let h:=if h.az=1∨h.az=2 then(if gk p f i=true then{h with az:=2,an:=true} else{h with az:=1}) else h
 if h.az=4 then k_ s f h else h
def hW (p:aN):Nat→Frame→Frame
 | 0,f=>f
 | n+1,f=>let g:=hW p n f;{g with M:=g.M.set n (kM p g n)}
def lf (p:aN) (f:Frame):Frame:=hW p f.M.length f
def wV (p:aN) (f:Frame):Prop:=sC p∧jC p f
structure cN (V:List ab) (ids:List Nat) (v:Int) (h:ab) (ws:List ab) (bs:List (List Bool)):Prop where
 ok:lk ws ids bs
 jx: ∀i j k:Nat,ids[i]?=some k→ids[j]?=some k→i=j
 lt:v.toNat<ws.length
 hG:view ws ids bs=V.set v.toNat h
 len: ∀b∈bs,b.length≤1048576
section
variable {V:List ab} {ids:List Nat} {v:Int} {h:ab} {ws:List ab} {bs:List (List Bool)}
theorem cN.gV (F:cN V ids v h ws bs):ws.length=ids.length∧v.toNat<ws.length:=⟨F.ok.len,F.lt⟩
theorem cN.qB (F:cN V ids v h ws bs):V.length=ws.length:=by
 have:=congrArg List.length F.hG
 rw[iC F.ok,List.length_set] at this;exact this.symm
theorem cN.id (F:cN V ids v h ws bs):ids[v.toNat]?=some (nth ids v):=fY (by rw[←F.ok.len];exact F.lt)
theorem cN.oj (F:cN V ids v h ws bs):nth ids v<bs.length:=F.ok.lt _ _ F.id
theorem cN.row (F:cN V ids v h ws bs):h={nth ws v with U:=bs.getD (nth ids v) []}:=by
 have h1:=uy (bs:=bs) (fY F.lt) F.id
 rw[F.hG,List.getElem?_set_self (by rw[F.qB];exact F.lt)] at h1
 exact Option.some.inj h1
theorem cN.az (F:cN V ids v h ws bs):(nth ws v).az=h.az:=by rw[F.row]
theorem cN.aa (F:cN V ids v h ws bs):(nth ws v).aa=h.aa:=by rw[F.row]
theorem cN.an (F:cN V ids v h ws bs):(nth ws v).an=h.an:=by rw[F.row]
theorem cN.ao (F:cN V ids v h ws bs):(nth ws v).ao=h.ao:=by rw[F.row]
theorem cN.U (F:cN V ids v h ws bs):bs.getD (nth ids v) []=h.U:=by rw[F.row]
theorem cN.nY (F:cN V ids v h ws bs):(nth ws v).U.length=h.U.length:=by
 rw[←F.U];exact F.ok.U _ _ _ (fY F.lt) F.id
theorem cN.start (ok:lk ws ids bs) (jx: ∀i j k:Nat,ids[i]?=some k→ids[j]?=some k→i=j) (lt:v.toNat<ws.length) (hG:view ws ids bs=V) (len: ∀b∈bs,b.length≤1048576):cN V ids v (nth V v) ws bs:=by
 have aE:v.toNat<V.length:=by rw[←hG,iC ok];exact lt
 exact⟨ok,jx,lt,by rw[hG,hT aE];exact(List.set_getElem_self _).symm,len⟩
theorem cN.uk (F:cN V ids v h ws bs) (x:ab) (hx:x.U.length=h.U.length):cN V ids v {x with U:=h.U} (ws.set v.toNat x) bs where
 ok:=⟨by rw[List.length_set];exact F.ok.len,F.ok.lt,fun i id y h1 h2=>by
  rw[List.getElem?_set] at h1
  split at h1
  ·rename_i e;subst e
   rw[if_pos F.lt] at h1;cases h1
   rw[F.id] at h2;cases h2
   rw[hx,F.U]
  ·exact F.ok.U i id y h1 h2⟩
 jx:=F.jx
 lt:=by rw[List.length_set];exact F.lt
 hG:=by
  apply List.ext_getElem?
  intro j
  have ar:=congrArg (·[j]?) F.hG
  simp only[view,List.getElem?_zipWith,List.getElem?_set] at ar ⊢
  by_cases e:v.toNat=j
  ·subst e
   have hv:=F.qB
   have:=F.lt
   rw[if_pos rfl,if_pos rfl,if_pos this,if_pos (by omega),F.id]
   show some _=some _
   rw[F.U]
  ·rw[if_neg e] at ar ⊢
   rw[if_neg e];exact ar
 len:=F.len
theorem cN.setState (F:cN V ids v h ws bs) (x:Int):cN V ids v {h with az:=x} (ws.set v.toNat ({az:=x,aa:=(nth ws v).aa,U:=(nth ws v).U,an:=(nth ws v).an,ao:=(nth ws v).ao}:ab)) bs:=by
 have:=F.uk ({az:=x,aa:=(nth ws v).aa,U:=(nth ws v).U,an:=(nth ws v).an,ao:=(nth ws v).ao}:ab) F.nY
 simpa only[F.aa,F.an,F.ao] using this
theorem cN.My (F:cN V ids v h ws bs) (x:Int):cN V ids v {h with aa:=x} (ws.set v.toNat ({az:=(nth ws v).az,aa:=x,U:=(nth ws v).U,an:=(nth ws v).an,ao:=(nth ws v).ao}:ab)) bs:=by
 have:=F.uk ({az:=(nth ws v).az,aa:=x,U:=(nth ws v).U,an:=(nth ws v).an,ao:=(nth ws v).ao}:ab) F.nY
 simpa only[F.az,F.an,F.ao] using this
theorem cN.MB (F:cN V ids v h ws bs) (x:Bool):cN V ids v {h with an:=x} (ws.set v.toNat ({az:=(nth ws v).az,aa:=(nth ws v).aa,U:=(nth ws v).U,an:=x,ao:=(nth ws v).ao}:ab)) bs:=by
 have:=F.uk ({az:=(nth ws v).az,aa:=(nth ws v).aa,U:=(nth ws v).U,an:=x,ao:=(nth ws v).ao}:ab) F.nY
 simpa only[F.az,F.aa,F.ao] using this
theorem cN.MC (F:cN V ids v h ws bs) (x:Int):cN V ids v {h with ao:=x} (ws.set v.toNat ({az:=(nth ws v).az,aa:=(nth ws v).aa,U:=(nth ws v).U,an:=(nth ws v).an,ao:=x}:ab)) bs:=by
 have:=F.uk ({az:=(nth ws v).az,aa:=(nth ws v).aa,U:=(nth ws v).U,an:=(nth ws v).an,ao:=x}:ab) F.nY
 simpa only[F.az,F.aa,F.an] using this
theorem cN.EA (F:cN V ids v h ws bs) (b:List Bool) (hb:b.length=h.U.length):cN V ids v {h with U:=b} ws (bs.set (nth ids v) b) where
 ok:=⟨F.ok.len,fun i id hi=>by rw[List.length_set];exact F.ok.lt i id hi,fun i id y h1 h2=>by
  rw[F.ok.U i id y h1 h2,List.getD_eq_getElem?_getD,List.getD_eq_getElem?_getD,List.getElem?_set]
  split
  ·rename_i e;subst e
   rw[if_pos F.oj,←List.getD_eq_getElem?_getD,F.U];exact hb.symm
  ·rfl⟩
 jx:=F.jx
 lt:=F.lt
 hG:=by
  apply List.ext_getElem?
  intro j
  have ar:=congrArg (·[j]?) F.hG
  simp only[view,List.getElem?_zipWith,List.getElem?_set] at ar ⊢
  by_cases e:v.toNat=j
  ·subst e
   have hv:=F.qB
   have:=F.lt
   rw[if_pos rfl,if_pos (by omega),F.id,fY F.lt]
   simp only[List.getD_eq_getElem?_getD,List.getElem?_set,if_pos F.oj]
   rw[F.row];simp
  ·rw[if_neg e] at ar ⊢
   rw[←ar]
   cases h1:ws[j]? with
   | none=>rfl
   | some y=>
    cases h2:ids[j]? with
    | none=>rfl
    | some id=>
     have cd:nth ids v≠id:=fun hid=>by
      have aH:=F.id
      rw[hid] at aH
      exact e (F.jx _ _ _ aH h2)
     simp only[List.getD_eq_getElem?_getD,List.getElem?_set,if_neg cd]
 len:=fun x hx=>by
  rcases List.mem_or_eq_of_mem_set hx with hx | rfl
  ·exact F.len x hx
  ·rw[hb,←F.U,List.getD_eq_getElem?_getD,List.getElem?_eq_getElem F.oj];exact F.len _ (List.getElem_mem F.oj)
theorem cN.new (F:cN V ids v h ws bs) (x:ab) (hx:x.U.length≤1048576):cN V (ids.set v.toNat bs.length) v x (ws.set v.toNat x) (bs++[x.U]) where
 ok:=⟨by rw[List.length_set,List.length_set];exact F.ok.len,fun i id hi=>by
   rw[List.getElem?_set] at hi
   rw[List.length_append,List.length_singleton]
   split at hi
   ·split at hi
    ·cases hi;omega
    ·cases hi
   ·have:=F.ok.lt i id hi;omega,fun i id y h1 h2=>by
   rw[List.getElem?_set] at h1 h2
   split at h1
   ·rename_i e;subst e
    have:=F.ok.len
    have:=F.lt
    rw[if_pos F.lt] at h1;rw[if_pos rfl,if_pos (by omega)] at h2
    cases h1;cases h2;simp
   ·rename_i e
    rw[if_neg e] at h2
    rw[F.ok.U i id y h1 h2,List.getD_eq_getElem?_getD,List.getD_eq_getElem?_getD,List.getElem?_append_left (F.ok.lt i id h2)]⟩
 jx:=fun i j k hi ar=>by
  rw[List.getElem?_set] at hi ar
  have aS: ∀q,ids[q]?≠some bs.length:=fun q af=>by have:=F.ok.lt q _ af;omega
  split at hi
  ·rename_i e;subst e
   split at hi
   ·cases hi
    split at ar
    ·rename_i e;exact e
    ·exact absurd ar (aS j)
   ·cases hi
  ·split at ar
   ·rename_i e;subst e
    split at ar
    ·cases ar;exact absurd hi (aS i)
    ·cases ar
   ·exact F.jx i j k hi ar
 lt:=by rw[List.length_set];exact F.lt
 hG:=by
  apply List.ext_getElem?
  intro j
  have ar:=congrArg (·[j]?) F.hG
  simp only[view,List.getElem?_zipWith,List.getElem?_set] at ar ⊢
  by_cases e:v.toNat=j
  ·subst e
   have hv:=F.qB
   have:=F.lt
   have:=F.ok.len
   rw[if_pos rfl,if_pos rfl,if_pos rfl,if_pos F.lt,if_pos (by omega),if_pos (by omega)]
   simp
  ·rw[if_neg e] at ar ⊢
   rw[if_neg e,if_neg e,←ar]
   cases h1:ws[j]? with
   | none=>rfl
   | some y=>
    cases h2:ids[j]? with
    | none=>rfl
    | some id=>
     simp only
     rw[List.getD_eq_getElem?_getD,List.getD_eq_getElem?_getD,List.getElem?_append_left (F.ok.lt j id h2)]
 len:=fun b hb=>by
  rcases List.mem_append.1 hb with hb | hb
  ·exact F.len b hb
  ·rw[List.mem_singleton.1 hb];exact hx
end
theorem Ha (ws:List ab):lk ws (List.range ws.length) (ws.map ab.U)∧(∀i j k:Nat,(List.range ws.length)[i]?=some k→(List.range ws.length)[j]?=some k→i=j)∧view ws (List.range ws.length) (ws.map ab.U)=ws:=by
 refine⟨⟨by simp,fun i id h=> ?_,fun i id h h1 h2=> ?_⟩,fun i j k h1 h2=> ?_,?_⟩
 ·obtain⟨hi,rfl⟩:=List.getElem?_eq_some_iff.1 h
  simpa using hi
 ·obtain⟨hi,rfl⟩:=List.getElem?_eq_some_iff.1 h2
  simp[h1]
 ·obtain⟨hi,rfl⟩:=List.getElem?_eq_some_iff.1 h1
  obtain⟨ar,e⟩:=List.getElem?_eq_some_iff.1 h2
  simpa using e.symm
 ·apply List.ext_getElem?
  intro j
  unfold view
  rw[List.getElem?_zipWith]
  rcases Nat.lt_or_ge j ws.length with ar | ar
  ·rw[List.getElem?_range ar,List.getElem?_eq_getElem ar]
   simp[ar]
  ·rw[List.getElem?_eq_none ar]
theorem zT (p:aN) (f:Frame): ∀n,(hW p n f).ok=f.ok∧(hW p n f).aF=f.aF∧(hW p n f).aB=f.aB
 | 0=>⟨rfl,rfl,rfl⟩
 | n+1=>zT p f n
theorem HE {s:List Int} {f:Frame} {U:List Bool}: ∀(n g:Nat),g≤s.length→g≤ik s f U n g∧ik s f U n g≤s.length
 | 0,g,h=>⟨Nat.le_refl _,h⟩
 | n+1,g,h=>by
  unfold ik
  split
  ·rename_i hc
   have:=HE (f:=f) (U:=U) n (g+1) hc.1
   exact⟨by omega,this.2⟩
  ·exact⟨Nat.le_refl _,h⟩
theorem XI {s:List Int} {f:Frame} {h:ab} (hb:h.U.length=s.length) (aL:0≤h.aa∧h.aa≤h.U.length):(k_ s f h).U.length=s.length∧0≤(k_ s f h).aa∧(k_ s f h).aa≤(k_ s f h).U.length:=by
 unfold k_
 simp only
 have aE:(List.zipWith (fun b x=>b || eI f x) h.U s).length=s.length:=by rw[List.length_zipWith];omega
 have bw:=(HE (s:=s) (f:=f) (U:=List.zipWith (fun b x=>b || eI f x) h.U s) s.length h.aa.toNat (by omega)).2
 split
 ·simp[rF]
 ·exact⟨aE,Int.natCast_nonneg _,by simp only;rw[aE];omega⟩
theorem aaF {p:aN} {f:Frame} {i:Nat} (hb:(nth f.M i).U.length=(nth p.M i).ag.length) (aL:0≤(nth f.M i).aa∧(nth f.M i).aa≤(nth f.M i).U.length):
  (kM p f i).U.length=(nth p.M i).ag.length∧0≤(kM p f i).aa∧(kM p f i).aa≤(kM p f i).U.length:=by
 unfold kM
 simp only
 split
 ·exact⟨hb,aL⟩
 ·have h1: ∀(c:Prop) [Decidable c] (x y:ab),x.U=y.U→x.aa=y.aa→(if c then x else y).U=y.U∧(if c then x else y).aa=y.aa:=fun c _ x y aT e2=>by
   split
   ·exact⟨aT,e2⟩
   ·exact⟨rfl,rfl⟩
  generalize c3:(if(nth f.M i).az≠4∧eI f (nth (nth p.M i).ag 0)=true then{nth f.M i with az:=4,ao:=0} else nth f.M i)=A
  have ku:A.U=(nth f.M i).U∧A.aa=(nth f.M i).aa:=by rw[←c3];exact h1 _ _ _ rfl rfl
  generalize cS:(if A.az=1∨A.az=2 then(if gk p f i=true then{A with az:=2,an:=true} else{A with az:=1}) else A)=B
  have vj:B.U=(nth f.M i).U∧B.aa=(nth f.M i).aa:=by
   rw[←cS,←ku.1,←ku.2]
   exact h1 _ _ _ (by split<;>rfl) (by split<;>rfl)
  have aT:B.U.length=(nth p.M i).ag.length:=by rw[vj.1];exact hb
  have e2:0≤B.aa∧B.aa≤B.U.length:=by rw[vj.1,vj.2];exact aL
  split
  ·exact XI aT e2
  ·exact⟨aT,e2⟩
theorem zS {p:aN} {f:Frame} (h:jC p f): ∀n,jC p (hW p n f)
 | 0=>h
 | n+1=>by
  have bx:=zS h n
  show jC p {hW p n f with M:=(hW p n f).M.set n (kM p (hW p n f) n)}
  have key:n<(hW p n f).M.length→(kM p (hW p n f) n).U.length=(nth p.M n).ag.length∧0≤(kM p (hW p n f) n).aa∧(kM p (hW p n f) n).aa≤(kM p (hW p n f) n).U.length:=fun ap=>by
   have hw:=bx.M
   have h1:(hW p n f).M[n]?=some (nth (hW p n f).M n):=by rw[h7 ap];exact List.getElem?_eq_getElem ap
   have h2:p.M[n]?=some (nth p.M n):=by rw[h7 (by omega)];exact List.getElem?_eq_getElem (by omega)
   exact aaF (bx.U n _ _ h1 h2) (bx.aa _ (List.mem_of_getElem? h1))
  refine⟨bx.aF,bx.aB,by rw[List.length_set];exact bx.M,fun i x w h1 h2=> ?_,fun x hx=> ?_⟩
  ·replace h1:((hW p n f).M.set n (kM p (hW p n f) n))[i]?=some x:=h1
   rw[List.getElem?_set] at h1
   split at h1
   ·rename_i e;subst e
    split at h1
    ·rename_i ap
     cases h1
     have hw:=bx.M
     rw[(key ap).1,h7 (by omega)]
     rw[List.getElem?_eq_getElem (by omega)] at h2
     cases h2;rfl
    ·cases h1
   ·exact bx.U i x w h1 h2
  ·rcases List.mem_or_eq_of_mem_set hx with hx | rfl
   ·exact bx.aa x hx
   ·by_cases ap:n<(hW p n f).M.length
    ·exact(key ap).2
    ·rw[List.set_eq_of_length_le (by omega)] at hx
     exact bx.aa _ hx
theorem sf (p:aN) (f:Frame): ∀n,(hW p n f).M.length=f.M.length
 | 0=>rfl
 | n+1=>by show((hW p n f).M.set n _).length=_;rw[List.length_set];exact sf p f n
theorem LL {p:aN} {f g:Frame} {i:Int} (h1:f.aF=g.aF) (h2:f.aB=g.aB):gk p f i=gk p g i:=by
 unfold gk jl eI
 rw[h1,h2]
def ib (s:List Int) (f:Frame) (b:List Bool) (v:Nat):List Bool:=List.zipWith (fun b x=>b || eI f x) (b.take v) (s.take v)++b.drop v
theorem Fx {s:List Int} {f:Frame} {b:List Bool} {v:Nat} (aE:b.length=s.length) (hv:v≤s.length):(ib s f b v).length=b.length:=by
 unfold ib
 rw[List.length_append,List.length_zipWith,List.length_take,List.length_take,List.length_drop];omega
theorem N7 (s:List Int) (f:Frame) (b:List Bool):ib s f b 0=b:=by simp[ib]
theorem N9 {s:List Int} {f:Frame} {b:List Bool} {v:Nat} (aE:b.length=s.length) (hv:s.length≤v):ib s f b v=List.zipWith (fun b x=>b || eI f x) b s:=by
 unfold ib
 rw[List.take_of_length_le (by omega),List.take_of_length_le hv,List.drop_of_length_le (by omega),List.append_nil]
theorem N8 {s:List Int} {f:Frame} {b:List Bool} {v:Nat} (aE:b.length=s.length) (hv:v<s.length):nth (ib s f b v) v=b[v]:=by
 rw[h7 (by rw[Fx aE (by omega)];omega)]
 unfold ib
 rw[List.getElem_append_right (by rw[List.length_zipWith,List.length_take,List.length_take];omega)]
 simp only[List.length_zipWith,List.length_take,List.getElem_drop]
 congr 1;omega
theorem N_ {s:List Int} {f:Frame} {b:List Bool} {v:Nat} (aE:b.length=s.length) (hv:v<s.length):(ib s f b v).set v (b[v] || eI f s[v])=ib s f b (v+1):=by
 unfold ib
 have hlen:(List.zipWith (fun b x=>b || eI f x) (b.take v) (s.take v)).length=v:=by rw[List.length_zipWith,List.length_take,List.length_take];omega
 rw[List.set_append_right _ _ (by omega),hlen,Nat.sub_self,List.take_succ_eq_append_getElem (by omega),List.take_succ_eq_append_getElem hv,List.zipWith_append (by rw[List.length_take,List.length_take];omega),List.append_assoc]
 congr 1
 rw[List.drop_eq_getElem_cons (by omega:v<b.length)]
 rfl
def k2 (s:List Int) (f:Frame) (U:List Bool) (g:Int):Bool:=
 decide (g<(s.length:Int))&&(nth U g&&((!(nth f.aF (nth s g)))&&((g==IntKind.i64.wrap ((s.length:Int) - 1)) || nth U (IntKind.i64.wrap (g+1)))))
theorem HA {s:List Int} {f:Frame} {U:List Bool} {g:Nat} (hs:s.length≤1048576) (aL:g≤s.length):
  k2 s f U g=true↔g<s.length∧U.getD g false=true∧eI f (s.getD g 0)=false∧(g+1=s.length∨U.getD (g+1) false=true):=by
 unfold k2
 rw[hn (by omega) (by omega),hn (by omega) (by omega)]
 have aT:nth U (g:Int)=U.getD g false:=rfl
 have e2:nth U ((g:Int)+1)=U.getD (g+1) false:=rfl
 have c0:nth s (g:Int)=s.getD g 0:=rfl
 rw[aT,e2,c0]
 simp only[Bool.and_eq_true,Bool.or_eq_true,decide_eq_true_eq,Bool.not_eq_true',beq_iff_eq]
 constructor
 ·rintro⟨h1,h2,aH,bn⟩;exact⟨by omega,h2,aH,bn.imp (fun h=>by omega) _root_.id⟩
 ·rintro⟨h1,h2,aH,bn⟩;exact⟨by omega,h2,aH,bn.imp (fun h=>by omega) _root_.id⟩
def s8 (s:List Int) (f:Frame) (U:List Bool) (g0 g:Int):Prop:=0≤g∧g≤s.length∧ik s f U s.length g0.toNat=ik s f U (s.length - g.toNat) g.toNat
theorem B7 {s:List Int} {f:Frame} {U:List Bool} {n g:Nat} (h: ¬(g<s.length∧U.getD g false=true∧eI f (s.getD g 0)=false∧(g+1=s.length∨U.getD (g+1) false=true))):ik s f U n g=g:=by
 cases n with
 | zero=>rfl
 | succ n=>unfold ik;rw[if_neg h]
theorem HD {s:List Int} {f:Frame} {U:List Bool}: ∀(n m g:Nat),s.length≤n+g→s.length≤m+g→ik s f U n g=ik s f U m g
 | 0,m,g,h1,h2=>by
  rw[B7 (n:=m) fun h=>by omega];rfl
 | n+1,0,g,h1,h2=>by rw[B7 (n:=n+1) fun h=>by omega];rfl
 | n+1,m+1,g,h1,h2=>by
  unfold ik
  split
  ·exact HD n m (g+1) (by omega) (by omega)
  ·rfl
theorem HB {s:List Int} {f:Frame} {U:List Bool} {g:Int} (aM:0≤g) (h1:g≤s.length):s8 s f U g g:=⟨aM,h1,HD _ _ _ (by omega) (by omega)⟩
theorem HC {s:List Int} {f:Frame} {U:List Bool} {g0 g:Int} (hs:s.length≤1048576) (h:s8 s f U g0 g) (hc:k2 s f U g=true):s8 s f U g0 (IntKind.i64.wrap (g+1))∧g<s.length:=by
 obtain⟨aM,h1,h2⟩:=h
 obtain⟨k,rfl⟩:=Int.eq_ofNat_of_zero_le aM
 have hc:=(HA hs (by omega)).1 hc
 rw[hn (by omega) (by omega)]
 refine⟨⟨by omega,by omega,?_⟩,by omega⟩
 rw[h2]
 simp only[Int.toNat_natCast]
 rw[show((k:Int)+1).toNat=k+1 by omega,show s.length - k=(s.length - (k+1))+1 by omega]
 conv=>lhs;unfold ik
 rw[if_pos hc]
theorem B6 {s:List Int} {f:Frame} {U:List Bool} {g0 g:Int} (hs:s.length≤1048576) (h:s8 s f U g0 g) (hc:k2 s f U g=false):(ik s f U s.length g0.toNat:Int)=g:=by
 obtain⟨aM,h1,h2⟩:=h
 obtain⟨k,rfl⟩:=Int.eq_ofNat_of_zero_le aM
 rw[h2]
 simp only[Int.toNat_natCast]
 rw[B7 fun bw=>by rw[(HA hs (by omega)).2 bw] at hc;cases hc]
def EC (p:aN) (f:Frame) (bs:List (List Bool)) (ids:List Nat) (v:Int) (ws:List ab):Prop:=
 cl f.M.length (fun _=>false) v∧lk ws ids bs∧(∀i j k:Nat,ids[i]?=some k→ids[j]?=some k→i=j)∧view ws ids bs=(hW p v.toNat f).M∧ ∀b∈bs,b.length≤1048576
def cV (p:aN) (f:Frame) (v:Int):Frame:=hW p v.toNat f
def cv (p:aN) (v:Int):List Int:=(nth p.M v).ag
def gy (p:aN) (f:Frame) (v:Int):ab:=
 let G:=cV p f v
 let h:=nth G.M v
 if h.az≠4∧eI G (nth (cv p v) 0)=true then{h with az:=4,ao:=0} else h
def fh (p:aN) (f:Frame) (v:Int):ab:=
 let h:=gy p f v
 if h.az=1∨h.az=2 then(if gk p (cV p f v) v=true then{h with az:=2,an:=true} else{h with az:=1}) else h
def nX (p:aN) (f:Frame) (v:Int):List Bool:=List.zipWith (fun b x=>b || eI (cV p f v) x) (fh p f v).U (cv p v)
theorem NP {p:aN} {f:Frame} {v:Int} (aM:0≤v):kM p (cV p f v) v.toNat=if(nth (cV p f v).M v).az=0 then nth (cV p f v).M v else if(fh p f v).az=4 then k_ (cv p v) (cV p f v) (fh p f v) else fh p f v:=by
 unfold kM fh gy cv
 rw[mw aM,mw aM,Int.toNat_of_nonneg aM]
theorem qn {p:aN} {f:Frame} {v:Int}:(gy p f v).U=(nth (cV p f v).M v).U∧(gy p f v).aa=(nth (cV p f v).M v).aa:=by
 unfold gy;simp only;split<;>exact⟨rfl,rfl⟩
theorem zs {p:aN} {f:Frame} {v:Int}:(fh p f v).U=(nth (cV p f v).M v).U∧(fh p f v).aa=(nth (cV p f v).M v).aa:=by
 rw[←qn.1,←qn.2]
 unfold fh;simp only;split
 ·split<;>exact⟨rfl,rfl⟩
 ·exact⟨rfl,rfl⟩
theorem se {p:aN} {f:Frame} {v:Int} {h:ab} {ws:List ab} {ids:List Nat} {bs:List (List Bool)} (ap:(f.M.length:Int)≤4611686018427387904) (a6:cl f.M.length (fun _=>false) v) (hv:decide (v<(f.M.length:Int))=true)
  (F:cN (cV p f v).M ids v h ws bs) (bw:h=kM p (cV p f v) v.toNat):EC p f bs ids (IntKind.i64.wrap (v+1)) ws∧cz f.M.length (IntKind.i64.wrap (v+1))<cz f.M.length v:=by
 have bf:=de ap a6 hv rfl
 refine⟨⟨bf.1,F.ok,F.jx,?_,F.len⟩,bf.2⟩
 have aM:=a6.1
 have hv:v<(f.M.length:Int):=by simpa using hv
 rw[oH ap aM hv,show(v+1).toNat=v.toNat+1 by omega,F.hG,bw]
 rfl
def IG (j:Int) (k:Bool) (o:List Bool) (q:List ck) (w:List ab) (i:List Nat) (b:List (List Bool)):Prop:=iG w i b∧0≤j∧j<w.length
def vU (j:Int) (k:Bool) (o:List Bool) (q:List ck) (w:List ab) (i:List Nat) (b:List (List Bool)) (ke:List Bool) (wB:List ck) (w':List ab) (hz:List Nat) (bI:List (List Bool)):Prop:=
 iG w' hz bI∧view w' hz bI=(view w i b).set j.toNat (rF (nth (view w i b) j).U.length)
def cI (k:Bool) (o:List Bool) (q:List ck) (w:List ab) (i:List Nat) (b:List (List Bool)):Frame:=⟨k,o,q,view w i b⟩
def Ly (s:Way) (j:Int) (k:Bool) (o:List Bool) (q:List ck) (w:List ab) (i:List Nat) (b:List (List Bool)):Prop:=
 iG w i b∧0≤j∧j<w.length∧s.ag.length≤1048576∧(∀x∈s.ag,0≤x∧x<o.length)∧(nth (view w i b) j).U.length=s.ag.length∧0≤(nth (view w i b) j).aa∧(nth (view w i b) j).aa≤s.ag.length
def ww (s:Way) (j:Int) (k:Bool) (o:List Bool) (q:List ck) (w:List ab) (i:List Nat) (b:List (List Bool)) (ke:List Bool) (wB:List ck) (w':List ab) (hz:List Nat) (bI:List (List Bool)):Prop:=
 iG w' hz bI∧view w' hz bI=(view w i b).set j.toNat (k_ s.ag (cI k o q w i b) (nth (view w i b) j))
def MA (p:aN) (k:Bool) (o:List Bool) (q:List ck) (w:List ab) (i:List Nat) (b:List (List Bool)):Prop:=iG w i b∧wV p (cI k o q w i b)
def zR (p:aN) (k:Bool) (o:List Bool) (q:List ck) (w:List ab) (i:List Nat) (b:List (List Bool)) (ke:List Bool) (wB:List ck) (w':List ab) (hz:List Nat) (bI:List (List Bool)):Prop:=
 iG w' hz bI∧view w' hz bI=(lf p (cI k o q w i b)).M
def Mx (f g:Frame):Prop:=f.M.length=g.M.length∧l4 f∧l4 g∧ ∀(i:Nat) (x y:ab),f.M[i]?=some x→g.M[i]?=some y→x.U.length=y.U.length
def l3 (f g:Frame):Bool:=decide (f.M=g.M)
def H5 (p:aN) (f:Frame) (i:Int):Prop:=sC p∧l4 f∧f.M.length=p.M.length∧0≤i∧i<p.M.length
def gg (p:aN) (f:Frame) (i:Int):Bool:=
 let h:=nth f.M i
 let n:=(nth p.M i).ag.length
 bN h.az 0 4&&decide (h.U.length=n)&&bN h.aa 0 ((n:Int) - 1)&&(decide (h.az=4) || (decide (h.aa=0)&&h.U.all (fun b=> !b)))&&(h.U.take h.aa.toNat).all (fun b=>b)&&
 (if h.az=3 then h.an&&bN h.ao 1 p.dq else decide (h.ao=0)&&(decide (h.az≠0) || !h.an)&&(decide (h.az≠2) || h.an))
def AP (p:aN) (f:Frame):Bool:=(List.range f.M.length).all fun i=>(List.range f.M.length).all fun k=>decide (i=k) || !pG p i k || decide ((nth f.M i).az=0) || decide ((nth f.M k).az=0)
def gJ (p:aN) (f:Frame):Bool:=
 fP p&&f.ok&&decide ((f.aF.length:Int)=p.ag)&&decide (f.aB.length=p.bu.length)&&decide (f.M.length=p.M.length)&&
 f.aB.all (fun x=>bN x.cE 1 2&&bN x.a7 0 2)&&(List.range f.M.length).all (fun i=>gg p f i)&&AP p f&&l3 f (lf p f)
def s6 (p:aN) (f:Frame):Prop:=l4 f
theorem tb {xs:List Bool} {b:Bool}:h3 xs b=true↔b∈xs:=by unfold h3;simp
theorem TD (xs:List Bool) (x:Bool):(decide (o8 xs x ≥ 0))=h3 xs x:=by
 unfold o8
 cases h:first xs (fun y=>x==y) with
 | none=>
  unfold first at h
  rw[List.findIdx?_eq_none_iff] at h
  have:h3 xs x=false:=by
   rw[←Bool.not_eq_true,tb]
   intro hm
   have:=h x hm
   simp at this
  rw[this];rfl
 | some i=>
  unfold first at h
  rw[List.findIdx?_eq_some_iff_getElem] at h
  obtain⟨hi,hx,_⟩:=h
  have:h3 xs x=true:=by
   rw[tb]
   have hx:x=xs[i]:=by simpa using hx
   rw[hx];exact List.getElem_mem hi
  rw[this]
  show decide ((i:Int) ≥ 0)=true
  simp
def sb (a b:Frame):Bool:=eqv a.aF b.aF&&eqv a.aB b.aB&&eqv a.M b.M
def sX (a b:List ab) (_:Unit):Bool:=eqv a b
def om (f:Frame) (l:b9):Bool:=((nth f.aB l.bo).cE !=l.bG) || ((nth f.aB l.bo).a7 !=l.bG)
def LK (p:aN) (f:Frame) (i:Int):Prop:= ∀l∈cg (nth p.M i),om f l=false
theorem D7 (p:aN) (f:Frame) (i:Int):gk p f i=((cg (nth p.M i)).all (fun l=> !om f l)&& !jl f (nth p.M i).ag&& !jl f (nth p.M i).bZ):=by
 have af: ∀l:b9,decide (nth f.aB l.bo=⟨l.bG,l.bG⟩)= !om f l:=fun l=>by
  unfold om
  rcases nth f.aB l.bo with⟨x,y⟩
  rw[Bool.eq_iff_iff];simp
 unfold gk
 simp only[af]
theorem Fu {α:Type} {x y:α} {v:Int} (aM:0≤v) (h1:v.toNat<[x,y].length):v=0∨v=1:=by simp at h1;omega
theorem iG.uW {w:List ab} {i:List Nat} {b:List (List Bool)} {j:Int} (F:iG w i b) (h:j.toNat<w.length):cN (view w i b) i j (nth (view w i b) j) w b:=cN.start F.ok F.jx h rfl F.len
section
variable {V:List ab} {ids cK:List Nat} {v:Int} {h x:ab} {ws l7:List ab} {bs pI:List (List Bool)}
theorem cN.G (F:cN V ids v h ws bs):iG ws ids bs:=⟨F.ok,F.jx,F.len⟩
theorem cN.wm (F:cN V ids v h ws bs):nth (view ws ids bs) v=h:=by
 rw[hT (by rw[iC F.ok];exact F.lt)]
 simp only[F.hG,List.getElem_set_self]
theorem cN.again (F:cN V ids v h ws bs) (G:iG l7 cK pI) (e:view l7 cK pI=(view ws ids bs).set v.toNat x):cN V cK v x l7 pI where
 ok:=G.ok
 jx:=G.jx
 lt:=by
  have:=congrArg List.length e
  rw[iC G.ok,List.length_set,iC F.ok] at this
  have:=F.lt;omega
 hG:=by rw[e,F.hG,List.set_set]
 len:=G.len
end
theorem XJ {s:List Int} {f g:Frame} {h:ab} (e:f.aF=g.aF):k_ s f h=k_ s g h:=by
 have aD:eI f=eI g:=by funext x;unfold eI;rw[e]
 have aL: ∀(U:List Bool) (n q:Nat),ik s f U n q=ik s g U n q:=fun U n=>by
  induction n with
  | zero=>intro q;rfl
  | succ n bx=>intro q;unfold ik;rw[aD,bx]
 unfold k_
 simp only[aD,aL]
def k9 (s:List Int) (f:Frame) (h:ab):List Bool:=List.zipWith (fun b x=>b || eI f x) h.U s
theorem Lx (s:List Int) (f:Frame) (h:ab):k_ s f h=if ik s f (k9 s f h) s.length h.aa.toNat=s.length then rF s.length else{h with U:=k9 s f h,aa:=ik s f (k9 s f h) s.length h.aa.toNat}:=rfl
def XK (s:List Int) (f:Frame) (V:List ab) (ids:List Nat) (j:Int) (ws:List ab) (bs:List (List Bool)) (k:Int):Prop:=
 cl s.length (fun _=>false) k∧cN V ids j {nth V j with U:=ib s f (nth V j).U k.toNat} ws bs
def XL (s:List Int) (f:Frame) (V:List ab) (ids:List Nat) (j:Int) (bs:List (List Bool)) (ws:List ab):Prop:=
 ∃g,s8 s f (k9 s f (nth V j)) (nth V j).aa g∧cN V ids j {nth V j with U:=k9 s f (nth V j),aa:=g} ws bs
theorem aaJ {s:List Int} {f:Frame} {U:List Bool} {g:Int} (hs:s.length≤1048576) (h:decide (g<(s.length:Int))=true):
  ((!(nth U g)) || ((nth f.aF (nth s g)) || ((decide (g<(IntKind.i64.wrap ((s.length:Int) - 1))))&&(!(nth U (IntKind.i64.wrap (g+1)))))))= !k2 s f U g:=by
 unfold k2
 rw[h,Bool.true_and,hn (n:=(s.length:Int) - 1) (by omega) (by omega)]
 have:(g==(s.length:Int) - 1)= !decide (g<(s.length:Int) - 1):=by
  have h:g<(s.length:Int):=by simpa using h
  rw[Bool.eq_iff_iff];simp;omega
 rw[this]
 cases nth U g<;>cases nth f.aF (nth s g)<;>cases decide (g<(s.length:Int) - 1)<;>cases nth U (IntKind.i64.wrap (g+1))<;>rfl
def mR:List (Nat×TV)→Bool
 | []=>true
 | (k,_)::r=>match Nat.ble 1000010 k&&Nat.blt k 1000000000000 with
  | true=>mR r
  | false=>false
theorem xH {l:List (Nat×TV)} (h:mR l=true) {k:Nat} (hk:k<1000010∨1000000000000≤k): ∀v,(k,v) ∉ l:=by
 induction l with
 | nil=>intro v hv;cases hv
 | cons p r bx=>
  obtain⟨a,w⟩:=p
  unfold mR at h
  split at h
  ·rename_i aC
   rw[Bool.and_eq_true,Nat.blt_eq] at aC
   intro v hv
   rcases List.mem_cons.1 hv with e | hv
   ·cases e;have:=Nat.le_of_ble_eq_true aC.1;have:=aC.2;omega
   ·exact bx h v hv
  ·cases h
def TS.add (s:TS) (l:List (Nat×TV)) (vs:List (Nat×Nat)) (aW:Nat):TS:=⟨l++s.T,s.B,vs,aW⟩
theorem TS.gZ (s:TS) (l:List (Nat×TV)) (vs:List (Nat×Nat)) (aW k:Nat):(s.add l vs aW).get k=fN l k (s.get k):=by
 unfold TS.get TS.add;exact rO ..
theorem uT {n:Nat} {s:TS} {l:List (Nat×TV)} {vs:List (Nat×Nat)} {aW:Nat} (ap:n≤1000000) (h:mR l=true):(s.add l vs aW).tT n=s.tT n:=by
 show(List.range n).map _=(List.range n).map _
 refine List.map_congr_left fun t bj=> ?_
 have bj:t<n:=List.mem_range.1 bj
 rw[TS.gZ,qa (xH h (.inl (by omega)))]
theorem zf {s s':TS} (e:s'.get cT=s.get cT):hC s'=hC s:=by unfold hC;rw[e]
theorem Fb [FZ] {n:Nat} {s s':TS} (hb:s'.aW=s.aW) (e: ∀b,s'.get (bD b)=s.get (bD b)) (b1:s'.get cT=s.get cT):(s'.av n).H=(s.av n).H:=by
 show s'.fj++fT s'=s.fj++fT s
 unfold TS.fj fT
 rw[zf b1,hb]
 simp only[e]
theorem uS [FZ] {n:Nat} {s:TS} {l:List (Nat×TV)} {vs:List (Nat×Nat)} (h:mR l=true):((s.add l vs s.aW).av n).H=(s.av n).H:=
 Fb rfl (fun b=>by rw[TS.gZ,qa (xH h (.inr (by unfold bD;omega)))]) (by rw[TS.gZ,qa (xH h (.inl (by unfold cT;omega)))])
theorem uU [FZ] {s:TS} {l:List (Nat×TV)} {vs:List (Nat×Nat)} {aW:Nat} (h:mR l=true) (f:Fits s):Fits (s.add l vs aW):=
 f.congr fun k _ h2=>by rw[TS.gZ,qa (xH h (.inl h2))]
def q0 (v:Nat):Nat→List TV→List (Nat×TV)
 | _,[]=>[]
 | c,a::r=>(kd v c,a)::q0 v (c+1) r
def TS.fE (s:TS) (b aW:Nat) (v:TV):TS:=s.add [(bD b,v)] s.vs aW
theorem AW (s:TS) {b aW:Nat} {v:TV} {k:Nat} (h:k<1000000000000):(s.fE b aW v).get k=s.get k:=by
 unfold TS.fE
 rw[TS.gZ,fW,if_neg (by unfold bD;omega)];rfl
theorem nZ {n:Nat} {s:TS} {b aW:Nat} {v:TV} (ap:n≤1000000):(s.fE b aW v).tT n=s.tT n:=by
 show(List.range n).map _=(List.range n).map _
 refine List.map_congr_left fun t bj=> ?_
 have bj:t<n:=List.mem_range.1 bj
 rw[AW s (by omega)]
theorem n0 [FZ] {s:TS} {b aW:Nat} {v:TV} (f:Fits s):Fits (s.fE b aW v):=f.congr fun k _ h2=>AW s (by omega)
theorem Gi {s:TS} {b aW:Nat} {v:TV}:hC (s.fE b aW v)=hC s:=zf (AW s (by unfold cT;omega))
theorem Gh (s:TS) (b aW:Nat) (v:TV) (bI:Nat):(s.fE b aW v).get (bD bI)=if b=bI then v else s.get (bD bI):=by
 unfold TS.fE
 rw[TS.gZ,fW]
 by_cases h:b=bI
 ·subst h;rw[if_pos rfl,if_pos rfl]
 ·rw[if_neg h,if_neg (by unfold bD;omega)];rfl
theorem sK [FZ] {n:Nat} {s:TS} {b:Nat} {v:TV} (h:b<s.aW):((s.fE b s.aW v).av n).H=(s.av n).H.set b v.dW:=by
 show(s.fE b s.aW v).fj++fT (s.fE b s.aW v)=(s.fj++fT s).set b v.dW
 rw[List.set_append_left _ _ (by rw[kN];exact h)]
 have e2:fT (s.fE b s.aW v)=fT s:=by unfold fT;rw[Gi]
 rw[e2]
 congr 1
 apply List.ext_getElem?
 intro i
 rw[nG,List.getElem?_set,nG,kN,Gh]
 show(if i<s.aW then _ else _)=_
 by_cases hi:b=i
 ·subst hi;simp[h]
 ·simp[hi]
theorem xK [FZ] {n:Nat} {s:TS} {v:TV} (dJ:hC s=true):((s.fE s.aW (s.aW+1) v).av n).H=(s.av n).H++[v.dW]:=by
 show(s.fE s.aW (s.aW+1) v).fj++fT (s.fE s.aW (s.aW+1) v)=(s.fj++fT s)++[v.dW]
 unfold fT
 rw[Gi,dJ]
 show(s.fE s.aW (s.aW+1) v).fj++[]=(s.fj++[])++[v.dW]
 rw[List.append_nil,List.append_nil]
 apply List.ext_getElem?
 intro i
 rw[nG,Gh]
 show(if i<s.aW+1 then _ else _)=_
 rcases Nat.lt_trichotomy i s.aW with h | h | h
 ·rw[if_pos (by omega),if_neg (by omega),List.getElem?_append_left (by rw[kN];exact h),nG,if_pos h]
 ·subst h
  rw[if_pos (by omega),if_pos rfl,List.getElem?_append_right (by rw[kN];exact Nat.le_refl _),kN];simp
 ·rw[if_neg (by omega),List.getElem?_eq_none (by rw[List.length_append,kN];simp;omega)]
def sk (P:Program) (t:TypeId) (v:AV):Bool:=(P.info? t).isSome&&Nat.beq (eb v).length (P.cellsOf t)&&(eb v).all hX
theorem z6 {P:Program} {t:TypeId} {v:AV} (h:sk P t v=true):(P.info? t).isSome=true∧(eb v).length=P.cellsOf t∧(eb v).all hX=true:=by
 simp only[sk,Bool.and_eq_true] at h
 exact⟨h.1.1,Nat.eq_of_beq_eq_true h.1.2,h.2⟩
def Fc (P:Program) (n:Nat) (t:TypeId) (b g:Nat) (i:Int) (m c:Nat) (v:TV) (s:TS) (K:TS→aG):aG:=match tK v with
 | false=> .no
 | true=>oP s b g fun e xs ej h=>u4 s e.cm ((hL true e (qi e xs i)).take c++n1 v++(hL true e (qi e xs i)).drop (c+(n1 v).length)) fun kp _=>
  let y:=e.mk kp
  let s':=s.fE b s.aW (.blk g e (xs.set i.toNat y) ej (by rw[List.length_set];exact h))
  .eq ej m (.eq (sk P t v.bi) true (.eq (Nat.ble (c+(eb v.bi).length) e.jW) true (.eq (ft (b4 true e (qi e xs i)) c (eb v.bi)) (b4 true e y) (.eq s'.bT s.bT (.p (i.toNat<m) (K s'))))))
def y_ (P:Program) (t:TypeId):Option (List AV×Nat):=match ht P t with
 | some e=>(match kT P e with
  | some z=>(match Nat.beq z.length (P.cellsOf e)&&z.all hX with
   | true=>some (z.map kl,P.bytesOf e)
   | false=>none)
  | none=>none)
 | none=>none
theorem K3 {P:Program} {t:TypeId} {Ol:List AV} {B:Nat} (h:y_ P t=some (Ol,B)): ∃e z,ht P t=some e∧kT P e=some z∧z.length=P.cellsOf e∧z.all hX=true∧Ol=z.map kl∧B=P.bytesOf e:=by
 unfold y_ at h
 split at h
 ·rename_i e he
  split at h
  ·rename_i z aJ
   split at h
   ·rename_i hc
    simp only[Bool.and_eq_true] at hc
    cases h
    exact⟨e,z,he,aJ,Nat.eq_of_beq_eq_true hc.1,hc.2,rfl,rfl⟩
   ·cases h
  ·cases h
 ·cases h
def n4 (P:Program) (t:TypeId):Nat:=match ht P t with
 | some e=>P.bytesOf e
 | none=>0
def RA (e:aX) (c:List TV):e.T:=match e.isS with
 | true=>e.mk (m1 e.cm c)
 | false=>B1 e (c.getD 0 .u)
def DO (P:Program) (n:Nat) (t:TypeId) (e:aX) (l c:TV) (s:TS) (K:TV→TS→aG):aG:=match l with
 | .i _ l=>(match c with
  | .i _ c=>
   let bC:=RA e (match ht P t with
    | some lg=>xa P lg
    | none=>[])
   let xs:=List.replicate l.toNat bC
   let s':=s.fE s.aW (s.aW+1) (.blk 0 e xs xs.length rfl)
   .eq (y_ P t) (some (b4 true e bC,n4 P t)) (.eq l c (.eq s'.bT s.bT (.eq (hC s) true (.p (0≤l∧(n4 P t:Int)*l≤140737488355328∧l≤4611686018427387904) (K (.ref s.aW 0 xs.length false) s')))))
  | _=> .no)
 | _=> .no
def xC (P:Program) (t t2:TypeId) (x:AV):Option (Nat×Nat):=match ht P t with
 | some e=>(match kT P e with
  | some z=>(match Nat.beq z.length (P.cellsOf e)&&Nat.blt 0 z.length&&qW P e t2 x with
   | true=>some (z.length,P.bytesOf e)
   | false=>none)
  | none=>none)
 | none=>none
theorem F5 {P:Program} {t t2:TypeId} {x:AV} {m B:Nat} (h:xC P t t2 x=some (m,B)): ∃e z,ht P t=some e∧kT P e=some z∧(z.length=P.cellsOf e∧0<z.length∧qW P e t2 x=true)∧m=z.length∧B=P.bytesOf e:=by
 unfold xC at h
 split at h
 ·rename_i e he
  split at h
  ·rename_i z aJ
   split at h
   ·rename_i hc
    simp only[Bool.and_eq_true] at hc
    cases h
    exact⟨e,z,he,aJ,⟨Nat.eq_of_beq_eq_true hc.1.1,by rw[←Nat.blt_eq];exact hc.1.2,hc.2⟩,rfl,rfl⟩
   ·cases h
  ·cases h
 ·cases h
def aX.flat:aX→Bool
 | .int | .u64 | .u8 | .bool | .str | .bG | .lB | .dO | .fault=>true
 | _=>false
theorem QS {e:aX} (h:e.flat=true) (x:e.T):b4 false e x=b4 true e x:=by cases e<;>first | rfl | cases h
theorem Yr (e:aX) (x:e.T):(b4 false e x).map mC=b4 true e x:=by
 rw[←ly,←ly]
 have key: ∀(es:List aX) (y:cq es),(ha false es y).map mC=ha true es y:=by
  intro es
  induction es with
  | nil=>intro y;rfl
  | cons e r bx=>
   intro y
   show mC (ig false e y.1)::(ha false r y.2).map mC=_
   rw[bx,ha]
   congr 1
   cases e<;>rfl
 exact key _ _
theorem Me {e:aX} {fr:Bool} (h:(fr || e.flat)=true) (xs:List e.T):ki fr (xs.map (b4 false e))=xs.map (b4 true e):=by
 cases fr with
 | true=>
  show(xs.map (b4 false e)).map (fun row=>row.map mC)=_
  rw[List.map_map]
  exact List.map_congr_left fun x _=>Yr e x
 | false=>exact List.map_congr_left fun x _=>QS h x
def AM (P:Program) (n:Nat) (t t2:TypeId) (v x:TV) (s:TS) (K:TV→TS→aG):aG:=match x with
 | .l e ys hN fr=>(match(fr || e.flat)&&e.my with
  | false=> .no
  | true=>(match v with
   | .nil full _=>(match full with
    | true=>
     let s':=s.fE s.aW (s.aW+1) (.blk 0 e ys ys.length rfl)
     .eq (xC P t t2 (TV.l e ys hN fr).bi) (some (e.jW,n4 P t)) (.eq s'.bT s.bT (.eq (hC s) true (.p (ys.length*n4 P t≤140737488355328∧ys.length≤4611686018427387904) (K (.ref s.aW 0 ys.length false) s'))))
    | false=> .no)
   | .ref b g m _=>oP s b g fun b1 xs ej h=>if he:e=b1 then
     let gR:=xs++jL he ys
     let s':=s.fE b s.aW (.blk (g+1) b1 gR gR.length rfl)
     .eq ej m (.eq (xC P t t2 (TV.l e ys hN fr).bi) (some (e.jW,n4 P t)) (.eq s'.bT s.bT (.p ((xs.length+ys.length)*n4 P t≤140737488355328∧xs.length+ys.length≤4611686018427387904) (K (.ref b (g+1) gR.length false) s'))))
    else .no
   | _=> .no))
 | _=> .no
section
variable {P:Program} (cf:gf P) (s:TS)
def vh (o:Oper) (v:TV) (l:List (Nat×TV)) (vs:List (Nat×Nat)) (K:TV→TS→aG):aG:=match mR l with
 | true=> .eq (fun H Q=>ih P [] o (fun x=>(b7 cf.n s x).bi) s.bT H Q) (fun H Q=>Q v.bi (s.add l vs s.aW).bT H) (K v (s.add l vs s.aW))
 | false=> .no
end
section
variable {P:Program} {cf:gf P} {s:TS} {R:Exit→TS→Prop}
variable {K:TV→TS→aG} {Kp:AV→List (Nat×List AV)→List Blk→Prop}
theorem zk {b:Bool} {x:Prop} (h:b=true) (k:x):dM b x:=by subst h;exact k
end
section
variable {P:Program} {cf:gf P} {s:TS} {R:Exit→TS→Prop}
variable {K:TV→TS→aG} {Kp:AV→List (Nat×List AV)→List Blk→Prop}
theorem Ph {t:TypeId} {m:Nat} {parts:List (Nat×AV)} {L:List (Nat×List AV)} {H:List Blk} {d:Option Nat} (h:sP P t m parts fun r=>Kp r L H):qY P (q8 [] d) (sc []) t m parts L H Kp:=by
 obtain⟨e,he,h⟩:=eu h
 obtain⟨z,aJ,h⟩:=eu h
 refine dk he (dk aJ ?_)
 split at h
 ·rename_i hc
  rw[if_pos hc]
  obtain⟨cells,hf,h⟩:=eu h
  refine dk hf ?_
  split at h
  ·rename_i hb
   have:q8 [] d=false:=by cases d<;>rfl
   rw[this]
   show if cells.all hJ=true then _ else _
   rw[if_pos hb];exact h
  ·exact h.elim
 ·exact h.elim
end
section
variable {P:Program} {cf:gf P} {s:TS} {R:Exit→TS→Prop}
variable {K:TV→TS→aG} {Kp:AV→List (Nat×List AV)→List Blk→Prop}
theorem Mc {o:Oper} {bp:Operand→AV} {L:List (Nat×List AV)} {H:List Blk} (h:h0 P o bp L H fun r=>Kp r L H) (hc: ∀c,o.op≠ .call c) (hb: ∀t m ps,o.op≠ .buildSlice t m ps):ih P [] o bp L H Kp:=by
 have h':=x9 h
 obtain⟨dst,op,ty,pos,after,guard⟩:=o
 cases op<;>first | exact h' | exact h'.elim | exact absurd rfl (hc _) | exact absurd rfl (hb _ _ _)
end
section
variable {P:Program} {cf:gf P} {s:TS} {R:Exit→TS→Prop}
variable {K:TV→TS→aG} {Kp:AV→List (Nat×List AV)→List Blk→Prop}
theorem Ei {o:Oper} {c:Call} {bp:Operand→AV} {L:List (Nat×List AV)} {H:List Blk} (aD:o.op= .call c) (h:h0 P o bp L H fun r=>Kp r L H):ih P [] o bp L H Kp:=by
 have h':=x9 h
 obtain⟨dst,op,ty,pos,after,guard⟩:=o
 cases aD
 obtain⟨callee,args,argTypes⟩:=c
 cases callee with
 | builtin b=>
  cases b with
  | len=>exact h'
  | _=>exact h'.elim
 | value f=>
  have h':jK (bp f) fun g caps=>mf P g (args.toList.map bp++caps) L H fun r=>Kp r L H:=h'
  show jK (bp f) fun g caps=>jq P g (args.toList.map bp++caps) L H Kp
  cases hf:bp f with
  | fn g caps=>rw[hf] at h';exact .inl h'
  | _=>rw[hf] at h';exact h'.elim
 | _=>exact h'.elim
end
section
variable {P:Program} {cf:gf P} {s:TS} {R:Exit→TS→Prop}
variable {K:TV→TS→aG} {Kp:AV→List (Nat×List AV)→List Blk→Prop}
theorem Yo {o:Oper} {t:TypeId} {m:Nat} {ps:Array (Nat×Operand)} {bp:Operand→AV} {L:List (Nat×List AV)} {H:List Blk} (aD:o.op= .buildSlice t m ps) (h:h0 P o bp L H fun r=>Kp r L H):ih P [] o bp L H Kp:=by
 have h':=x9 h
 obtain⟨dst,op,ty,pos,after,guard⟩:=o
 cases aD
 obtain⟨h1,h2⟩:=nr (show dM (ps.toList.all fun p=>dL (bp p.2)) (sP P t m (ps.toList.map fun p=>(p.1,bp p.2)) fun r=>Kp r L H) from h')
 show dM (ps.toList.all fun p=>dL (bp p.2)) (qY P (q8 [] dst) (sc []) t m (ps.toList.map fun p=>(p.1,bp p.2)) L H Kp)
 rw[h1];exact Ph h2
end
section
variable [Z:FZ] {P:Program} {cf:gf P} {s:TS} {R:Exit→TS→Prop}
def sG (cf:gf P) (s:TS) (R:Exit→TS→Prop) (K:TV→TS→aG) (Kp:l6 Prop):Prop:=
 ∀v s' (Z':FZ),(K v s').den R→ @Fits Z' s'→s'.tT cf.n=s.tT cf.n→Kp v.bi s'.bT (@TS.av Z' cf.n s').H
variable {K:TV→TS→aG} {Kp:AV→List (Nat×List AV)→List Blk→Prop}
theorem aaE (ap:cf.n≤1000000) {t:TypeId} {b g m c:Nat} {i:Int} {v:TV} {K:TS→aG} {Kp:List (Nat×List AV)→List Blk→Prop} (aJ:Fits s) (hK: ∀s' (Z':FZ),(K s').den R→ @Fits Z' s'→s'.tT cf.n=s.tT cf.n→Kp s'.bT (@TS.av Z' cf.n s').H) (h:(Fc P cf.n t b g i m c v s K).den R):
  dM (dL v.bi) (jX P t (.ptr b g i.toNat c) v.bi (s.av cf.n).L (s.av cf.n).H Kp):=by
 unfold Fc at h
 split at h
 ·exact h.elim
 ·rename_i hv
  obtain⟨e,xs,ej,hm,h,hb,ax⟩:=sL (n:=cf.n) h
  obtain⟨kp,o,h,_⟩:=xV aJ (n:=cf.n) h
  obtain⟨h1,h2,aH,bn,cX,eG,h⟩:=h
  refine zk (zi hv) ?_
  have aS:i.toNat<xs.length:=by omega
  have hs:=z6 h2
  unfold jX
  rw[if_pos hs]
  refine dk ax ⟨rfl,dk (DS aS true) ⟨?_,?_⟩⟩
  ·rw[q6];exact Nat.le_of_ble_eq_true aH
  ·have:=hK _ Z h (n0 aJ) (nZ ap)
   rw[sK hb,cX] at this
   rw[bn]
   have aT: ∀y:e.T,(xs.map (b4 true e)).set i.toNat (b4 true e y)=(xs.set i.toNat y).map (b4 true e):=fun y=>by rw[List.map_set]
   rw[aT];exact this
theorem Xd (ap:cf.n≤1000000) (aJ:Fits s) {t:TypeId} {e:aX} {l c:TV} (hK:sG cf s R K Kp) (h:(DO P cf.n t e l c s K).den R):tF P t l.bi c.bi (s.av cf.n).L (s.av cf.n).H Kp:=by
 unfold DO at h
 split at h
 ·split at h
  ·obtain⟨h1,h2,aH,dJ,bn,h⟩:=h
   rename_i y7 tC l mh UY c
   subst h2
   obtain⟨lg,z,q1,q2,q3,q4,cD,cu⟩:=K3 h1
   refine dk q1 (dk q2 ?_)
   rw[if_pos ⟨q3,q4⟩]
   refine⟨bn.1,Int.le_refl _,by rw[←cu];exact bn.2.1,bn.2.2,?_⟩
   have:=hK _ _ Z h (n0 aJ) (nZ ap)
   rw[xK dJ,aH] at this
   rw[z8 dJ,←cD]
   have aJ:z.length=e.jW:=by
    have:=congrArg List.length cD
    rw[List.length_map,q6] at this;exact this.symm
   rw[aJ]
   have aE: ∀bC:e.T,(List.replicate l.toNat bC).length=l.toNat:=fun bC=>List.length_replicate
   show Kp (.ref s.aW 0 0 l.toNat false) _ ((s.av cf.n).H++[⟨0,e.jW,List.replicate l.toNat (b4 true e _)⟩])
   rw[←List.map_replicate]
   have this:Kp (.ref s.aW 0 0 (List.replicate l.toNat _).length false) (s.av cf.n).L ((s.av cf.n).H++[⟨0,e.jW,(List.replicate l.toNat _).map (b4 true e)⟩]):=this
   rw[aE] at this
   exact this
  ·exact h.elim
 ·exact h.elim
theorem OZ (ap:cf.n≤1000000) (aJ:Fits s) {t t2:TypeId} {v x:TV} (hK:sG cf s R K Kp) (h:(AM P cf.n t t2 v x s K).den R):dL v.bi=true∧dL x.bi=true∧qV P t t2 v.bi x.bi (s.av cf.n).L (s.av cf.n).H Kp:=by
 unfold AM at h
 split at h
 ·rename_i e ys hN fr
  split at h
  ·exact h.elim
  ·rename_i hc
   simp only[Bool.and_eq_true] at hc
   have eg: ∀(gR:List e.T) (k:Nat),e.jW=k→qu k (gR.map (b4 true e)):=fun gR k hk row aq=>by
    obtain⟨y,_,rfl⟩:=List.mem_map.1 aq
    refine⟨by rw[q6,hk],fun a aC=>List.all_eq_true.1 (Qv (fr:=true) hc.2 y) a aC⟩
   have cS: ∀{lg},ht P t=some lg→n4 P t=P.bytesOf lg:=fun h=>by unfold n4;rw[h]
   split at h
   ·split at h
    ·rename_i full abx
     obtain⟨h1,h2,dJ,aH,h⟩:=h
     obtain⟨lg,z,q1,q2,q3,q4,cD⟩:=F5 h1
     refine⟨rfl,rfl,dk q1 (dk q2 ?_)⟩
     rw[if_pos q3]
     show _∧_
     have hx:ki fr (List.map (b4 false e) ys)=ys.map (b4 true e):=Me hc.1 ys
     rw[hx]
     refine⟨eg ys _ q4,rfl,(fun row h=>by cases h),?_,?_,(fun h=>absurd rfl h),?_⟩
     ·rw[List.length_map,←cS q1];simpa using aH.1
     ·rw[List.length_map];simpa using aH.2
     ·have:=hK _ _ Z h (n0 aJ) (nZ ap)
      rw[xK dJ,h2] at this
      rw[z8 dJ,←q4,List.length_map]
      simp only[List.length_nil,Nat.zero_add,List.nil_append]
      exact this
    ·exact h.elim
   ·rename_i b g m cW
    obtain⟨b1,xs,ej,hm,h,hb,ax⟩:=sL (n:=cf.n) h
    split at h
    ·rename_i he
     subst he
     obtain⟨h1,h2,aH,bn,q_⟩:=h
     subst h1
     obtain⟨lg,z,q1,q2,q3,q4,cD⟩:=F5 h2
     refine⟨rfl,rfl,dk q1 (dk q2 ?_)⟩
     rw[if_pos q3]
     show _∧_
     have hx:ki fr (List.map (b4 false e) ys)=ys.map (b4 true e):=Me hc.1 ys
     rw[hx]
     refine⟨eg ys _ q4,rfl,dk ax ⟨rfl,q4,by rw[List.length_map];exact hm,?_,?_,?_⟩⟩
     ·rw[List.length_map,←hm,←cS q1];exact bn.1
     ·rw[List.length_map,←hm];exact bn.2
     ·have:=hK _ _ Z q_ (n0 aJ) (nZ ap)
      rw[sK hb,aH] at this
      rw[←q4,List.length_map,←hm,←List.map_append,←List.length_append]
      exact this
    ·exact h.elim
   ·exact h.elim
 ·exact h.elim
theorem B8 (ap:cf.n≤1000000) (aJ:Fits s) {o:Oper} {v:TV} {l:List (Nat×TV)} {vs:List (Nat×Nat)} (hK:sG cf s R K Kp) (h:(vh cf s o v l vs K).den R):ih P [] o (bR (s.av cf.n).T) (s.av cf.n).L (s.av cf.n).H Kp:=by
 unfold vh at h
 split at h
 ·rename_i hb
  obtain⟨e,h⟩:=h
  rw[je,show(fun x=>(b7 cf.n s x).bi)=(fun x=>(b7 cf.n s x).bi) from rfl]
  have e:=congrFun (congrFun e (s.av cf.n).H) Kp
  have e:ih P [] o (fun x=>(b7 cf.n s x).bi) (s.av cf.n).L (s.av cf.n).H Kp=_:=e
  rw[e]
  have:=hK _ _ Z h (uU hb aJ) (uT ap hb)
  rw[uS hb] at this;exact this
 ·exact h.elim
end
def Dm:TV→Bool
 | .iE _ _ _=>true
 | _=>false
theorem Pd {Z Z':FZ} {v:TV} (h:Dm v=false): @TV.dW Z' v= @TV.dW Z v:=by cases v<;>first | rfl | cases h
def wu (s:TS) (b:Nat):Nat→Bool
 | 0=>true
 | k+1=>(Nat.beq k b || !Dm (s.get (bD k)))&&wu s b k
theorem Lo {s:TS} {b:Nat}: ∀{n:Nat},wu s b n=true→ ∀k,k<n→k≠b→Dm (s.get (bD k))=false
 | 0,_,k,h,_=>by omega
 | n+1,h,k,hk,cd=>by
  simp only[wu,Bool.and_eq_true,Bool.or_eq_true,Bool.not_eq_true'] at h
  rcases Nat.lt_or_ge k n with q | q
  ·exact Lo h.2 k q cd
  ·have:k=n:=by omega
   subst this
   rcases h.1 with e | e
   ·exact absurd (Nat.eq_of_beq_eq_true e) cd
   ·exact e
theorem aa7 {Z Z':FZ} {n:Nat} {s s':TS} {b g m:Nat} {ids:List Nat} {V FU:List ab} {TB:List Nat} {bE Lj:Nat} {hv:V.length=bE} {o6:FU.length=Lj} (hb:b<s.aW) (tk:s'.aW=s.aW) (he: ∀k,k≠b→s'.get (bD k)=s.get (bD k)) (aL:s'.get (bD b)= .iE g m ids) (hw:wu s b s.aW=true)
  (h1:s.get cT= .fH V TB bE hv) (h2:s'.get cT= .fH FU ids Lj o6):(@TS.av Z' n s').H=(@TS.fj Z s).set b ⟨g,5,bh m Z'.ws ids⟩++List.map bB Z'.bs:=by
 rw[oS h2]
 congr 1
 apply List.ext_getElem?
 intro i
 rw[@nG Z' s' i,List.getElem?_set,@nG Z s i,@kN Z s,tk]
 by_cases hi:b=i
 ·subst hi;rw[if_pos hb,if_pos rfl,if_pos hb,aL];rfl
 ·rw[if_neg hi,he i (fun e=>hi e.symm)]
  by_cases h:i<s.aW
  ·rw[if_pos h,if_pos h,Pd (Z:=Z) (Lo hw i h (fun e=>hi e.symm))]
  ·rw[if_neg h,if_neg h]
theorem wZ {n:Nat} {s:TS} {l:List (Nat×TV)} (ap:n≤1000000) (h: ∀p∈l,1000000≤p.1):(s.add l s.vs s.aW).tT n=s.tT n:=by
 show(List.range n).map _=(List.range n).map _
 refine List.map_congr_left fun t bj=> ?_
 have bj:t<n:=List.mem_range.1 bj
 rw[TS.gZ,qa fun v hv=>by have:=h _ hv;simp only at this;omega]
def EB (c:Nat) (v:TV) (h:ab) (K:ab→aG):aG:=match v with
 | .i k x=>if k= .i64 then(match c with
  | 0=>K {h with az:=x}
  | 1=>K {h with aa:=x}
  | 4=>K {h with ao:=x}
  | _=> .no) else .no
 | .b x=>(match c with
  | 3=>K {h with an:=x.den}
  | _=> .no)
 | _=> .no
theorem Mz {c:Nat} {v:TV} {w:ab} {b:List Bool} {K:ab→aG} {R:Exit→TS→Prop} (h:(EB c v {w with U:=b} K).den R):
  ∃x:ab,x.U=w.U∧(K {x with U:=b}).den R∧(∀m id,ft (jP m w id) c (eb v.bi)=jP m x id)∧c+(eb v.bi).length≤5:=by
 unfold EB at h
 split at h
 ·rename_i k x
  split at h
  ·rename_i hk
   subst hk
   split at h
   ·exact⟨{w with az:=x},rfl,h,fun m id=>rfl,(show(0+1:Nat)≤5 by decide)⟩
   ·exact⟨{w with aa:=x},rfl,h,fun m id=>rfl,(show(1+1:Nat)≤5 by decide)⟩
   ·exact⟨{w with ao:=x},rfl,h,fun m id=>rfl,(show(4+1:Nat)≤5 by decide)⟩
   ·exact h.elim
  ·exact h.elim
 ·rename_i x
  split at h
  ·exact⟨{w with an:=x.den},rfl,h,fun m id=>rfl,(show(3+1:Nat)≤5 by decide)⟩
  ·exact h.elim
 ·exact h.elim
theorem iG.Wt {ws:List ab} {ids:List Nat} {bs:List (List Bool)} (G:iG ws ids bs) {i id:Nat} {x:ab} (hi:i<ws.length) (h1:id<bs.length) (h2:bs.getD id []=x.U) (aH: ∀j:Nat,ids[j]?≠some id):
  iG (ws.set i x) (ids.set i id) bs∧view (ws.set i x) (ids.set i id) bs=(view ws ids bs).set i x:=by
 have aE:=G.ok.len
 refine⟨⟨⟨by rw[List.length_set,List.length_set];exact aE,fun j k hk=> ?_,fun j k h aC hk=> ?_⟩,fun a b k aC hb=> ?_,G.len⟩,?_⟩
 ·rw[List.getElem?_set] at hk
  split at hk
  ·split at hk
   ·cases hk;exact h1
   ·cases hk
  ·exact G.ok.lt j k hk
 ·rw[List.getElem?_set] at aC hk
  split at aC
  ·rename_i e;subst e
   rw[if_pos rfl,if_pos (by omega)] at hk
   cases aC;cases hk;rw[h2]
  ·rename_i e
   rw[if_neg e] at hk
   exact G.ok.U j k h aC hk
 ·rw[List.getElem?_set] at aC hb
  split at aC
  ·split at aC
   ·cases aC
    split at hb
    ·rename_i aT _ e2;omega
    ·exact absurd hb (aH b)
   ·cases aC
  ·split at hb
   ·split at hb
    ·cases hb;exact absurd aC (aH a)
    ·cases hb
   ·exact G.jx a b k aC hb
 ·apply List.ext_getElem?
  intro j
  unfold view
  rw[List.getElem?_zipWith,List.getElem?_set,List.getElem?_set,List.getElem?_set,List.getElem?_zipWith,List.length_zipWith]
  by_cases e:i=j
  ·subst e
   rw[if_pos rfl,if_pos rfl,if_pos rfl,if_pos hi,if_pos (by omega),if_pos (by omega)]
   show some ({x with U:=bs.getD id []}:ab)=some x
   rw[h2]
  ·rw[if_neg e,if_neg e,if_neg e]
theorem iG.snoc {ws:List ab} {ids:List Nat} {bs:List (List Bool)} (G:iG ws ids bs) {xs:List Bool} (hx:xs.length≤1048576):iG ws ids (bs++[xs])∧view ws ids (bs++[xs])=view ws ids bs:=by
 have aL: ∀id,id<bs.length→(bs++[xs]).getD id []=bs.getD id []:=fun id h=>by
  rw[List.getD_eq_getElem?_getD,List.getD_eq_getElem?_getD,List.getElem?_append_left h]
 refine⟨⟨⟨G.ok.len,fun i id h=>by have:=G.ok.lt i id h;rw[List.length_append];omega,fun i id h h1 h2=>by rw[aL id (G.ok.lt i id h2)];exact G.ok.U i id h h1 h2⟩,G.jx,fun b hb=> ?_⟩,?_⟩
 ·rcases List.mem_append.1 hb with hb | hb
  ·exact G.len b hb
  ·rw[List.mem_singleton.1 hb];exact hx
 ·apply List.ext_getElem?
  intro j
  unfold view
  rw[List.getElem?_zipWith,List.getElem?_zipWith]
  cases h1:ws[j]? with
  | none=>rfl
  | some w=>
   cases h2:ids[j]? with
   | none=>rfl
   | some id=>simp only[aL id (G.ok.lt j id h2)]
def Fh (P:Program) (t:TypeId) (b g:Nat) (i:Int) (c:Nat) (v:TV) (s:TS) (cL gj:Nat) (ids:List Nat) (K:TS→aG):aG:=match s.get cT with
 | .fH V cK bE hv=> .eq cL g (.eq cK ids (.eq (Nat.blt b s.aW&&wu s b s.aW&&sk P t v.bi) true (match v with
  | .agg l=>(match l with
   | [.i c7 av,.i gv go,.wl id m k,.b f_,.i k7 mF]=>(match s.get eX with
    | .new fc xs=>
     let s':=s.add [(cT,.fH (V.set i.toNat (ab.mk av go xs f_.den mF)) (ids.set i.toNat id) bE ((List.length_set ..).trans hv)),(bD b,.iE g gj (ids.set i.toNat id)),(eX,.u)] s.vs s.aW
     .eq c 0 (.eq (c7,gv,k7) (IntKind.i64,IntKind.i64,IntKind.i64) (.eq fc id (.eq m gj (.eq k xs.length (.eq s'.bT s.bT (.p (i.toNat<V.length) (K s')))))))
    | _=> .no)
   | _=> .no)
  | v=>EB c v (nth V i) fun y=>
   let s':=s.add [(cT,.fH (V.set i.toNat y) ids bE ((List.length_set ..).trans hv))] s.vs s.aW
   .eq s'.bT s.bT (.p (i.toNat<V.length) (K s')))))
 | _=> .no
section
variable [Z:FZ] {P:Program} {cf:gf P} {s:TS} {R:Exit→TS→Prop}
theorem aaM (ap:cf.n≤1000000) {t:TypeId} {b g c cL gj:Nat} {ids:List Nat} {i:Int} {v:TV} {K:TS→aG} {Kp:List (Nat×List AV)→List Blk→Prop} (aJ:Fits s) (aL:s.get (bD b)= .iE cL gj ids)
  (hK: ∀s' (Z':FZ),(K s').den R→ @Fits Z' s'→s'.tT cf.n=s.tT cf.n→Kp s'.bT (@TS.av Z' cf.n s').H) (h:(Fh P t b g i c v s cL gj ids K).den R):
  jX P t (.ptr b g i.toNat c) v.bi (s.av cf.n).L (s.av cf.n).H Kp:=by
 unfold Fh at h
 split at h
 ·rename_i V cK bE iO hk
  obtain⟨h1,h2,aH,h⟩:=h
  subst h1;subst h2
  simp only[Bool.and_eq_true] at aH
  obtain⟨⟨hb,hw⟩,bf⟩:=aH
  have hb:b<s.aW:=by rw[←Nat.blt_eq];exact hb
  obtain⟨G,e,jO⟩:=aJ V cK _ _ hk
  have hs:=z6 bf
  have nc:=iC G.ok
  rw[e] at nc
  have ax:(s.av cf.n).H[b]?=some ⟨cL,5,bh gj Z.ws cK⟩:=by rw[pv hb,aL];rfl
  have R7:(s.av cf.n).H=s.fj++List.map bB Z.bs:=oS hk
  unfold jX
  rw[if_pos hs]
  have fin: ∀{s':TS} {ws2:List ab} {ids2:List Nat} {V2:List ab} {n2:Nat} {hv2:V2.length=n2} {cells row':List AV},i.toNat<V.length→c+cells.length≤5→ft (jP gj (nth Z.ws i) (nth cK i)) c cells=row'→(bh gj Z.ws cK).set i.toNat row'=bh gj ws2 ids2→s'.aW=s.aW→(∀k,k≠b→s'.get (bD k)=s.get (bD k))→s'.get (bD b)= .iE cL gj ids2→s'.get cT= .fH V2 ids2 n2 hv2→
    s'.bT=s.bT→(K s').den R→ @Fits ⟨ws2,Z.bs⟩ s'→s'.tT cf.n=s.tT cf.n→(cn (s.av cf.n).H[b]? fun blk=>blk.bc=cL∧cn blk.rows[i.toNat]? fun row=>c+cells.length≤row.length∧Kp (s.av cf.n).L ((s.av cf.n).H.set b {blk with rows:=blk.rows.set i.toNat (ft row c cells)})):=by
   intro s' ws2 ids2 V2 n2 hv2 cells row' hi hc tr p5 tk yD j9 vE bH R9 hf bS
   refine dk ax ⟨rfl,dk (ei G.ok.len (by omega)) ⟨hc,?_⟩⟩
   have:=hK s' ⟨ws2,Z.bs⟩ R9 hf bS
   rw[bH,aa7 (Z:=Z) (Z':=⟨ws2,Z.bs⟩) hb tk yD j9 hw hk vE] at this
   rw[R7,List.set_append_left _ _ (by rw[kN];exact hb),tr]
   show Kp s.bT (s.fj.set b ⟨cL,5,(bh gj Z.ws cK).set i.toNat row'⟩++_)
   rw[p5];exact this
  split at h
  ·split at h
   ·rename_i c7 av gv go id m k f_ k7 mF
    split at h
    ·rename_i fc xs tl
     obtain⟨h1,h2,bn,cX,eG,kt,oW,h⟩:=h
     subst h1;subst bn;subst cX;subst eG
     cases h2
     obtain⟨e5,n2,jV⟩:=jO _ _ tl
     obtain⟨uF,b1⟩:=G.Wt (i:=i.toNat) (id:=fc) (x:=ab.mk av go xs f_.den mF) (by omega) e5 n2 jV
     refine fin (s':=s.add [(cT,.fH (V.set i.toNat (ab.mk av go xs f_.den mF)) (cK.set i.toNat fc) bE ((List.length_set ..).trans iO)),(bD b,.iE cL m (cK.set i.toNat fc)),(eX,.u)] s.vs s.aW) (ws2:=Z.ws.set i.toNat (ab.mk av go xs f_.den mF)) (V2:=V.set i.toNat (ab.mk av go xs f_.den mF)) (n2:=bE) (hv2:=(List.length_set ..).trans iO) (ids2:=cK.set i.toNat fc) (row':=jP m (ab.mk av go xs f_.den mF) fc) oW (Nat.le_refl 5) ?_ (yr G.ok.len) rfl (fun k hk=> ?_) ?_ ?_ kt h ?_ (wZ ap ?_)
     ·rfl
     ·rw[TS.gZ,fW,if_neg (by unfold cT bD;omega),fW,if_neg (by unfold bD;omega),fW,if_neg (by unfold eX bD;omega)];rfl
     ·rw[TS.gZ,fW,if_neg (by unfold cT bD;omega),fW,if_pos rfl]
     ·rw[TS.gZ,fW,if_pos rfl]
     ·intro V3 yV jV tj aH
      rw[TS.gZ,fW,if_pos rfl] at aH
      cases aH
      refine⟨uF,by rw[←e];exact b1,fun id xs hx=> ?_⟩
      rw[TS.gZ,fW,if_neg (by unfold cT eX;omega),fW,if_neg (by unfold bD eX;omega),fW,if_pos rfl] at hx
      cases hx
     ·intro p ai
      simp only[List.mem_cons,List.not_mem_nil,or_false] at ai
      rcases ai with rfl | rfl | rfl
      ·exact Nat.le_refl _
      ·show 1000000≤bD b;unfold bD;omega
      ·show 1000000≤eX;unfold eX;omega
    ·exact h.elim
   ·exact h.elim
  ·have abH:i.toNat<V.length∨ ¬i.toNat<V.length:=by omega
   by_cases hi:i.toNat<V.length
   ·have hv:=Ah G.ok (i:=i) (by rw[e];exact hi)
    rw[e] at hv
    rw[hv] at h
    obtain⟨x,st,h,uC,Oi⟩:=Mz h
    obtain⟨kt,oW,h⟩:=h
    have F:=(G.uW (j:=i) (by omega)).uk x (by rw[st];have:=(G.uW (j:=i) (by omega)).nY;exact this)
    have jQ:(nth (view Z.ws cK Z.bs) i).U=Z.bs.getD (nth cK i) []:=by rw[e,hv]
    rw[jQ,e] at F
    refine fin (s':=s.add [(cT,.fH (V.set i.toNat {x with U:=Z.bs.getD (nth cK i) []}) cK bE ((List.length_set ..).trans iO))] s.vs s.aW) (ws2:=Z.ws.set i.toNat x) (ids2:=cK) (V2:=V.set i.toNat {x with U:=Z.bs.getD (nth cK i) []}) (n2:=bE) (hv2:=(List.length_set ..).trans iO) oW Oi (uC gj (nth cK i)) (lI G.ok.len (by omega)) rfl (fun k hk=> ?_) ?_ ?_ kt h ?_ (wZ ap ?_)
    ·rw[TS.gZ,fW,if_neg (by unfold cT bD;omega)];rfl
    ·rw[TS.gZ,fW,if_neg (by unfold cT bD;omega)];exact aL
    ·rw[TS.gZ,fW,if_pos rfl]
    ·intro V3 yV jV tj aH
     rw[TS.gZ,fW,if_pos rfl] at aH
     cases aH
     refine⟨F.G,F.hG,fun id xs hx=> ?_⟩
     rw[TS.gZ,fW,if_neg (by unfold cT eX;omega)] at hx
     exact jO id xs hx
    ·intro p ai
     rw[List.mem_singleton.1 ai];exact Nat.le_refl _
   ·obtain⟨x,st,h,_⟩:=Mz (w:=nth V i) (b:=(nth V i).U) h
    exact absurd h.2.1 hi
 ·exact h.elim
def w1 (P:Program) (t:TypeId) (w:Int) (ids:List Nat) (m:Nat) (j:Int) (v:TV) (s:TS) (K:TS→aG):aG:=match s.get cT with
 | .fH V cK bE hv=> .eq cK ids (.eq m s.aW (.eq (sk P t v.bi) true (match v with
  | .b x=>
   let s':=s.add [(cT,.fH (V.set w.toNat {nth V w with U:=(nth V w).U.set j.toNat x.den}) ids bE ((List.length_set ..).trans hv))] s.vs s.aW
   .eq s'.bT s.bT (.p (w.toNat<V.length∧j.toNat<(nth V w).U.length) (K s'))
  | _=> .no)))
 | _=> .no
theorem aaI (ap:cf.n≤1000000) {t:TypeId} {m:Nat} {ids:List Nat} {w j:Int} {v:TV} {K:TS→aG} {Kp:List (Nat×List AV)→List Blk→Prop} (aJ:Fits s)
  (hK: ∀s' (Z':FZ),(K s').den R→ @Fits Z' s'→s'.tT cf.n=s.tT cf.n→Kp s'.bT (@TS.av Z' cf.n s').H) (h:(w1 P t w ids m j v s K).den R):
  jX P t (.ptr (nth ids w+m) 0 j.toNat 0) v.bi (s.av cf.n).L (s.av cf.n).H Kp:=by
 unfold w1 at h
 split at h
 ·rename_i V cK bE iO hk
  obtain⟨h1,h2,aH,h⟩:=h
  subst h1;subst h2
  have hs:=z6 aH
  unfold jX
  rw[if_pos hs]
  split at h
  ·rename_i x
   obtain⟨bn,cX,h⟩:=h
   obtain⟨G,e,jO⟩:=aJ V cK _ _ hk
   have nc:=iC G.ok
   rw[e] at nc
   have hv:=Ah G.ok (i:=w) (by rw[e];exact cX.1)
   rw[e] at hv
   have cC:=G.uW (j:=w) (by omega)
   have F:=cC.EA ((nth V w).U.set j.toNat x.den) (by rw[List.length_set,e])
   rw[e] at F
   have hid:=G.ok.lt w.toNat _ (fY (xs:=cK) (i:=w) (by have:=G.ok.len;omega))
   refine dk (BO aJ hk cX.1) ⟨rfl,dk (u2 cX.2) ⟨Nat.le_refl 1,?_⟩⟩
   have bS:=wZ (n:=cf.n) (s:=s) (l:=[(cT,TV.fH (V.set w.toNat {nth V w with U:=(nth V w).U.set j.toNat x.den}) cK bE ((List.length_set ..).trans iO))]) ap (fun p ai=>by rw[List.mem_singleton.1 ai];exact Nat.le_refl _)
   have pX: @Fits ⟨Z.ws,Z.bs.set (nth cK w) ((nth V w).U.set j.toNat x.den)⟩ (s.add [(cT,TV.fH (V.set w.toNat {nth V w with U:=(nth V w).U.set j.toNat x.den}) cK bE ((List.length_set ..).trans iO))] s.vs s.aW):=by
    intro V3 yV jV tj aH
    rw[TS.gZ,fW,if_pos rfl] at aH
    cases aH
    refine⟨F.G,F.hG,fun id xs hx=> ?_⟩
    rw[TS.gZ,fW,if_neg (by unfold cT eX;omega)] at hx
    obtain⟨e5,n2,jV⟩:=jO id xs hx
    refine⟨by show id<(Z.bs.set (nth cK w) ((nth V w).U.set j.toNat x.den)).length;rw[List.length_set];exact e5,?_,jV⟩
    show(Z.bs.set (nth cK w) ((nth V w).U.set j.toNat x.den)).getD id []=xs
    have cd:nth cK w≠id:=fun q=>jV w.toNat (by rw[fY (xs:=cK) (i:=w) (by have:=G.ok.len;omega),q])
    rw[List.getD_eq_getElem?_getD,List.getElem?_set,if_neg cd,←List.getD_eq_getElem?_getD];exact n2
   have:=hK _ ⟨Z.ws,Z.bs.set (nth cK w) ((nth V w).U.set j.toNat x.den)⟩ h pX bS
   rw[bn] at this
   have yp:(s.av cf.n).H=s.fj++List.map bB Z.bs:=oS hk
   have ez: ∀Z':FZ,Z'.ws=Z.ws→ @TS.fj Z' (s.add [(cT,TV.fH (V.set w.toNat {nth V w with U:=(nth V w).U.set j.toNat x.den}) cK bE ((List.length_set ..).trans iO))] s.vs s.aW)= @TS.fj Z s:=fun Z' hw=>by
    show(List.range s.aW).map _=(List.range s.aW).map _
    refine List.map_congr_left fun b _=> ?_
    rw[TS.gZ,fW,if_neg (by unfold cT bD;omega)]
    show @TV.dW Z' (s.get (bD b))= @TV.dW Z (s.get (bD b))
    cases s.get (bD b)<;>first | rfl | (simp only[TV.dW,hw])
   have Ca:= @oS ⟨Z.ws,Z.bs.set (nth cK w) ((nth V w).U.set j.toNat x.den)⟩ cf.n (s.add [(cT,TV.fH (V.set w.toNat {nth V w with U:=(nth V w).U.set j.toNat x.den}) cK bE ((List.length_set ..).trans iO))] s.vs s.aW) (V.set w.toNat {nth V w with U:=(nth V w).U.set j.toNat x.den}) cK bE ((List.length_set ..).trans iO) (by rw[TS.gZ,fW,if_pos rfl])
   rw[Ca,ez ⟨Z.ws,Z.bs.set (nth cK w) ((nth V w).U.set j.toNat x.den)⟩ rfl] at this
   rw[yp,List.set_append_right _ _ (by rw[kN];omega),kN,Nat.add_sub_cancel]
   have hM:({bB (nth V w).U with rows:=(bB (nth V w).U).rows.set j.toNat (ft (aU (nth (nth V w).U j)) 0 (eb (TV.b x).bi))}:Blk)=bB ((nth V w).U.set j.toNat x.den):=by
    show(⟨0,1,(List.map aU (nth V w).U).set j.toNat (aU x.den)⟩:Blk)=⟨0,1,_⟩
    rw[AX]
   show Kp s.bT (s.fj++(List.map bB Z.bs).set (nth cK w) {bB (nth V w).U with rows:=(bB (nth V w).U).rows.set j.toNat (ft (aU (nth (nth V w).U j)) 0 (eb (TV.b x).bi))})
   rw[hM,BP]
   exact this
  ·exact h.elim
 ·exact h.elim
def DM (P:Program) (t:TypeId) (l c:TV) (s:TS) (K:TV→TS→aG):aG:=match l with
 | .i _ l=>(match c with
  | .i _ c=>(match s.get cT with
   | .fH V ids _ _=> .all Nat fun id=>
    let s':=s.add [(eX,.new id (List.replicate l.toNat false))] s.vs s.aW
    .eq (y_ P t) (some ([AV.bool false],n4 P t)) (.eq l c (.eq s'.bT s.bT (.p (0≤l∧(n4 P t:Int)*l≤140737488355328∧l≤1048576) (K (.wl id s.aW (List.replicate l.toNat false).length) s'))))
   | _=> .no)
  | _=> .no)
 | _=> .no
theorem W6 (ap:cf.n≤1000000) (aJ:Fits s) {t:TypeId} {l c:TV} {K:TV→TS→aG} {Kp:AV→List (Nat×List AV)→List Blk→Prop} (hK:sG cf s R K Kp) (h:(DM P t l c s K).den R):tF P t l.bi c.bi (s.av cf.n).L (s.av cf.n).H Kp:=by
 unfold DM at h
 split at h
 ·split at h
  ·split at h
   ·rename_i y7 tC l mh UY c acg V ids bE iO hk
    obtain⟨h1,h2,aH,bn,bw⟩:=h Z.bs.length
    subst h2
    obtain⟨lg,z,q1,q2,q3,q4,cD,cu⟩:=K3 h1
    refine dk q1 (dk q2 ?_)
    rw[if_pos ⟨q3,q4⟩]
    refine⟨bn.1,Int.le_refl _,by rw[←cu];exact bn.2.1,by have:=bn.2.2;omega,?_⟩
    obtain⟨G,e,jO⟩:=aJ V ids _ _ hk
    have ng:(List.replicate l.toNat false).length≤1048576:=by rw[List.length_replicate];have:=bn.2.2;omega
    obtain⟨uF,b1⟩:=G.snoc ng
    have bS:=wZ (n:=cf.n) (s:=s) (l:=[(eX,TV.new Z.bs.length (List.replicate l.toNat false))]) ap (fun p ai=>by rw[List.mem_singleton.1 ai];show 1000000≤eX;unfold eX;omega)
    have Ie:(s.add [(eX,TV.new Z.bs.length (List.replicate l.toNat false))] s.vs s.aW).get cT= .fH V ids bE iO:=by rw[TS.gZ,fW,if_neg (by unfold cT eX;omega)];exact hk
    have pX: @Fits ⟨Z.ws,Z.bs++[List.replicate l.toNat false]⟩ (s.add [(eX,TV.new Z.bs.length (List.replicate l.toNat false))] s.vs s.aW):=by
     intro V3 yV jV tj aH
     rw[Ie] at aH
     cases aH
     refine⟨uF,b1.trans e,fun id xs hx=> ?_⟩
     rw[TS.gZ,fW,if_pos rfl] at hx
     cases hx
     refine⟨by show Z.bs.length<(Z.bs++[List.replicate l.toNat false]).length;rw[List.length_append];simp,by show(Z.bs++[List.replicate l.toNat false]).getD Z.bs.length []=_;rw[List.getD_eq_getElem?_getD,List.getElem?_append_right (Nat.le_refl _)];simp,fun j ar=> ?_⟩
     have:=G.ok.lt j _ ar;omega
    have:=hK _ _ ⟨Z.ws,Z.bs++[List.replicate l.toNat false]⟩ bw pX bS
    rw[aH] at this
    have yp:(s.av cf.n).H=s.fj++List.map bB Z.bs:=oS hk
    have Ca:= @oS ⟨Z.ws,Z.bs++[List.replicate l.toNat false]⟩ cf.n _ V ids bE iO Ie
    have ez: @TS.fj ⟨Z.ws,Z.bs++[List.replicate l.toNat false]⟩ (s.add [(eX,TV.new Z.bs.length (List.replicate l.toNat false))] s.vs s.aW)= @TS.fj Z s:=by
     show(List.range s.aW).map _=(List.range s.aW).map _
     refine List.map_congr_left fun b _=> ?_
     rw[TS.gZ,fW,if_neg (by unfold eX bD;omega)]
     show @TV.dW _ (s.get (bD b))= @TV.dW Z (s.get (bD b))
     cases s.get (bD b)<;>rfl
    rw[Ca,ez] at this
    have hlen:(s.av cf.n).H.length=Z.bs.length+s.aW:=by rw[yp,List.length_append,kN,List.length_map];omega
    have rD:z.length=1:=by have:=congrArg List.length cD;simpa using this.symm
    rw[hlen,rD,←cD,yp]
    show Kp (.ref (Z.bs.length+s.aW) 0 0 l.toNat false) s.bT (s.fj++List.map bB Z.bs++[⟨0,1,List.replicate l.toNat [AV.bool false]⟩])
    rw[show List.replicate l.toNat [AV.bool false]=List.map aU (List.replicate l.toNat false) by rw[List.map_replicate];rfl,List.append_assoc,va]
    have Qo:(List.replicate l.toNat false).length=l.toNat:=List.length_replicate
    rw[Qo] at this
    exact this
   ·exact h.elim
  ·exact h.elim
 ·exact h.elim
def NR (P:Program) (t:TypeId) (b g:Nat) (i:Int) (c:Nat) (v:TV) (s:TS) (cL:Nat) (aw:List TV) (K:TS→aG):aG:=
 let bM:=aw.take c++n1 v++aw.drop (c+(n1 v).length)
 let s':=s.fE b s.aW (.ev g bM)
 .eq cL g (.eq i 0 (.eq (Nat.blt b s.aW&&tK v&&sk P t v.bi&&Nat.ble (c+(eb v.bi).length) aw.length) true (.eq (ft (cc aw) c (eb v.bi)) (cc bM) (.eq bM.length aw.length (.eq s'.bT s.bT (K s'))))))
theorem aaL (ap:cf.n≤1000000) {t:TypeId} {b g c cL:Nat} {aw:List TV} {i:Int} {v:TV} {K:TS→aG} {Kp:List (Nat×List AV)→List Blk→Prop} (aJ:Fits s) (aL:s.get (bD b)= .ev cL aw)
  (hK: ∀s' (Z':FZ),(K s').den R→ @Fits Z' s'→s'.tT cf.n=s.tT cf.n→Kp s'.bT (@TS.av Z' cf.n s').H) (h:(NR P t b g i c v s cL aw K).den R):
  jX P t (.ptr b g i.toNat c) v.bi (s.av cf.n).L (s.av cf.n).H Kp:=by
 obtain⟨h1,h2,aH,bn,cX,eG,h⟩:=h
 subst h1;subst h2
 simp only[Bool.and_eq_true] at aH
 obtain⟨⟨⟨hb,_⟩,bf⟩,hle⟩:=aH
 have hb:b<s.aW:=by rw[←Nat.blt_eq];exact hb
 have hs:=z6 bf
 unfold jX
 rw[if_pos hs]
 refine dk (by rw[pv hb,aL]) ⟨rfl,dk (a:=cc aw) rfl ⟨by rw[lr,List.length_map];exact Nat.le_of_ble_eq_true hle,?_⟩⟩
 have:=hK _ Z h (n0 aJ) (nZ ap)
 rw[sK hb,eG] at this
 show Kp s.bT ((s.av cf.n).H.set b ⟨cL,aw.length,[ft (cc aw) c (eb v.bi)]⟩)
 rw[bn,←cX]
 exact this
end
inductive lm where
 | v (e:aX)
 | fr
 | w
def lm.es:List lm→List aX
 | []=>[]
 | .v e::r=>e::lm.es r
 | .fr::r=>lm.es r
 | .w::r=> .int::lm.es r
def u9 (aL:Nat):(l:List lm)→cq (lm.es l)→List AV
 | [],_=>[]
 | .v e::r,x=>lz e x.1::u9 aL r x.2
 | .fr::r,x=> .ptr 0 aL 0 0::u9 aL r x
 | .w::r,x=> .ptr 3 0 (show Int from x.1).toNat 0::u9 aL r x.2
def zM (F:Frame):List TV:=[.b (.v F.ok),.ref 1 0 F.aF.length false,.ref 2 0 F.aB.length false,.ref 3 0 F.M.length false]
def BW [Z:FZ] (aL:Nat) (ids:List Nat) (F:Frame):List Blk:=
 [⟨aL,4,[cc (zM F)]⟩,⟨0,1,F.aF.map (b4 true .bool)⟩,⟨0,2,F.aB.map (b4 true .dO)⟩,⟨0,5,bh 4 Z.ws ids⟩]++Z.bs.map bB
def Ar [Z:FZ] (ids:List Nat) (F:Frame):Prop:=iG Z.ws ids Z.bs∧view Z.ws ids Z.bs=F.M
def OC (P:Program) (f:FuncId) (aL:Nat) (args:List AV) (F:Frame) (FH:Frame) (v:AV):Prop:=
 ∀(Z:FZ) (ids:List Nat),@Ar Z ids F→dc P f args (@BW Z aL ids F) fun r H'=>r=v∧ ∃(Z':FZ) (cK:List Nat),@Ar Z' cK FH∧H'= @BW Z' aL cK FH
def tE (aL:Nat) (ids:List Nat) (F:Frame):List (Nat×TV):=
 [(bD 0,.ev aL (zM F)),(bD 1,.blk 0 .bool F.aF F.aF.length rfl),(bD 2,.blk 0 .dO F.aB F.aB.length rfl),(bD 3,.iE 0 4 ids),(cT,.fH F.M ids F.M.length rfl)]
def BV (s:TS) (K:Nat→Frame→List Nat→aG):aG:=match s.get (bD 0) with
 | .ev g aw=>(match aw with
  | [.b k,.ref dV g1 e5 f1,.ref bV g2 n2 f2,.ref oO g3 jV f3]=>(match s.get (bD 1) with
   | .blk h1 aT o a1 _=>if q1:aT=aX.bool then(match s.get (bD 2) with
    | .blk h2 e2 q bA _=>if q2:e2=aX.dO then(match s.get (bD 3) with
     | .iE aH gj ids=>(match s.get cT with
      | .fH V cK bE _=> .eq s.aW 4 (.eq (dV,g1,e5,f1) (1,0,a1,false) (.eq (bV,g2,n2,f2) (2,0,bA,false) (.eq (oO,g3,jV,f3) (3,0,bE,false) (.eq (h1,h2,aH,gj) (0,0,0,4)
       (.eq cK ids (K g ⟨k.den,jL q1 o,jL q2 q,V⟩ ids))))))
      | _=> .no)
     | _=> .no) else .no
    | _=> .no) else .no
   | _=> .no)
  | _=> .no)
 | _=> .no
theorem Rt [Z:FZ] {n:Nat} {s:TS} {K:Nat→Frame→List Nat→aG} {R:Exit→TS→Prop} (aJ:Fits s) (h:(BV s K).den R): ∃g F ids,(K g F ids).den R∧Ar ids F∧(s.av n).H=BW g ids F∧s.aW=4∧s.get cT= .fH F.M ids F.M.length rfl:=by
 unfold BV at h
 split at h
 ·rename_i g aw oZ
  split at h
  ·split at h
   ·rename_i h1 aT o a1 SK jR
    split at h
    ·rename_i q1
     subst q1
     split at h
     ·rename_i h2 e2 q bA oc vz
      split at h
      ·rename_i q2
       subst q2
       split at h
       ·rename_i aH gj ids SB
        split at h
        ·rename_i V cK bE iO hk
         obtain⟨a8,c7,gv,k7,UW,Dq,h⟩:=h
         cases c7;cases gv;cases k7;cases UW;subst Dq;subst SK;subst oc;subst iO
         obtain⟨G,e,_⟩:=aJ V cK _ _ hk
         refine⟨_,_,_,h,⟨G,e⟩,?_,a8,hk⟩
         rw[oS hk]
         have gI:s.fj=[(s.get (bD 0)).dW,(s.get (bD 1)).dW,(s.get (bD 2)).dW,(s.get (bD 3)).dW]:=by unfold TS.fj;rw[a8];rfl
         rw[gI,oZ,jR,vz,SB];rfl
        ·exact h.elim
       ·exact h.elim
      ·exact h.elim
     ·exact h.elim
    ·exact h.elim
   ·exact h.elim
  ·exact h.elim
 ·exact h.elim
structure pA (P:Program) where
 f:FuncId
 hD:List lm
 rs:List aX
 pre:cq (lm.es hD)→Frame→Prop
 fn:cq (lm.es hD)→Frame→Frame
 bm:cq (lm.es hD)→Frame→cq rs
 ok: ∀aL x F,pre x F→OC P f aL (u9 aL hD x) F (fn x F) (pM rs (bm x F))
def jH:(l:List lm)→List TV→cq (lm.es l)
 | [],_=>()
 | .v e::r,v::vs=>(Rz e v,jH r vs)
 | .fr::r,_::vs=>jH r vs
 | .w::r,v::vs=>((match v with
  | .ptr _ _ i _ _=>i
  | _=>(0:Int)),jH r vs)
 | .v e::r,[]=>(e.rG.default,jH r [])
 | .fr::r,[]=>jH r []
 | .w::r,[]=>((0:Int),jH r [])
def yk {P:Program}:List (pA P)→FuncId→(pA P→aG)→aG→aG
 | [],_,_,t=>t
 | c::r,f,K,t=>match Nat.beq c.f f with
  | true=>K c
  | false=>yk r f K t
def A8 {P:Program} (c:pA P) (args:List TV) (s:TS) (K:TV→TS→aG):aG:=BV s fun g F ids=>
 .eq (cc args) (u9 g c.hD (jH c.hD args)) (.eq ((cc args).all dL&&(cc args).all iv) true (.p (c.pre (jH c.hD args) F) (.all (List Nat) fun cK=>
  let s':=s.add ((eX,.u)::tE g cK (c.fn (jH c.hD args) F)) s.vs s.aW
  .eq s'.bT s.bT (.eq (tI (pM c.rs (c.bm (jH c.hD args) F))) true (K (zK c.rs (c.bm (jH c.hD args) F)) s')))))
theorem W4 (aL:Nat) (ids:List Nat) (F:Frame) (s:TS):let s':=s.add ((eX,.u)::tE aL ids F) s.vs s.aW
  s'.get (bD 0)= .ev aL (zM F)∧s'.get (bD 1)= .blk 0 .bool F.aF F.aF.length rfl∧s'.get (bD 2)= .blk 0 .dO F.aB F.aB.length rfl∧s'.get (bD 3)= .iE 0 4 ids∧s'.get cT= .fH F.M ids F.M.length rfl∧s'.get eX= .u:=by
 intro s'
 have aM:eX≠bD 0∧eX≠bD 1∧eX≠bD 2∧eX≠bD 3∧eX≠cT:=by unfold eX bD cT;omega
 have e: ∀k,s'.get k=fN ((eX,.u)::tE aL ids F) k (s.get k):=fun k=>TS.gZ ..
 refine⟨?_,?_,?_,?_,?_,?_⟩<;>rw[e]<;>rfl
theorem PV [Z:FZ] {P:Program} {n:Nat} (ap:n≤1000000) {c:pA P} {args:List TV} {s:TS} {K:TV→TS→aG} {R:Exit→TS→Prop} {Kp:AV→List (Nat×List AV)→List Blk→Prop} (aJ:Fits s)
  (hK: ∀v s' (Z':FZ),(K v s').den R→ @Fits Z' s'→s'.tT n=s.tT n→Kp v.bi s'.bT (@TS.av Z' n s').H) (h:(A8 c args s K).den R):jq P c.f (cc args) (s.av n).L (s.av n).H Kp:=by
 unfold A8 at h
 obtain⟨g,F,ids,bw,h1,h2,aH,_⟩:=Rt (n:=n) aJ h
 obtain⟨c7,gv,k7,hk⟩:=bw
 simp only[Bool.and_eq_true] at gv
 refine .inr (.inr (.inl ⟨gv.1,gv.2,?_⟩))
 rw[h2,c7]
 refine(c.ok g _ F k7 Z ids h1).mono fun r H' af=> ?_
 obtain⟨rfl,Z',cK,q1,rfl⟩:=af
 obtain⟨Dq,UX,hk⟩:=hk cK
 refine⟨UX,?_⟩
 obtain⟨ak,a1,bA,eh,ff,WY⟩:=W4 g cK (c.fn (jH c.hD args) F) s
 have pX: @Fits Z' (s.add ((eX,.u)::tE g cK (c.fn (jH c.hD args) F)) s.vs s.aW):=by
  intro V3 yV jV tj aH
  rw[ff] at aH
  cases aH
  refine⟨q1.1,q1.2,fun id xs hx=> ?_⟩
  rw[WY] at hx;cases hx
 have:=hK _ _ Z' hk pX (wZ ap fun p ai=>by
  simp only[tE,List.mem_cons,List.not_mem_nil,or_false] at ai
  rcases ai with rfl | rfl | rfl | rfl | rfl | rfl
  ·show 1000000≤eX;unfold eX;omega
  ·show 1000000≤bD 0;unfold bD;omega
  ·show 1000000≤bD 1;unfold bD;omega
  ·show 1000000≤bD 2;unfold bD;omega
  ·show 1000000≤bD 3;unfold bD;omega
  ·exact Nat.le_refl _)
 rw[Dq,El,@oS Z' n _ _ _ _ _ ff] at this
 have gI: @TS.fj Z' (s.add ((eX,.u)::tE g cK (c.fn (jH c.hD args) F)) s.vs s.aW)=[@TV.dW Z' (.ev g (zM (c.fn (jH c.hD args) F))),@TV.dW Z' (.blk 0 .bool (c.fn (jH c.hD args) F).aF _ rfl),@TV.dW Z' (.blk 0 .dO (c.fn (jH c.hD args) F).aB _ rfl),@TV.dW Z' (.iE 0 4 cK)]:=by
  rw[←ak,←a1,←bA,←eh]
  show(List.range s.aW).map _=_
  rw[aH];rfl
 rw[gI] at this
 exact this
inductive j2 where
 | v (e:aX)
 | p
def j2.es:List j2→List aX
 | []=>[]
 | .v e::r=>e::j2.es r
 | .p::r=>j2.es r
def x6 (g:Nat):(l:List j2)→cq (j2.es l)→List AV
 | [],_=>[]
 | .v e::r,x=>lz e x.1::x6 g r x.2
 | .p::r,x=> .ptr 0 g 0 0::x6 g r x
structure nQ (P:Program) where
 f:FuncId
 ce:aX
 hD:List j2
 rs:List aX
 pre:cq (j2.es hD)→ce.T→Prop
 fn:cq (j2.es hD)→ce.T→ce.T
 bm:cq (j2.es hD)→ce.T→cq rs
 ok: ∀g x c,pre x c→qJ P f g (x6 g hD x) (b4 false ce c) (b4 false ce (fn x c)) (pM rs (bm x c))
def LM:List j2→List TV→TV
 | .p::_,v::_=>v
 | .v _::r,_::vs=>LM r vs
 | _,_=> .u
def Ce:List j2→Bool
 | []=>false
 | .p::_=>true
 | .v _::r=>Ce r
def Et:TS:=⟨[],[],[],0⟩
def xW (p:AV):(l:List j2)→List TV→(cq (j2.es l)→List Prop→aG)→aG
 | [],[],K=>K () []
 | .v e::r,v::vs,K=>conv Et e v fun x o=>xW p r vs fun y ke=>K (x,y) (o++ke)
 | .p::r,v::vs,K=> .eq v.bi p (xW p r vs K)
 | _,_,_=> .no
def Xs (e:aX):Bool:=e.my
def Be {P:Program} (c:nQ P) (args:List TV) (p:AV) (cells:List TV) (K:TV→c.ce.T→aG):aG:=
 .eq (cc cells) (b4 false c.ce (c.ce.mk (m1 c.ce.cm cells))) (.eq (Ce c.hD&&Xs c.ce&&(cc args).all dL) true (xW p c.hD args fun x o=>
  zo (o++[c.pre x (c.ce.mk (m1 c.ce.cm cells))]) (K (zK c.rs (c.bm x (c.ce.mk (m1 c.ce.cm cells)))) (c.fn x (c.ce.mk (m1 c.ce.cm cells))))))
def Bf {P:Program} (c:nQ P) (args:List TV) (s:TS) (K:TV→TS→aG):aG:=match LM c.hD args with
 | .ptr b g _ _ _=>(match s.get (bD b) with
  | .ev cL cells=>(match Nat.blt b s.aW with
   | true=> .eq cL g (Be c args (.ptr b g 0 0) cells fun v y=>
     let s':=s.fE b s.aW (.ev g (hL false c.ce y))
     .eq s'.bT s.bT (K v s'))
   | false=> .no)
  | _=> .no)
 | .lp v _=>(match iU s.vs v with
  | some m=>Be c args (.et v 0) (gq s v 0 m) fun w y=>
    let s':=s.add (q0 v 0 (hL false c.ce y)) s.vs s.aW
    .eq s'.bT (jj s.bT v (b4 false c.ce y)) (.eq (mR (q0 v 0 (hL false c.ce y))) true (K w s'))
  | none=> .no)
 | _=> .no
def yl {P:Program}:List (nQ P)→FuncId→(nQ P→aG)→aG→aG
 | [],_,_,t=>t
 | c::r,f,K,t=>match Nat.beq c.f f with
  | true=>K c
  | false=>yl r f K t
theorem Hi {P:Program} {f:FuncId} {K:nQ P→aG} {t:aG} {R:Exit→TS→Prop}: ∀{nH:List (nQ P)},(yl nH f K t).den R→(∃m,m.f=f∧(K m).den R)∨t.den R
 | [],h=> .inr h
 | c::r,h=>by
  unfold yl at h
  split at h
  ·rename_i hf;exact .inl ⟨c,Nat.eq_of_beq_eq_true hf,h⟩
  ·exact Hi h
theorem x5 {e:aX} (h:e.my=true) (x:e.T):(b4 false e x).all rH=true∧(b4 false e x).all hJ=true:=by cases e<;>first | exact⟨rfl,rfl⟩ | cases h
theorem Bd {p:AV} {g:Nat} {R:Exit→TS→Prop}: ∀{l:List j2} {vs:List TV} {K:cq (j2.es l)→List Prop→aG},(xW p l vs K).den R→ ∃x o,(K x o).den R∧((∀φ∈o,φ)→aK (qG p (.ptr 0 g 0 0)) (cc vs) (x6 g l x))∧(Ce l=true→p∈cc vs)
 | [],[],K,h=>⟨(),[],h,fun _=>aK.nil,fun h=>by cases h⟩
 | .v e::r,v::vs,K,h=>by
  letI Z:FZ:=⟨[],[]⟩
  obtain⟨x,o,h,c7⟩:=Bc (n:=0) (Fits.none (s:=Et) rfl) (show(conv Et e v _).den R from h)
  obtain⟨y,ke,h,gv,k7⟩:=Bd (l:=r) h
  exact⟨(x,y),o++ke,h,fun aD=>aK.cons (.inr (c7 fun φ dK=>aD φ (List.mem_append_left _ dK))) (gv fun φ dK=>aD φ (List.mem_append_right _ dK)),fun ai=>List.mem_cons_of_mem _ (k7 ai)⟩
 | .p::r,v::vs,K,h=>by
  obtain⟨e,h⟩:=h
  obtain⟨y,ke,h,gv,k7⟩:=Bd (l:=r) h
  exact⟨y,ke,h,fun aD=>aK.cons (.inl ⟨e,rfl⟩) (gv aD),fun _=>by rw[cc,e];exact List.mem_cons_self ..⟩
 | [],_::_,K,h=>h.elim
 | .v _::_,[],K,h=>h.elim
 | .p::_,[],K,h=>h.elim
theorem GG {P:Program} {c:nQ P} {args:List TV} {p:AV} {cells:List TV} {K:TV→c.ce.T→aG} {R:Exit→TS→Prop} (g:Nat) (h:(Be c args p cells K).den R):
  ∃dg x y t,(K t y).den R∧(cc args).all dL=true∧cc cells=b4 false c.ce x∧c.ce.my=true∧p∈cc args∧aK (qG p (.ptr 0 g 0 0)) (cc args) dg∧qJ P c.f g dg (b4 false c.ce x) (b4 false c.ce y) t.bi:=by
 obtain⟨h1,h2,h⟩:=h
 simp only[Bool.and_eq_true] at h2
 obtain⟨x,o,h,gv,k7⟩:=Bd (g:=g) h
 obtain⟨aD,h⟩:=Lr h
 refine⟨_,_,_,_,h,h2.2,h1,h2.1.2,k7 h2.1.1,gv fun φ dK=>aD φ (List.mem_append_left _ dK),?_⟩
 rw[El]
 exact c.ok g x _ (aD _ (List.mem_append_right _ (List.mem_singleton.2 rfl)))
theorem L_ {c:List TV} {e:aX} {x:e.T} (h:cc c=b4 false e x):c.length=(b4 false e x).length:=by rw[←h,lr,List.length_map]
theorem P0 [Z:FZ] {P:Program} {n:Nat} (ap:n≤1000000) {c:nQ P} {args:List TV} {s:TS} {K:TV→TS→aG} {R:Exit→TS→Prop} {Kp:AV→List (Nat×List AV)→List Blk→Prop} (aJ:Fits s)
  (hK: ∀v s' (Z':FZ),(K v s').den R→ @Fits Z' s'→s'.tT n=s.tT n→Kp v.bi s'.bT (@TS.av Z' n s').H) (h:(Bf c args s K).den R):jq P c.f (cc args) (s.av n).L (s.av n).H Kp:=by
 unfold Bf at h
 split at h
 ·rename_i b g i m col ai
  split at h
  ·rename_i cL cells aL
   split at h
   ·rename_i hb
    have hb:b<s.aW:=by rw[←Nat.blt_eq];exact hb
    obtain⟨e,h⟩:=h
    subst e
    obtain⟨dg,x,y,t,bw,h1,h2,aH,bn,cX,eG⟩:=GG cL h
    obtain⟨bH,bw⟩:=bw
    refine .inr (.inr (.inr ⟨h1,dg,b4 false c.ce x,b4 false c.ce y,t.bi,(x5 aH x).1,(x5 aH y).2,.inl ⟨b,cL,?_,bn,cX,eG,?_⟩⟩))
    ·rw[pv hb,aL]
     show some (Blk.mk cL cells.length [cc cells])=_
     rw[L_ h2,h2]
    ·have:=hK _ _ Z bw (n0 aJ) (nZ ap)
     rw[bH,sK hb] at this
     have aT:TV.dW (.ev cL (hL false c.ce y))=Blk.mk cL (b4 false c.ce x).length [b4 false c.ce y]:=by
      show Blk.mk cL (hL false c.ce y).length [cc (hL false c.ce y)]=_
      rw[L_ (xQ false c.ce y),xQ,q6,q6]
     rw[aT] at this
     exact this
   ·exact h.elim
  ·exact h.elim
 ·rename_i v col ai
  split at h
  ·rename_i m hm
   obtain⟨dg,x,y,t,bw,h1,h2,aH,bn,cX,eG⟩:=GG 0 h
   obtain⟨bH,hb,bw⟩:=bw
   refine .inr (.inr (.inr ⟨h1,dg,b4 false c.ce x,b4 false c.ce y,t.bi,(x5 aH x).1,(x5 aH y).2,.inr ⟨v,?_,bn,cX,eG,?_⟩⟩))
   ·rw[sl,hm,←h2];rfl
   ·have:=hK _ _ Z bw (uU hb aJ) (uT ap hb)
    rw[bH,uS hb] at this
    exact this
  ·exact h.elim
 ·exact h.elim
structure nT (P:Program) where
 len:List Nat
 mF:List (pA P)
 Ad:List (nQ P)
def Fg (P:Program) (n:Nat) (t:TypeId) (b g:Nat) (i:Int) (m c:Nat) (v:TV) (s:TS) (w:TV) (K:TS→aG):aG:=match w with
 | .iE cL gj ids=>(match tK v with
  | true=>Fh P t b g i c v s cL gj ids K
  | false=> .no)
 | .ev cL aw=>NR P t b g i c v s cL aw K
 | _=>Fc P n t b g i m c v s K
section
variable {P:Program} (cf:gf P) (s:TS)
def Aj (dQ:nT P) (o:Oper) (K:TV→TS→aG):aG:=match o.op with
 | .store t a v=>(match b7 cf.n s a with
  | .lp x c=>mZ (b7 cf.n s v) fun w=>vh cf s o (.tup []) (q0 x c (n1 w)) s.vs K
  | .ptr b g i m c=>mZ (b7 cf.n s v) fun w=>Fg P cf.n t b g i m c w s (s.get (bD b)) fun s'=>K (.tup []) s'
  | .s5 w ids m j=>mZ (b7 cf.n s v) fun x=>w1 P t w ids m j x s fun s'=>K (.tup []) s'
  | _=> .no)
 | .alloc e=>(match o.dst with
  | some d=>vh cf s o (.lp d 0) (q0 d 0 (xa P e)) ((d,(xa P e).length)::s.vs) K
  | none=> .no)
 | .box _ x=>(match o.dst with
  | some d=>mZ (b7 cf.n s x) fun w=>vh cf s o (.lp d 0) (q0 d 0 (n1 w)) ((d,(n1 w).length)::s.vs) K
  | none=> .no)
 | .makeSlice t l c=>(match hC s with
  | true=>tD cf.Bz t fun e=>DO P cf.n t e (b7 cf.n s l) (b7 cf.n s c) s K
  | false=>DM P t (b7 cf.n s l) (b7 cf.n s c) s K)
 | .buildSlice t m ps=>tD cf.Bz t fun e=>y5 s e (ps.toList.map fun p=>b7 cf.n s p.2) fun xs=>oV (fun H Q=>h0 P o (fun x=>(b7 cf.n s x).bi) s.bT H Q) (fun v=>K v s) (.v (KR e xs (ps.toList.map fun p=>b7 cf.n s p.2)))
 | .binOp op t x y _=>(match b7 cf.n s x with
  | .l e xs _ _=>(match op with
   | .eql=> .eq (ol y&&(ht P t).isSome) true (.two (.h5 (xs≠[]) (K (.b .f) s)) (.h5 (xs=[]) (.all Bool fun b=>K (.b (.v b)) s)))
   | _=> .no)
  | _=>pr cf s o fun v=>K v s)
 | .call c=>(match c.callee with
  | .builtin b=>(match b with
   | .len=>(match c.args.toList,c.argTypes.toList with
    | [x],[t]=>(match b7 cf.n s x with
     | .l e xs cW fr=>(match o.dst with
      | some d=>(match dQ.len.any (Nat.beq d) with
       | true=>pr cf s o fun v=>K v s
       | false=> .eq (h6 P t (TV.l e xs cW fr).bi) true (.h5 (xs.length≤4611686018427387904) (K (.i .i64 xs.length) s)))
      | none=> .no)
     | _=>pr cf s o fun v=>K v s)
    | _,_=> .no)
   | .append=>(match c.args.toList,c.argTypes.toList with
    | [x,y],[t,t2]=>AM P cf.n t t2 (b7 cf.n s x) (b7 cf.n s y) s K
    | _,_=> .no)
   | _=> .no)
  | .value f=>(match b7 cf.n s f with
   | .fn g caps=>yk dQ.mF g (fun m=>A8 m (c.args.toList.map (b7 cf.n s)++caps) s K) (yl dQ.Ad g (fun m=>Bf m (c.args.toList.map (b7 cf.n s)++caps) s K) (pr cf s o fun v=>K v s))
   | _=> .no)
  | _=> .no)
 | _=>pr cf s o fun v=>K v s
end
section
variable {P:Program} {cf:gf P} {s:TS} {R:Exit→TS→Prop}
variable {K:TV→TS→aG} {Kp:AV→List (Nat×List AV)→List Blk→Prop}
theorem aaH {t:TypeId} {m:Nat} {ids:List Nat} {w j:Int} {v:TV} {K:TS→aG} (h:(w1 P t w ids m j v s K).den R):dL v.bi=true:=by
 unfold w1 at h
 split at h
 ·obtain⟨_,_,_,h⟩:=h
  split at h
  ·rfl
  ·exact h.elim
 ·exact h.elim
end
section
variable {P:Program} {cf:gf P} {s:TS} {R:Exit→TS→Prop}
variable {K:TV→TS→aG} {Kp:AV→List (Nat×List AV)→List Blk→Prop}
theorem Hh {f:FuncId} {K:pA P→aG} {t:aG}: ∀{nH:List (pA P)},(yk nH f K t).den R→(∃m,m.f=f∧(K m).den R)∨t.den R
 | [],h=> .inr h
 | c::r,h=>by
  unfold yk at h
  split at h
  ·rename_i hf;exact .inl ⟨c,Nat.eq_of_beq_eq_true hf,h⟩
  ·exact Hh h
end
section
variable [Z:FZ] {P:Program} {cf:gf P} {s:TS} {R:Exit→TS→Prop}
variable {K:TV→TS→aG} {Kp:AV→List (Nat×List AV)→List Blk→Prop}
theorem aaK (ap:cf.n≤1000000) (aJ:Fits s) {t:TypeId} {b g m c:Nat} {i:Int} {v:TV} {K:TS→aG} {Kp:List (Nat×List AV)→List Blk→Prop} (hK: ∀s' (Z':FZ),(K s').den R→ @Fits Z' s'→s'.tT cf.n=s.tT cf.n→Kp s'.bT (@TS.av Z' cf.n s').H)
  (h:(Fg P cf.n t b g i m c v s (s.get (bD b)) K).den R):dM (dL v.bi) (jX P t (.ptr b g i.toNat c) v.bi (s.av cf.n).L (s.av cf.n).H Kp):=by
 unfold Fg at h
 split at h
 ·rename_i cL gj ids aL
  split at h
  ·rename_i hv
   exact zk (zi hv) (aaM ap aJ aL hK h)
  ·exact h.elim
 ·rename_i cL aw aL
  have aH:(Nat.blt b s.aW&&tK v&&sk P t v.bi&&Nat.ble (c+(eb v.bi).length) aw.length)=true:=h.2.2.1
  simp only[Bool.and_eq_true] at aH
  exact zk (zi aH.1.1.2) (aaL ap aJ aL hK h)
 ·exact aaE ap aJ hK h
theorem Of (ap:cf.n≤1000000) (aJ:Fits s) {dQ:nT P} {o:Oper} (hK:sG cf s R K Kp) (h:(Aj cf s dQ o K).den R):ih P [] o (bR (s.av cf.n).T) (s.av cf.n).L (s.av cf.n).H Kp:=by
 have wL: ∀v,(K v s).den R→Kp v.bi (s.av cf.n).L (s.av cf.n).H:=fun v hv=>hK v s Z hv aJ rfl
 have rd:(pr cf s o fun v=>K v s).den R→h0 P o (bR (s.av cf.n).T) (s.av cf.n).L (s.av cf.n).H fun r=>Kp r (s.av cf.n).L (s.av cf.n).H:=fun h=>Mb aJ (Kp:=fun r=>Kp r (s.av cf.n).L (s.av cf.n).H) wL h
 unfold Aj at h
 split at h
 ·rename_i t a v eO
  split at h
  ·rw[n7] at h;exact B8 ap aJ hK h
  ·rename_i b g i m c aC
   rw[n7] at h
   obtain⟨dst,op,ty,pos,after,guard⟩:=o
   cases eO
   show dM (dL (bR (s.av cf.n).T v)) (jX P t (bR (s.av cf.n).T a) (bR (s.av cf.n).T v) _ _ _)
   rw[je]
   show dM (dL (b7 cf.n s v).bi) (jX P t (b7 cf.n s a).bi (b7 cf.n s v).bi _ _ _)
   rw[aC]
   exact aaK ap aJ (fun s' Z' h1 hf h2=>hK (.tup []) s' Z' h1 hf h2) h
  ·rename_i w ids m j aC
   rw[n7] at h
   obtain⟨dst,op,ty,pos,after,guard⟩:=o
   cases eO
   show dM (dL (bR (s.av cf.n).T v)) (jX P t (bR (s.av cf.n).T a) (bR (s.av cf.n).T v) _ _ _)
   rw[je]
   show dM (dL (b7 cf.n s v).bi) (jX P t (b7 cf.n s a).bi (b7 cf.n s v).bi _ _ _)
   rw[aC]
   refine zk ?_ (aaI ap aJ (fun s' Z' h1 hf h2=>hK (.tup []) s' Z' h1 hf h2) h)
   exact aaH h
  ·exact h.elim
 ·split at h
  ·exact B8 ap aJ hK h
  ·exact h.elim
 ·split at h
  ·rw[n7] at h;exact B8 ap aJ hK h
  ·exact h.elim
 ·rename_i t l c eO
  obtain⟨dst,op,ty,pos,after,guard⟩:=o
  cases eO
  show tF P t (bR (s.av cf.n).T l) (bR (s.av cf.n).T c) _ _ _
  rw[je]
  split at h
  ·obtain⟨e,h⟩:=DE h
   exact Xd ap aJ hK h
  ·exact W6 ap aJ hK h
 ·rename_i t m ps eO
  obtain⟨e,h⟩:=DE h
  obtain⟨xs,h⟩:=DD (n:=cf.n) aJ h
  refine Yo eO ?_
  rw[je]
  exact pS (F:=fun H Q=>h0 P o _ _ H Q) (s.av cf.n).H (Kp:=fun r=>Kp r (s.av cf.n).L (s.av cf.n).H) wL h
 ·rename_i op t x y ty2 eO
  split at h
  ·rename_i e xs cW fr hx
   split at h
   ·obtain⟨h1,h2,aH⟩:=h
    obtain⟨dst,op,ty,pos,after,guard⟩:=o
    cases eO
    show pH P .eql t (bR (s.av cf.n).T x) _ (ol y) _
    rw[je]
    show pH P .eql t (b7 cf.n s x).bi _ (ol y) _
    rw[hx]
    show if ol y=true∧(ht P t).isSome=true then _ else _
    rw[if_pos (by simpa using h1)]
    refine⟨fun cd=> ?_,fun he b=> ?_⟩
    ·exact wL (.b .f) (h2 fun e=>cd (by rw[e];rfl))
    ·exact wL (.b (.v b)) (aH (by simpa using he) b)
   ·exact h.elim
  ·refine Mc (rd h) (fun c=>by rw[eO];intro e;cases e) (fun t m ps=>by rw[eO];intro e;cases e)
 ·rename_i c eO
  obtain⟨callee,args,argTypes⟩:=c
  split at h
  ·rename_i b hb
   cases hb
   split at h
   ·split at h
    ·rename_i x t h1 h2
     simp only at h1 h2
     split at h
     ·rename_i e xs cW fr hx
      split at h
      ·split at h
       ·exact Ei eO (rd h)
       ·obtain⟨aT,h⟩:=h
        obtain⟨dst,op,ty,pos,after,guard⟩:=o
        cases eO
        show(match args.toList,argTypes.toList with
         | [x],[t]=>dM (h6 P t (bR (s.av cf.n).T x)) (pb (bR (s.av cf.n).T x) fun r=>Kp r _ _)
         | _,_=>False)
        simp only[h1,h2]
        rw[je]
        show dM (h6 P t (b7 cf.n s x).bi) (pb (b7 cf.n s x).bi _)
        rw[hx,aT]
        show(List.map _ _).length≤_→Kp (.int .i64 ((List.map _ _).length:Nat)) _ _
        rw[List.length_map]
        exact fun aE=>wL _ (h aE)
      ·exact h.elim
     ·exact Ei eO (rd h)
    ·exact h.elim
   ·split at h
    ·rename_i x y t t2 h1 h2
     simp only at h1 h2
     obtain⟨dst,op,ty,pos,after,guard⟩:=o
     cases eO
     show(match args.toList,argTypes.toList with
      | [s',x],[t,t2]=>dL (bR (s.av cf.n).T s')=true∧dL (bR (s.av cf.n).T x)=true∧qV P t t2 (bR (s.av cf.n).T s') (bR (s.av cf.n).T x) _ _ _
      | _,_=>False)
     simp only[h1,h2]
     rw[je]
     exact OZ ap aJ hK h
    ·exact h.elim
   ·exact h.elim
  ·rename_i f hf
   cases hf
   split at h
   ·rename_i g caps hc
    rcases Hh h with⟨m,e,hm⟩ | hm
    ·subst e
     obtain⟨dst,op,ty,pos,after,guard⟩:=o
     cases eO
     show jK (bR (s.av cf.n).T f) fun g caps=>jq P g (args.toList.map (bR (s.av cf.n).T)++caps) _ _ Kp
     rw[je]
     show jK (b7 cf.n s f).bi fun g caps=>jq P g (args.toList.map (fun x=>(b7 cf.n s x).bi)++caps) _ _ Kp
     rw[hc]
     have:=PV (n:=cf.n) ap aJ (fun v s' Z' h1 h2 aH=>hK v s' Z' h1 h2 aH) hm
     rw[lr,List.map_append,List.map_map] at this
     show jq P m.f (_++cc caps) _ _ Kp
     rw[lr];exact this
    ·rcases Hi hm with⟨m,e,ai⟩ | hm
     ·subst e
      obtain⟨dst,op,ty,pos,after,guard⟩:=o
      cases eO
      show jK (bR (s.av cf.n).T f) fun g caps=>jq P g (args.toList.map (bR (s.av cf.n).T)++caps) _ _ Kp
      rw[je]
      show jK (b7 cf.n s f).bi fun g caps=>jq P g (args.toList.map (fun x=>(b7 cf.n s x).bi)++caps) _ _ Kp
      rw[hc]
      have:=P0 (n:=cf.n) (Kp:=Kp) ap aJ (fun v s' Z' h1 h2 aH=>hK v s' Z' h1 h2 aH) ai
      rw[lr,List.map_append,List.map_map] at this
      show jq P m.f (_++cc caps) _ _ Kp
      rw[lr];exact this
     ·exact Ei eO (rd hm)
   ·exact h.elim
  ·exact h.elim
 ·rename_i h1 h2 aH bn cX eG kt
  exact Mc (rd h) (fun c=>kt c) (fun t m ps=>cX t m ps)
end
end Go.Proofs.Ytglpfccgmfhkdaa.Fw
