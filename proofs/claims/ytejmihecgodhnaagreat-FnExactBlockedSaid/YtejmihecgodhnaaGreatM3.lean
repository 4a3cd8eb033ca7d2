/- The machine, part A: kinds of values, values told by their kinds, trees of conditions. -/
import Derived.Test.YtejmihecgodhnaaGreatM2
set_option linter.unusedVariables false
namespace Go.Proofs.YtejmihecgodhnaaGreat.Fw
open Go
inductive aH where
 | int | u64 | u8 | bool | str | bG | eg | ef | mQ | ep | held | frame | done | fault | stays | gv | unit | nat
 | l (e:aH)
 | ptr (e:aH)
 | hJ (f:Nat) (e:aH)
 deriving DecidableEq,Inhabited
@[reducible] def aH.T:aH→Type
 | .int=>Int
 | .u64=>Int
 | .u8=>UInt8
 | .bool=>Bool
 | .str=>ByteArray
 | .bG=>cR
 | .eg=>Way
 | .ef=>aV
 | .mQ=>Event
 | .ep=>dy
 | .held=>aC
 | .frame=>Frame
 | .done=>tv
 | .fault=>oR
 | .stays=>gB
 | .gv=>jC
 | .unit=>Unit
 | .nat=>Nat
 | .l e=>List e.T
 | .ptr e=>e.T
 | .hJ _ e=>e.T
@[reducible] def aH.uE:(e:aH)→Inhabited e.T
 | .int=>inferInstanceAs (Inhabited Int)
 | .u64=>inferInstanceAs (Inhabited Int)
 | .u8=>inferInstanceAs (Inhabited UInt8)
 | .bool=>inferInstanceAs (Inhabited Bool)
 | .str=>inferInstanceAs (Inhabited ByteArray)
 | .bG=>inferInstanceAs (Inhabited cR)
 | .eg=>inferInstanceAs (Inhabited Way)
 | .ef=>inferInstanceAs (Inhabited aV)
 | .mQ=>inferInstanceAs (Inhabited Event)
 | .ep=>inferInstanceAs (Inhabited dy)
 | .held=>inferInstanceAs (Inhabited aC)
 | .frame=>inferInstanceAs (Inhabited Frame)
 | .done=>inferInstanceAs (Inhabited tv)
 | .fault=>inferInstanceAs (Inhabited oR)
 | .stays=>inferInstanceAs (Inhabited gB)
 | .gv=>inferInstanceAs (Inhabited jC)
 | .unit=>inferInstanceAs (Inhabited Unit)
 | .nat=>inferInstanceAs (Inhabited Nat)
 | .l e=>inferInstanceAs (Inhabited (List e.T))
 | .ptr e=>e.uE
 | .hJ _ e=>e.uE
def s0 (e:aH) (xs:List e.T) (i:Int):e.T:= @nth e.T e.uE xs i
def ct:List aH→Type
 | []=>Unit
 | e::r=>e.T×ct r
def aH.bR:aH→List aH
 | .bG=>[.int,.int]
 | .eg=>[.l .int,.l .bG,.l .bG,.l .int,.l .int]
 | .ef=>[.int,.l .int,.l .eg,.l (.l .bool),.int]
 | .mQ=>[.int,.int,.int]
 | .ep=>[.int,.int]
 | .held=>[.int,.int,.l .bool,.bool,.int]
 | .frame=>[.bool,.l .bool,.l .ep,.l .held]
 | .done=>[.int,.bool,.l .bool,.l .ep,.l .held]
 | .fault=>[.int,.int]
 | .stays=>[.l .int,.l .int,.l .int]
 | .gv=>[.l .u8,.int,.u64]
 | e=>[e]
def aH.isS:aH→Bool
 | .bG | .eg | .ef | .mQ | .ep | .held | .frame | .done | .fault | .stays | .gv=>true
 | _=>false
def aH.mk:(e:aH)→ct e.bR→e.T
 | .bG,(a,b,_)=>⟨a,b⟩
 | .eg,(a,b,c,d,e,_)=>⟨a,b,c,d,e⟩
 | .ef,(a,b,c,d,e,_)=>⟨a,b,c,d,e⟩
 | .mQ,(a,b,c,_)=>⟨a,b,c⟩
 | .ep,(a,b,_)=>⟨a,b⟩
 | .held,(a,b,c,d,e,_)=>⟨a,b,c,d,e⟩
 | .frame,(a,b,c,d,_)=>⟨a,b,c,d⟩
 | .done,(a,b,c,d,e,_)=>⟨a,⟨b,c,d,e⟩⟩
 | .fault,(a,b,_)=>⟨a,b⟩
 | .stays,(a,b,c,_)=>⟨a,b,c⟩
 | .gv,(a,b,c,_)=>⟨a,b,c⟩
 | .int,(a,_)=>a
 | .u64,(a,_)=>a
 | .u8,(a,_)=>a
 | .bool,(a,_)=>a
 | .str,(a,_)=>a
 | .unit,(a,_)=>a
 | .nat,(a,_)=>a
 | .l _,(a,_)=>a
 | .ptr _,(a,_)=>a
 | .hJ _ _,(a,_)=>a
def aH.un:(e:aH)→e.T→ct e.bR
 | .bG,x=>(x.bd,x.bG,())
 | .eg,x=>(x.ah,x.bp,x.cv,x.cK,x.eS,())
 | .ef,x=>(x.ah,x.bf,x.O,x.bk,x.cY,())
 | .mQ,x=>(x.op,x.Uj,x.bG,())
 | .ep,x=>(x.cJ,x.bp,())
 | .held,x=>(x.aK,x.a1,x.ak,x.cn,x.cx,())
 | .frame,x=>(x.ok,x.aG,x.aq,x.O,())
 | .done,x=>(x.code,x.frame.ok,x.frame.aG,x.frame.aq,x.frame.O,())
 | .fault,x=>(x.code,x.pos,())
 | .stays,x=>(x.O,x.ah,x.aq,())
 | .gv,x=>(x.code,x.pos,x.AE,())
 | .int,x=>(x,())
 | .u64,x=>(x,())
 | .u8,x=>(x,())
 | .bool,x=>(x,())
 | .str,x=>(x,())
 | .unit,x=>(x,())
 | .nat,x=>(x,())
 | .l _,x=>(x,())
 | .ptr _,x=>(x,())
 | .hJ _ _,x=>(x,())
theorem aH.Uq (e:aH) (x:ct e.bR):e.un (e.mk x)=x:=by cases e<;>rfl
def ca (fr:Bool):(e:aH)→e.T→List AV
 | .int,x=>cs x
 | .u64,x=>[.int .u64 x]
 | .u8,x=>BU x
 | .bool,x=>aX x
 | .str,x=>FU x
 | .bG,x=>dE x
 | .eg,x=>ej fr x
 | .ef,x=>bV fr x
 | .mQ,x=>FQ x
 | .ep,x=>bE x
 | .held,x=>ec fr x
 | .frame,x=>cg fr x
 | .done,x=>FP fr x
 | .fault,x=>FR x
 | .stays,x=>gk fr x
 | .gv,x=>WX fr x
 | .l e,x=>[.aJ (x.map (ca false e)) false fr]
 | .unit,_ | .nat,_ | .ptr _,_ | .hJ _ _,_=>[.undef]
def iS (fr:Bool):(e:aH)→e.T→AV
 | .int,x=> .int .i64 x
 | .u64,x=> .int .u64 x
 | .u8,x=> .int .u8 x.toNat
 | .bool,x=> .bool x
 | .str,x=> .str x
 | .l e,x=> .aJ (x.map (ca false e)) false fr
 | _,_=> .undef
def ii (fr:Bool):(es:List aH)→ct es→List AV
 | [],_=>[]
 | e::r,x=>iS fr e x.1::ii fr r x.2
theorem mN (fr:Bool) (e:aH) (x:e.T):ii fr e.bR (e.un x)=ca fr e x:=by
 cases e<;>first | rfl | (simp only[aH.bR,aH.un,ii,iS,ca];rfl)
def aH.jQ:aH→Nat
 | .bG=>2
 | .eg=>5
 | .ef=>5
 | .mQ=>3
 | .ep=>2
 | .held=>5
 | .frame=>4
 | .done=>5
 | .fault=>2
 | .stays=>3
 | .gv=>3
 | _=>1
theorem tN (fr:Bool) (e:aH) (x:e.T):(ca fr e x).length=e.jQ:=by cases e<;>rfl
def aH.oy:aH→Bool
 | .unit | .nat | .ptr _ | .hJ _ _=>false
 | _=>true
theorem W2 {fr:Bool} {e:aH} (h:e.oy=true) (x:e.T):(ca fr e x).all jg=true:=by cases e<;>first | rfl | cases h
inductive dD where
 | t | f
 | v (b:Bool)
 | at(i:Nat) (b:Bool)
 | n (x:dD)
 | ds (x y:dD)
 | or (x y:dD)
 | ite (c x y:dD)
 | wk (x y:dD)
 | ne (x y:dD)
 deriving Inhabited
def dD.den:dD→Bool
 | .t=>true
 | .f=>false
 | .v b=>b
 | .at _ b=>b
 | .n x=> !x.den
 | .ds x y=>x.den&&y.den
 | .or x y=>x.den || y.den
 | .ite c x y=>bif c.den then x.den else y.den
 | .wk x y=>x.den==y.den
 | .ne x y=>x.den !=y.den
def dD.not:dD→dD
 | .t=> .f
 | .f=> .t
 | x=> .n x
def dD.u1 (b x y:dD):dD:=match x with
 | .t=>(match y with
  | .t=> .t
  | .f=>b
  | y=> .or b y)
 | .f=>(match y with
  | .f=> .f
  | .t=> .n b
  | y=> .ds (.n b) y)
 | x=>(match y with
  | .f=> .ds b x
  | .t=> .or (.n b) x
  | y=> .ite b x y)
theorem dD.Aj (b x y:dD):(dD.u1 b x y).den=bif b.den then x.den else y.den:=by
 cases x<;>cases y<;>simp only[dD.u1,dD.den]<;>cases b.den<;>simp
inductive TV where
 | u
 | i (k:IntKind) (n:Int)
 | b (x:dD)
 | s (x:ByteArray)
 | l (e:aH) (xs:List e.T) (full fr:Bool)
 | nil (full fr:Bool)
 | ref (b g n:Nat) (full:Bool)
 | ptr (b g:Nat) (i:Int) (n col:Nat)
 | lp (t col:Nat)
 | c3 (e:aH) (x:e.T) (col:Nat)
 | agg (c:List TV)
 | tup (c:List TV)
 | fn (f:FuncId) (c:List TV)
 | o (a:AV)
 | blk (g:Nat) (e:aH) (xs:List e.T) (n:Nat) (h:xs.length=n)
 | dv (g:Nat) (c:List TV)
 | jX (g m:Nat) (ids:List Nat)
 | gw (V:List aC) (ids:List Nat) (n:Nat) (h:V.length=n)
 | new (id:Nat) (xs:List Bool)
 | ww (w:Int) (ids:List Nat) (m n:Nat)
 | wv (w:Int) (ids:List Nat) (m:Nat) (j:Int)
 | Ad (id m n:Nat)
 deriving Inhabited
class FZ where
 ws:List aC
 bs:List (List Bool)
mutual
def TV.bb:TV→AV
 | .u=> .undef
 | .i k n=> .int k n
 | .b x=> .bool x.den
 | .s x=> .str x
 | .l e xs full fr=> .aJ (xs.map (ca false e)) full fr
 | .nil full fr=> .aJ [] full fr
 | .ref b g n full=> .ref b g 0 n full
 | .ptr b g i _ c=> .ptr b g i.toNat c
 | .lp t c=> .e4 t c
 | .c3 e x c=> .c3 (ca false e x) c
 | .agg c=> .agg (cu c)
 | .tup c=> .tup (cu c)
 | .fn f c=> .fn f (cu c)
 | .o a=>a
 | .blk _ _ _ _ _=> .undef
 | .dv _ _=> .undef
 | .jX _ _ _=> .undef
 | .gw _ _ _ _=> .undef
 | .new _ _=> .undef
 | .ww w ids m k=> .ref (nth ids w+m) 0 0 k false
 | .wv w ids m j=> .ptr (nth ids w+m) 0 j.toNat 0
 | .Ad id m k=> .ref (id+m) 0 0 k false
def cu:List TV→List AV
 | []=>[]
 | x::r=>x.bb::cu r
end
theorem nm (l:List TV):cu l=l.map TV.bb:=by
 induction l with
 | nil=>rfl
 | cons x r bn=>rw[cu,bn];rfl
def TV.eJ [Z:FZ]:TV→Blk
 | .blk g e xs _ _=>⟨g,e.jQ,xs.map (ca true e)⟩
 | .dv g c=>⟨g,c.length,[cu c]⟩
 | .jX g m ids=>⟨g,5,bh m Z.ws ids⟩
 | _=>⟨0,0,[]⟩
def A2 (fr:Bool):(e:aH)→e.T→TV
 | .int,x=> .i .i64 x
 | .u64,x=> .i .u64 x
 | .u8,x=> .i .u8 x.toNat
 | .bool,x=> .b (.v x)
 | .str,x=> .s x
 | .l e,x=> .l e x false fr
 | _,_=> .u
def Es (fr:Bool):(es:List aH)→ct es→List TV
 | [],_=>[]
 | e::r,x=>A2 fr e x.1::Es fr r x.2
theorem Lb (fr:Bool) (e:aH) (x:e.T):(A2 fr e x).bb=iS fr e x:=by cases e<;>rfl
theorem Uk (fr:Bool): ∀(es:List aH) (x:ct es),cu (Es fr es x)=ii fr es x
 | [],_=>rfl
 | e::r,x=>by rw[Es,cu,ii,Lb,Uk fr r]
def iQ (fr:Bool) (e:aH) (x:e.T):List TV:=Es fr e.bR (e.un x)
theorem BH (fr:Bool) (e:aH) (x:e.T):cu (iQ fr e x)=ca fr e x:=by rw[iQ,Uk,mN]
structure TS where
 T:List (Nat×TV)
 B:List (Nat×TV)
 vs:List (Nat×Nat)
 aT:Nat
 deriving Inhabited
def gF:List (Nat×TV)→Nat→TV→TV
 | [],_,d=>d
 | (k,v)::r,t,d=>match Nat.beq k t with
  | true=>v
  | false=>gF r t d
def ja (v c:Nat):Nat:=1000010+(1000*v+c)
def de:Nat:=1000000
def fC:Nat:=1000001
def br (b:Nat):Nat:=1000000000000+b
def TS.get (s:TS) (k:Nat):TV:=gF s.T k (gF s.B k .u)
def TS.put (s:TS) (k:Nat) (v:TV):TS:=⟨(k,v)::s.T,s.B,s.vs,s.aT⟩
def hg (s:TS) (v:Nat):Nat→Nat→List TV
 | _,0=>[]
 | c,m+1=>s.get (ja v c)::hg s v (c+1) m
def TS.tT (n:Nat) (s:TS):List AV:=(List.range n).map fun t=>(s.get t).bb
def TS.b4 (s:TS):List (Nat×List AV):=s.vs.map fun p=>(p.1,cu (hg s p.1 0 p.2))
def iE (s:TS):Bool:=match s.get de with
 | .gw _ _ _ _=>false
 | _=>true
def gM [Z:FZ] (s:TS):List Blk:=match iE s with
 | true=>[]
 | false=>Z.bs.map bK
def TS.fV [FZ] (s:TS):List Blk:=(List.range s.aT).map fun b=>(s.get (br b)).eJ
def TS.al [FZ] (n:Nat) (s:TS):St:=⟨s.tT n,s.b4,s.fV++gM s⟩
def Fits [Z:FZ] (s:TS):Prop:=
 (∀V ids n h,s.get de= .gw V ids n h→jj Z.ws ids Z.bs∧view Z.ws ids Z.bs=V∧ ∀id xs,s.get fC= .new id xs→id<Z.bs.length∧Z.bs.getD id []=xs∧ ∀j:Nat,ids[j]?≠some id)
theorem Fits.congr [FZ] {s s':TS} (h:Fits s) (e: ∀k,1000000≤k→k<1000010→s'.get k=s.get k):Fits s':=fun V ids n h' lA=>by
 rw[e de (by unfold de;omega) (by unfold de;omega)] at lA
 obtain⟨h1,h2,bg⟩:=h V ids n h' lA
 refine⟨h1,h2,fun id xs hi=>bg id xs ?_⟩
 rw[←hi,e fC (by unfold fC;omega) (by unfold fC;omega)]
theorem Fits.none [FZ] {s:TS} (h:iE s=true):Fits s:=fun V ids n h' lA=>by
 unfold iE at h;rw[lA] at h;cases h
theorem gN (k:Nat) (v:TV) (r:List (Nat×TV)) (t:Nat) (d:TV):gF ((k,v)::r) t d=if k=t then v else gF r t d:=by
 show(match Nat.beq k t with
  | true=>v
  | false=>gF r t d)=_
 by_cases h:k=t
 ·subst h;rw[Nat.beq_refl,if_pos rfl]
 ·rw[if_neg h]
  cases hb:Nat.beq k t with
  | true=>exact absurd (Nat.eq_of_beq_eq_true hb) h
  | false=>rfl
theorem uO (A B:List (Nat×TV)) (t:Nat) (d:TV):gF (A++B) t d=gF A t (gF B t d):=by
 induction A with
 | nil=>rfl
 | cons p r bn=>obtain⟨k,v⟩:=p;rw[List.cons_append,gN,gN,bn]
theorem sP {A:List (Nat×TV)} {t:Nat} {d:TV} (h: ∀v,(t,v) ∉ A):gF A t d=d:=by
 induction A with
 | nil=>rfl
 | cons p r bn=>
  obtain⟨k,v⟩:=p
  rw[gN,if_neg,bn fun w hw=>h w (List.mem_cons_of_mem _ hw)]
  rintro rfl;exact h v (List.mem_cons_self ..)
theorem TS.Gu (s:TS) (k:Nat) (v:TV) (t:Nat):(s.put k v).get t=if k=t then v else s.get t:=gN ..
inductive aw:Type 1 where
 | ke (ex:Exit) (s:TS)
 | ha
 | no
 | p (φ:Prop) (t:aw)
 | jr (φ:Prop) (t:aw)
 | im (b:dD) (s:TS) (x y:aw)
 | two (x y:aw)
 | gV (x:aw) (dS:List Prop) (b:dD) (y:aw)
 | all (α:Type) (f:α→aw)
 | eq {α:Type} (a b:α) (t:aw)
def pX:List Prop→Prop
 | []=>True
 | φ::r=>match r with
  | []=>φ
  | r=>φ∧pX r
theorem Ml: ∀{l:List Prop},(∀φ∈l,φ)→pX l
 | [],_=>trivial
 | [φ],h=>h φ (by simp)
 | φ::ψ::r,h=>⟨h φ (by simp),Ml (l:=ψ::r) fun x hx=>h x (List.mem_cons_of_mem _ hx)⟩
def wm (dS:List Prop):dD→List Prop
 | .t=>dS
 | b=>dS++[b.den=true]
def y2 (dS:List Prop) (b:dD):Prop:=pX (wm dS b)
theorem Xd {dS:List Prop} {b:dD} (h: ∀φ∈dS,φ) (hb:b.den=true):y2 dS b:=by
 unfold y2
 refine Ml fun φ ek=> ?_
 unfold wm at ek
 split at ek
 ·exact h φ ek
 ·rcases List.mem_append.1 ek with q | q
  ·exact h φ q
  ·rw[List.mem_singleton.1 q];exact hb
def aw.den:aw→(Exit→TS→Prop)→Prop
 | .ke ex s,R=>R ex s
 | .ha,_=>True
 | .no,_=>False
 | .p φ t,R=>φ∧t.den R
 | .jr φ t,R=>φ→t.den R
 | .im b _ x y,R=>(b.den=true→x.den R)∧(b.den=false→y.den R)
 | .two x y,R=>x.den R∧y.den R
 | .gV x dS b y,R=>x.den R∧(y2 dS b→y.den R)
 | .all _ f,R=> ∀a,(f a).den R
 | .eq a b t,R=>a=b∧t.den R
def aw.bind:aw→(Exit→TS→aw)→aw
 | .ke ex s,K=>K ex s
 | .ha,_=> .ha
 | .no,_=> .no
 | .p φ t,K=> .p φ (t.bind K)
 | .jr φ t,K=> .jr φ (t.bind K)
 | .im b s x y,K=> .im b s (x.bind K) (y.bind K)
 | .two x y,K=> .two (x.bind K) (y.bind K)
 | .gV x dS b y,K=> .gV (x.bind K) dS b (y.bind K)
 | .all α f,K=> .all α fun a=>(f a).bind K
 | .eq a b t,K=> .eq a b (t.bind K)
theorem aw.VG (t:aw) (K:Exit→TS→aw) (R:Exit→TS→Prop):(t.bind K).den R=t.den fun ex s=>(K ex s).den R:=by
 induction t with
 | ke ex s=>rfl
 | ha=>rfl
 | no=>rfl
 | p φ t bn=>simp only[aw.bind,aw.den,bn]
 | jr φ t bn=>simp only[aw.bind,aw.den,bn]
 | im b s x y hj gU=>simp only[aw.bind,aw.den,hj,gU]
 | two x y hj gU=>simp only[aw.bind,aw.den,hj,gU]
 | gV x dS b y hj gU=>simp only[aw.bind,aw.den,hj,gU]
 | all α f bn=>simp only[aw.bind,aw.den,bn]
 | eq a b t bn=>simp only[aw.bind,aw.den,bn]
theorem aw.qR {t:aw} {R yJ:Exit→TS→Prop} (h:t.den R) (k: ∀ex s,R ex s→yJ ex s):t.den yJ:=by
 induction t with
 | ke ex s=>exact k _ _ h
 | ha=>trivial
 | no=>exact h
 | p φ t bn=>exact⟨h.1,bn h.2⟩
 | jr φ t bn=>exact fun q=>bn (h q)
 | im b s x y hj gU=>exact⟨fun q=>hj (h.1 q),fun q=>gU (h.2 q)⟩
 | two x y hj gU=>exact⟨hj h.1,gU h.2⟩
 | gV x dS b y hj gU=>exact⟨hj h.1,fun q=>gU (h.2 q)⟩
 | all α f bn=>exact fun a=>bn a (h a)
 | eq a b t bn=>exact⟨h.1,bn h.2⟩
inductive fx:Type 1 where
 | ha
 | p (φ:Prop)
 | and (a b:fx)
 | jr (φ:Prop) (c:fx)
 | all (α:Type) (f:α→fx)
def fx.and' (a b:fx):fx:=match a with
 | .ha=>b
 | a=>match b with
  | .ha=>a
  | b=> .and a b
def fx.w0 (φ:Prop) (c:fx):fx:=match c with
 | .ha=> .ha
 | c=> .jr φ c
def fx.den:fx→Prop
 | .ha=>True
 | .p φ=>φ
 | .and a b=>a.den∧b.den
 | .jr φ c=>φ→c.den
 | .all _ f=> ∀a,(f a).den
theorem fx.Bs (a b:fx):(fx.and' a b).den↔a.den∧b.den:=by
 cases a<;>cases b<;>simp[fx.and',fx.den]
theorem fx.CO (φ:Prop) (c:fx):(fx.w0 φ c).den↔(φ→c.den):=by
 cases c<;>simp[fx.w0,fx.den]
def fx.fact (dS:List Prop) (b:dD) (c:fx):fx:=match wm dS b with
 | []=>c
 | φ::r=> .w0 (pX (φ::r)) c
theorem fx.Xe (dS:List Prop) (b:dD) (c:fx):(fx.fact dS b c).den↔(y2 dS b→c.den):=by
 unfold fx.fact y2
 split
 ·rename_i h;rw[h];simp[pX]
 ·rename_i h;rw[h];exact fx.CO _ _
def aw.np:aw→fx
 | .ke _ _=> .ha
 | .ha=> .ha
 | .no=> .p False
 | .p φ t=> .and' (.p φ) t.np
 | .jr φ t=> .w0 φ t.np
 | .im b _ x y=> .and' (.w0 (b.den=true) x.np) (.w0 (b.den=false) y.np)
 | .two x y=> .and' x.np y.np
 | .gV x dS b y=> .and' x.np (.fact dS b y.np)
 | .all α f=> .all α fun a=>(f a).np
 | .eq _ _ t=>t.np
inductive qI:Type 1 where
 | u
 | v {α:Type} (a:α) (t:qI)
 | n (a b:qI)
 | f {α:Type} (g:α→qI)
def aw.lhs:aw→qI
 | .ke _ _ | .ha | .no=> .u
 | .p _ t | .jr _ t=>t.lhs
 | .im _ _ x y | .two x y | .gV x _ _ y=> .n x.lhs y.lhs
 | .all _ f=> .f fun a=>(f a).lhs
 | .eq a _ t=> .v a t.lhs
def aw.rhs:aw→qI
 | .ke _ _ | .ha | .no=> .u
 | .p _ t | .jr _ t=>t.rhs
 | .im _ _ x y | .two x y | .gV x _ _ y=> .n x.rhs y.rhs
 | .all _ f=> .f fun a=>(f a).rhs
 | .eq _ b t=> .v b t.rhs
theorem aw.full {t:aw} (h:t.np.den) (e:t.lhs=t.rhs):t.den fun _ _=>True:=by
 induction t with
 | ke ex s=>trivial
 | ha=>trivial
 | no=>exact h
 | p φ t bn=>
  have h:=(fx.Bs _ _).1 h
  exact⟨h.1,bn h.2 e⟩
 | jr φ t bn=>exact fun q=>bn ((fx.CO _ _).1 h q) e
 | im b s x y hj gU=>
  have h:=(fx.Bs _ _).1 h
  injection e with ax e2
  exact⟨fun q=>hj ((fx.CO _ _).1 h.1 q) ax,fun q=>gU ((fx.CO _ _).1 h.2 q) e2⟩
 | two x y hj gU=>
  have h:=(fx.Bs _ _).1 h
  injection e with ax e2
  exact⟨hj h.1 ax,gU h.2 e2⟩
 | gV x dS b y hj gU=>
  have h:=(fx.Bs _ _).1 h
  injection e with ax e2
  exact⟨hj h.1 ax,fun q=>gU ((fx.Xe _ _ _).1 h.2 q) e2⟩
 | all α f bn=>
  injection e with _ e
  exact fun a=>bn a (h a) (congrFun e a)
 | eq a b t bn=>
  injection e with _ ax e2
  exact⟨ax,bn h e2⟩
def Env.wd (W:World):Env:={w:=W,PA:=fun c=>c<W.heap.size,PF:=fun c=>c<W.heap.size∧Plain W c,m:=fun _=>none,a6:=fun _=>0,sz:=fun _=>0,cp:=fun _=>0,mL:=fun _=>none}
theorem SimH.Om {E:Env} {H:List Blk} (hs:SimH E H) {c:Nat} (h:E.fl c):Plain E.w c:=by
 obtain⟨b,hb⟩:=h
 obtain⟨_,aj,ty,_,_,q,_⟩:=hs.heap b c hb
 exact⟨aj,ty,q⟩
theorem ey.wd {E:Env} (an:SimH E []) (bB: ∀t,E.mL t=none) {a:AV} {v:Value} (h:ey E a v):ey (Env.wd E.w) a v:=by
 have mf: ∀a v,aL E.w E.PA E.PF a v→aL E.w (fun c=>c<E.w.heap.size) (fun c=>c<E.w.heap.size∧Plain E.w c) a v:=fun a v k=>k.mono (fun _ _=>rfl) (fun _ _=>rfl) an.du (fun c hc=>⟨an.du c (an.dm c hc),an.fg c hc⟩)
 have hm:=fun b=>an.fresh b (Nat.zero_le _)
 cases a with
 | ref b g off n full=>
  rcases h with⟨h,_⟩ | ⟨_,h⟩
  ·rw[(hm b).2] at h;cases h
  ·rcases h with⟨h,_⟩ | ⟨c,cap,h,_⟩<;>rw[(hm b).1] at h<;>cases h
 | ptr b g r c=>
  rcases h with⟨h,_⟩ | ⟨_,bl,h,_⟩
  ·rw[(hm b).2] at h;cases h
  ·rw[(hm b).1] at h;cases h
 | e4 t c=>obtain⟨bl,h,_⟩:=h;rw[bB t] at h;cases h
 | _=>exact mf _ _ h
theorem bQ.wd {E:Env} (an:SimH E []) (bB: ∀t,E.mL t=none) {a:AV} {v:Value} (h:bQ E a v):bQ (Env.wd E.w) a v:=by
 by_cases hf: ∃f caps,a= .fn f caps
 ·obtain⟨f,caps,rfl⟩:=hf
  obtain⟨vs,e,ab⟩:=h
  exact⟨vs,e,ab.mono fun _ _ k=>k.wd an bB⟩
 ·rw[pQ fun f c e=>hf ⟨f,c,e⟩] at h ⊢
  exact h.wd an bB
theorem V2.wd {E:Env} (an:SimH E []) (bB: ∀t,E.mL t=none) {a:AV} {v:Value} (h:V2 E a v):V2 (Env.wd E.w) a v:=by
 by_cases hf: ∃l,a= .agg l
 ·obtain⟨l,rfl⟩:=hf
  obtain⟨vs,e,ab⟩:=h
  exact⟨vs,e,ab.mono fun _ _ k=>k.wd an bB⟩
 ·rw[n6 fun l e=>hf ⟨l,e⟩] at h ⊢
  exact h.wd an bB
def Rows (w:World) (A:Option Addr) (sz:Nat) (rows:List (List AV)):Prop:=rows=[]∨ ∃c o,A=some ⟨c,o,none⟩∧c<w.heap.size∧ ∀(i j:Nat) (row:List AV) (a:AV),rows[i]?=some row→row[j]?=some a→ ∃u,w.cell? ⟨c,o+(i*sz+j),none⟩=some u∧bQ (Env.wd w) a u
def b_ (f:Nat→Nat):Nat→Nat
 | 0=>0
 | n+1=>b_ f n+f n
theorem La {f:Nat→Nat} {c:Nat}: ∀{n:Nat},(∀i,i<n→f i=c)→b_ f n=n*c
 | 0,_=>by simp[b_]
 | n+1,h=>by
  show b_ f n+f n=_
  rw[La fun i hi=>h i (by omega),h n (by omega),Nat.succ_mul]
theorem Ep {f:Nat→Nat}: ∀{n k:Nat},k≤n→b_ f k≤b_ f n
 | 0,k,h=>by obtain rfl:k=0:=by omega
             exact Nat.le_refl _
 | n+1,k,h=>by
  by_cases e:k=n+1
  ·subst e;exact Nat.le_refl _
  ·exact Nat.le_trans (Ep (n:=n) (by omega)) (Nat.le_add_right _ _)
inductive dJ (w:World) (S:Nat→Prop):aH→Nat→Value→Prop where
 | int (n:Int):dJ w S .int 1 (.int .i64 n)
 | bool (b:Bool):dJ w S .bool 1 (.bool b)
 | aJ {e:aH} {n cap:Nat} {A:Option Addr} {bW:Nat→Nat→Nat} {vs:Nat→Nat→Value} (h1:n≤cap∧n≤4611686018427387904)
   (hc:0<n→ ∃c o aj ty,A=some ⟨c,o,none⟩∧S c∧w.heap[c]?=some (.cells aj ty (0,0))∧ ∀i j,i<n→j<e.bR.length→aj[o+(i*e.bR.length+j)]?=some (vs i j))
   (ai: ∀i j bT,i<n→e.bR[j]?=some bT→dJ w S bT (bW i j) (vs i j)):dJ w S (.l e) (b_ (fun i=>b_ (bW i) e.bR.length) n) (.slice A n cap)
theorem dJ.nI {w:World} {S:Nat→Prop} {e:aH} {m:Nat} {n:Int} (h:dJ w S e m (.int .i64 n)):e= .int∧m=1:=by cases h;exact⟨rfl,rfl⟩
theorem dJ.nn {w:World} {S:Nat→Prop} {e:aH} {m:Nat} {b:Bool} (h:dJ w S e m (.bool b)):e= .bool∧m=1:=by cases h;exact⟨rfl,rfl⟩
theorem dJ.of_int {w:World} {S:Nat→Prop} {m:Nat} {v:Value} (h:dJ w S .int m v):m=1∧ ∃n,v= .int .i64 n:=by cases h;exact⟨rfl,_,rfl⟩
theorem dJ.of_bool {w:World} {S:Nat→Prop} {m:Nat} {v:Value} (h:dJ w S .bool m v):m=1∧ ∃b,v= .bool b:=by cases h;exact⟨rfl,_,rfl⟩
theorem dJ.ox {w:World} {S:Nat→Prop} {e:aH} {m:Nat} {v:Value} (h:dJ w S (.l e) m v): ∃A n cap,v= .slice A n cap:=by cases h;exact⟨_,_,_,rfl⟩
theorem dJ.sub {w:World} {S S':Nat→Prop} {e:aH} {m:Nat} {v:Value} (h:dJ w S e m v) (hs: ∀c,S c→S' c):dJ w S' e m v:=by
 induction h with
 | int n=>exact .int n
 | bool b=>exact .bool b
 | aJ h1 hc ai bn=>
  refine .aJ h1 (fun ad=> ?_) bn
  obtain⟨c,o,aj,ty,q1,q2,q3⟩:=hc ad
  exact⟨c,o,aj,ty,q1,hs c q2,q3⟩
def nk (a b:Option Value):Prop:=b=a∨(∃n m,a=some (.int .i64 n)∧b=some (.int .i64 m))∨ ∃x y,a=some (.bool x)∧b=some (.bool y)
theorem nk.trans {a b c:Option Value} (h:nk a b) (k:nk b c):nk a c:=by
 rcases h with rfl | ⟨n,m,rfl,rfl⟩ | ⟨x,y,rfl,rfl⟩
 ·exact k
 ·rcases k with rfl | ⟨jb,e0,h1,rfl⟩ | ⟨x,y,h1,rfl⟩
  ·exact .inr (.inl ⟨_,_,rfl,rfl⟩)
  ·exact .inr (.inl ⟨_,_,rfl,rfl⟩)
  ·cases h1
 ·rcases k with rfl | ⟨jb,e0,h1,rfl⟩ | ⟨kW,UH,h1,rfl⟩
  ·exact .inr (.inr ⟨_,_,rfl,rfl⟩)
  ·cases h1
  ·exact .inr (.inr ⟨_,_,rfl,rfl⟩)
structure dh (S:Nat→Prop) (w w':World):Prop where
 os:w'.os=w.os
 tape:w'.tape=w.tape
 output:w'.output=w.output
 size:w.heap.size≤w'.heap.size
 other: ∀c,c<w.heap.size→ ¬S c→w'.heap[c]?=w.heap[c]?
 rE: ∀(c:Nat) (aj:Array Value) (ty:TypeId),S c→w.heap[c]?=some (.cells aj ty (0,0))→ ∃bL:Array Value,w'.heap[c]?=some (.cells bL ty (0,0))∧bL.size=aj.size∧ ∀j:Nat,nk aj[j]? bL[j]?
theorem dh.refl (S:Nat→Prop) (w:World):dh S w w:=⟨rfl,rfl,rfl,Nat.le_refl _,fun _ _ _=>rfl,fun c aj ty _ h=>⟨aj,h,rfl,fun _=> .inl rfl⟩⟩
theorem st {w:World} {c:Nat} {o:Obj} (h:w.heap[c]?=some o):c<w.heap.size:=by
 rcases Nat.lt_or_ge c w.heap.size with h' | h'
 ·exact h'
 ·simp[Array.getElem?_eq_none h'] at h
theorem dh.trans {S:Nat→Prop} {a b c:World} (h:dh S a b) (k:dh S b c):dh S a c where
 os:=k.os.trans h.os
 tape:=k.tape.trans h.tape
 output:=k.output.trans h.output
 size:=Nat.le_trans h.size k.size
 other:=fun x hx hs=>(k.other x (Nat.lt_of_lt_of_le hx h.size) hs).trans (h.other x hx hs)
 rE:=fun x aj ty hs hx=>by
  obtain⟨Wx,q1,q2,q3⟩:=h.rE x aj ty hs hx
  obtain⟨we,cN,c5,fs⟩:=k.rE x Wx ty hs q1
  exact⟨we,cN,c5.trans q2,fun j=>(q3 j).trans (fs j)⟩
theorem dh.sub {S S':Nat→Prop} {w w':World} (h:dh S w w') (hs: ∀c,S c→S' c):dh S' w w' where
 os:=h.os
 tape:=h.tape
 output:=h.output
 size:=h.size
 other:=fun c hc ad=>h.other c hc fun k=>ad (hs c k)
 rE:=fun c aj ty hc hx=>by
  by_cases k:S c
  ·exact h.rE c aj ty k hx
  ·exact⟨aj,(h.other c (st hx) k).trans hx,rfl,fun _=> .inl rfl⟩
theorem dh.below {S:Nat→Prop} {w w':World} (h:RowKit.Below w.heap.size w w'):dh S w w':=
 ⟨h.os,h.tape,h.output,h.size,fun c hc _=>h.block c hc,fun c aj ty _ hx=>⟨aj,(h.block c (st hx)).trans hx,rfl,fun _=> .inl rfl⟩⟩
theorem dh.at {S:Nat→Prop} {w w':World} (h:dh S w w') {c:Nat} {aj:Array Value} {ty:TypeId} (hx:w.heap[c]?=some (.cells aj ty (0,0))): ∃bL:Array Value,w'.heap[c]?=some (.cells bL ty (0,0))∧bL.size=aj.size∧ ∀j:Nat,nk aj[j]? bL[j]?:=by
 by_cases k:S c
 ·exact h.rE c aj ty k hx
 ·exact⟨aj,(h.other c (st hx) k).trans hx,rfl,fun _=> .inl rfl⟩
theorem dJ.fv {w w':World} {S S':Nat→Prop} (hw:dh S' w w') {e:aH} {m:Nat} {v:Value} (h:dJ w S e m v):dJ w' S e m v:=by
 induction h with
 | int n=>exact .int n
 | bool b=>exact .bool b
 | @aJ e n cap A bW vs h1 hc ai bn=>
  by_cases ad:0<n
  ·obtain⟨c,o,aj,ty,cE,c4,bm,hv⟩:=hc ad
   obtain⟨bL,q1,q2,q3⟩:=hw.at bm
   have key: ∀i j,i<n→j<e.bR.length→ ∃u,bL[o+(i*e.bR.length+j)]?=some u:=fun i j hi af=>by
    rcases q3 (o+(i*e.bR.length+j)) with q | ⟨_,_,_,q⟩ | ⟨_,_,_,q⟩
    ·exact⟨_,q.trans (hv i j hi af)⟩
    ·exact⟨_,q⟩
    ·exact⟨_,q⟩
   refine .aJ (vs:=fun i j=>(bL[o+(i*e.bR.length+j)]?).getD undef) h1 (fun _=>⟨c,o,bL,ty,cE,c4,q1,fun i j hi af=> ?_⟩) fun i j bT hi af=> ?_
   ·obtain⟨u,hu⟩:=key i j hi af
    rw[hu];rfl
   ·have j_:j<e.bR.length:=(List.getElem?_eq_some_iff.1 af).1
    have hk:=ai i j bT hi af
    have uq:=hv i j hi j_
    show dJ w' S bT (bW i j) ((bL[o+(i*e.bR.length+j)]?).getD undef)
    rcases q3 (o+(i*e.bR.length+j)) with q | ⟨a,b,h8,lj⟩ | ⟨a,b,h8,lj⟩
    ·rw[q,uq];exact bn i j bT hi af
    ·rw[uq] at h8
     rw[Option.some.inj h8] at hk
     obtain⟨rfl,hm⟩:=hk.nI
     rw[lj,hm];exact .int b
    ·rw[uq] at h8
     rw[Option.some.inj h8] at hk
     obtain⟨rfl,hm⟩:=hk.nn
     rw[lj,hm];exact .bool b
  ·exact .aJ (vs:=vs) h1 (fun h=>absurd h ad) fun i j bT hi _=>absurd (Nat.lt_of_le_of_lt (Nat.zero_le _) hi) ad
theorem dh.head {S:Nat→Prop} {w w':World} (h:dh S w w') {c o:Nat} {aj:Array Value} {ty:TypeId} (hx:w.heap[c]?=some (.cells aj ty (0,0))) {A:Option Addr} {n cap:Nat} (hv:aj[o]?=some (.slice A n cap)):w'.cell? ⟨c,o,none⟩=some (.slice A n cap):=by
 obtain⟨bL,q1,q2,q3⟩:=h.at hx
 rcases q3 o with q | ⟨a,b,h8,_⟩ | ⟨a,b,h8,_⟩
 ·simp only[World.cell?,q1];rw[q];exact hv
 ·rw[hv] at h8;cases h8
 ·rw[hv] at h8;cases h8
theorem dh.setCell {S:Nat→Prop} {w:World} {c o:Nat} {aj:Array Value} {ty:TypeId} {v:Value} (hx:w.heap[c]?=some (.cells aj ty (0,0))) (c4:S c) (hv:nk aj[o]? (some v)):dh S w (w.setCell ⟨c,o,none⟩ v) where
 os:=rfl
 tape:=rfl
 output:=rfl
 size:=by simp
 other:=fun b _ hs=>RowKit.Below.heap_setCell _ _ _ _ (fun e=>by subst e;exact hs c4)
 rE:=fun b bL hF hs hb=>by
  by_cases e:b=c
  ·subst e
   rw[hx] at hb
   cases hb
   refine⟨aj.setIfInBounds o v,by simp[World.setCell,Array.getElem?_modify,hx],by simp,fun j=> ?_⟩
   rw[Array.getElem?_setIfInBounds]
   by_cases af:o=j
   ·subst af
    rw[if_pos rfl]
    split
    ·exact hv
    ·rename_i aN;rw[Array.getElem?_eq_none (by omega)];exact .inl rfl
   ·rw[if_neg af];exact .inl rfl
  ·exact⟨bL,by rw[RowKit.Below.heap_setCell _ _ _ _ e];exact hb,rfl,fun _=> .inl rfl⟩
structure jZ (w w':World) (c o n:Nat) (val:Nat→Value):Prop where
 os:w'.os=w.os
 tape:w'.tape=w.tape
 output:w'.output=w.output
 size:w'.heap.size=w.heap.size
 other: ∀b,b≠c→w'.heap[b]?=w.heap[b]?
 blk: ∀aj ty,w.heap[c]?=some (.cells aj ty (0,0))→ ∃bL:Array Value,w'.heap[c]?=some (.cells bL ty (0,0))∧bL.size=aj.size∧ ∀j,j<aj.size→bL[j]?=if o≤j∧j<o+n then some (val (j - o)) else aj[j]?
theorem jZ.refl (w:World) (c o:Nat) (val:Nat→Value):jZ w w c o 0 val:=
 ⟨rfl,rfl,rfl,rfl,fun _ _=>rfl,fun aj ty h=>⟨aj,h,rfl,fun j _=>by rw[if_neg (by omega)]⟩⟩
theorem jZ.snoc {w w':World} {c o n:Nat} {val:Nat→Value} (h:jZ w w' c o n val) {v:Value} (hv:v=val n):jZ w (w'.setCell ⟨c,o+n,none⟩ v) c o (n+1) val where
 os:=h.os
 tape:=h.tape
 output:=h.output
 size:=by rw[←h.size];simp
 other:=fun b hb=>by rw[RowKit.Below.heap_setCell _ _ _ _ hb];exact h.other b hb
 blk:=fun aj ty j8=>by
  obtain⟨bL,h1,h2,ay⟩:=h.blk aj ty j8
  refine⟨bL.setIfInBounds (o+n) v,?_,by simp[h2],fun j af=> ?_⟩
  ·simp[World.setCell,Array.getElem?_modify,h1]
  ·rw[Array.getElem?_setIfInBounds]
   by_cases e:o+n=j
   ·subst e
    rw[if_pos rfl,if_pos (by rw[h2];exact af),if_pos ⟨by omega,by omega⟩,hv]
    simp
   ·rw[if_neg e,ay j af]
    by_cases bg:o≤j∧j<o+n
    ·rw[if_pos bg,if_pos ⟨bg.1,by omega⟩]
    ·rw[if_neg bg,if_neg (by omega)]
theorem jZ.cell {w w':World} {c o n:Nat} {val:Nat→Value} (h:jZ w w' c o n val) {aj:Array Value} {ty:TypeId} (hw:w.heap[c]?=some (.cells aj ty (0,0))) {j:Nat} (af:j<aj.size): ∃u,w'.cell? ⟨c,j,none⟩=some u∧w'.frozen? ⟨c,j,none⟩=false:=by
 obtain⟨bL,h1,h2,ay⟩:=h.blk aj ty hw
 have ao:j<bL.size:=by omega
 exact⟨bL[j],by simp[World.cell?,h1,ao],by simp[World.frozen?,h1]⟩
theorem jZ.fv {w w':World} {c o n:Nat} {val:Nat→Value} {S:Nat→Prop} (h:jZ w w' c o n val) (c4:S c) (hk: ∀aj ty i,w.heap[c]?=some (.cells aj ty (0,0))→i<n→nk aj[o+i]? (some (val i))):dh S w w' where
 os:=h.os
 tape:=h.tape
 output:=h.output
 size:=by rw[h.size];exact Nat.le_refl _
 other:=fun b _ hs=>h.other b fun e=>by subst e;exact hs c4
 rE:=fun b aj ty hs hb=>by
  by_cases e:b=c
  ·subst e
   obtain⟨bL,h1,h2,ay⟩:=h.blk aj ty hb
   refine⟨bL,h1,h2,fun j=> ?_⟩
   rcases Nat.lt_or_ge j aj.size with af | af
   ·rw[ay j af]
    split
    ·rename_i hi
     have:=hk aj ty (j - o) hb (by omega)
     rw[show o+(j - o)=j by omega] at this
     exact this
    ·exact .inl rfl
   ·rw[Array.getElem?_eq_none (xs:=bL) (by omega),Array.getElem?_eq_none (xs:=aj) af];exact .inl rfl
  ·exact⟨aj,(h.other b e).trans hb,rfl,fun _=> .inl rfl⟩
theorem jZ.zR {w w':World} {o n:Nat} {val:Nat→Value} {S:Nat→Prop} (h:jZ w w' w.heap.size o n val):dh S w w' where
 os:=h.os
 tape:=h.tape
 output:=h.output
 size:=by rw[h.size];exact Nat.le_refl _
 other:=fun b hb _=>h.other b (by omega)
 rE:=fun b aj ty _ hb=>⟨aj,(h.other b (by have:=st hb;omega)).trans hb,rfl,fun _=> .inl rfl⟩
def ql (k:Int) (i:Nat):Value:= .int .i64 (k+i)
def L7 (k:Int) (i:Nat):Value:= .bool ((k+i)%3==0)
theorem dJ.cells {w:World} {S:Nat→Prop} {e:aH} {m n cap:Nat} {A:Option Addr} (h:dJ w S (.l e) m (.slice A n cap)) (ad:0<n):
  ∃(c o:Nat) (aj:Array Value) (ty:TypeId) (bW:Nat→Nat→Nat),A=some ⟨c,o,none⟩∧S c∧w.heap[c]?=some (.cells aj ty (0,0))∧m=b_ (fun i=>b_ (bW i) e.bR.length) n∧(0<e.bR.length→o+n*e.bR.length≤aj.size)∧
   ∀i j bT,i<n→e.bR[j]?=some bT→ ∃u,aj[o+(i*e.bR.length+j)]?=some u∧dJ w S bT (bW i j) u:=by
 cases h with
 | @aJ _ _ _ _ bW vs h1 hc ai=>
  obtain⟨c,o,aj,ty,cE,c4,bm,hv⟩:=hc ad
  refine⟨c,o,aj,ty,bW,cE,c4,bm,rfl,fun ao=> ?_,fun i j bT hi af=>⟨_,hv i j hi (List.getElem?_eq_some_iff.1 af).1,ai i j bT hi af⟩⟩
  have:=hv (n - 1) (e.bR.length - 1) (by omega) (by omega)
  have aN:=(Array.getElem?_eq_some_iff.1 this).1
  have ax:(n - 1)*e.bR.length+e.bR.length=n*e.bR.length:=by
   rw[←Nat.succ_mul];congr 1;omega
  omega
theorem dJ.zero {w:World} {S:Nat→Prop} {e:aH} {m cap:Nat} {A:Option Addr} (h:dJ w S (.l e) m (.slice A 0 cap)):m=0:=by
 cases h;rfl
theorem dJ.elem {w:World} {S:Nat→Prop} {e:aH} {m n cap:Nat} {A:Option Addr} (h:dJ w S (.l e) m (.slice A n cap)):
  n≤4611686018427387904∧ ∃(c o:Nat) (bW:Nat→Nat→Nat),(0<n→A=some ⟨c,o,none⟩)∧m=b_ (fun i=>b_ (bW i) e.bR.length) n∧
   (∀i j bT,i<n→e.bR[j]?=some (.l bT)→ ∃A' jb qQ,∀wr,dh S w wr→wr.cell? ⟨c,o+(i*e.bR.length+j),none⟩=some (.slice A' jb qQ)∧dJ wr S (.l bT) (bW i j) (.slice A' jb qQ))∧
   (∀i j,i<n→e.bR[j]?=some .int→bW i j=1∧ ∀wr,dh S w wr→ ∃u,wr.cell? ⟨c,o+(i*e.bR.length+j),none⟩=some u∧wr.frozen? ⟨c,o+(i*e.bR.length+j),none⟩=false∧ ∀x,dh S w (wr.setCell ⟨c,o+(i*e.bR.length+j),none⟩ (.int .i64 x)))∧
   ∀i j,i<n→e.bR[j]?=some .bool→bW i j=1∧ ∀wr,dh S w wr→ ∃u,wr.cell? ⟨c,o+(i*e.bR.length+j),none⟩=some u∧wr.frozen? ⟨c,o+(i*e.bR.length+j),none⟩=false∧ ∀x,dh S w (wr.setCell ⟨c,o+(i*e.bR.length+j),none⟩ (.bool x)):=by
 refine⟨by cases h with | aJ h1=>exact h1.2,?_⟩
 by_cases ad:0<n
 ·obtain⟨c,o,aj,ty,bW,cE,c4,bm,hm,_,hv⟩:=h.cells ad
  refine⟨c,o,bW,fun _=>cE,hm,fun i j bT hi af=> ?_,fun i j hi af=> ?_,fun i j hi af=> ?_⟩
  ·obtain⟨u,hu,hk⟩:=hv i j _ hi af
   obtain⟨A',jb,qQ,rfl⟩:=hk.ox
   exact⟨A',jb,qQ,fun wr hw=>⟨hw.head bm hu,hk.fv hw⟩⟩
  ·obtain⟨u,hu,hk⟩:=hv i j _ hi af
   obtain⟨h1,aA,rfl⟩:=hk.of_int
   refine⟨h1,fun wr hw=> ?_⟩
   obtain⟨bL,q1,q2,q3⟩:=hw.at bm
   have U:=q3 (o+(i*e.bR.length+j))
   rw[hu] at U
   have hs: ∃y,bL[o+(i*e.bR.length+j)]?=some (.int .i64 y):=by
    rcases U with q | ⟨_,y,_,q⟩ | ⟨_,_,q,_⟩
    ·exact⟨_,q⟩
    ·exact⟨_,q⟩
    ·cases q
   obtain⟨y,aS⟩:=hs
   exact⟨_,by simp only[World.cell?,q1];exact aS,by simp[World.frozen?,q1],fun x=>hw.trans (dh.setCell q1 c4 (by rw[aS];exact .inr (.inl ⟨_,_,rfl,rfl⟩)))⟩
  ·obtain⟨u,hu,hk⟩:=hv i j _ hi af
   obtain⟨h1,aA,rfl⟩:=hk.of_bool
   refine⟨h1,fun wr hw=> ?_⟩
   obtain⟨bL,q1,q2,q3⟩:=hw.at bm
   have U:=q3 (o+(i*e.bR.length+j))
   rw[hu] at U
   have hs: ∃y,bL[o+(i*e.bR.length+j)]?=some (.bool y):=by
    rcases U with q | ⟨_,_,q,_⟩ | ⟨_,y,_,q⟩
    ·exact⟨_,q⟩
    ·cases q
    ·exact⟨_,q⟩
   obtain⟨y,aS⟩:=hs
   exact⟨_,by simp only[World.cell?,q1];exact aS,by simp[World.frozen?,q1],fun x=>hw.trans (dh.setCell q1 c4 (by rw[aS];exact .inr (.inr ⟨_,_,rfl,rfl⟩)))⟩
 ·obtain rfl:n=0:=by omega
  exact⟨0,0,fun _ _=>0,fun h=>absurd h ad,h.zero,fun i j bT hi=>by omega,fun i j hi=>by omega,fun i j hi=>by omega⟩
def tB (P:Program) (f:FuncId) (e:aH):Prop:= ∀(w:World) (S:Nat→Prop) (m:Nat) (v:Value) (k:Int),dJ w S e m v→0≤k→k+m≤4611686018427387904→
 Calls P f #[v,.int .i64 k] w fun iR w'=>iR= .returned (.int .i64 (k+m))∧dh S w w'
open Go Go.RowKit
set_option maxHeartbeats 1000000
set_option maxRecDepth 100000
theorem C9 (A:Option Addr) (c o n cap:Nat) (k:Int) (w:World) (aj:Array Value) (ty:TypeId) (cE:0<n→A=some ⟨c,o,none⟩∧w.heap[c]?=some (.cells aj ty (0,0))∧o+n≤aj.size) (au:0≤k) (h1:k+n≤4611686018427387904):
    Calls Tryz.prog 58 #[.slice A n cap,.int .i64 k] w fun e w'=>e= .returned (.int .i64 (k+n))∧jZ w w' c o n (ql k):=by
  have k0:=Lib.hid cE;clear cE
  go_enter Tryz.func58,Tryz.ntmps58
  go_wp2
  go_loopw [1,5] (fun q i wr=> ∃j:Nat,j≤n∧i= .int .i64 j∧q= .int .i64 (k+j)∧jZ w wr c o j (ql k)) (fun _ i _=>n - (intOf i).toNat)
  case atStart=>exact⟨0,Nat.zero_le _,rfl,by simp,.refl _ _ _ _⟩
  case round=>
    obtain⟨j,af,rfl,rfl,hm⟩:=hrel
    have gK:=Lib.hid hm;clear hm
    by_cases aN:j<n
    · obtain⟨ax,hw,ad⟩:=k0.out (by omega)
      have ic:=Lib.hid hw;clear hw
      subst ax
      obtain⟨u,hu,hf⟩:=gK.out.cell ic.out (j:=o+j) (by omega)
      go_wp2
      go_roundw
      case rel=>exact⟨j+1,by omega,by go_num,by go_num,gK.out.snoc rfl⟩
      case measure=>simp[intOf];omega
    · have e:j=n:=by omega
      subst e
      go_wp2
      go_ret
      exact⟨rfl,gK.out⟩
theorem QX (A:Option Addr) (c o n cap:Nat) (k:Int) (w:World) (aj:Array Value) (ty:TypeId) (cE:0<n→A=some ⟨c,o,none⟩∧w.heap[c]?=some (.cells aj ty (0,0))∧o+n≤aj.size) (au:0≤k) (h1:k+n≤4611686018427387904):
    Calls Tryz.prog 61 #[.slice A n cap,.int .i64 k] w fun e w'=>e= .returned (.int .i64 (k+n))∧jZ w w' c o n (L7 k):=by
  have k0:=Lib.hid cE;clear cE
  go_enter Tryz.func61,Tryz.ntmps61
  go_wp2
  go_loopw [1,5] (fun q i wr=> ∃j:Nat,j≤n∧i= .int .i64 j∧q= .int .i64 (k+j)∧jZ w wr c o j (L7 k)) (fun _ i _=>n - (intOf i).toNat)
  case atStart=>exact⟨0,Nat.zero_le _,rfl,by simp,.refl _ _ _ _⟩
  case round=>
    obtain⟨j,af,rfl,rfl,hm⟩:=hrel
    have gK:=Lib.hid hm;clear hm
    by_cases aN:j<n
    · obtain⟨ax,hw,ad⟩:=k0.out (by omega)
      have ic:=Lib.hid hw;clear hw
      subst ax
      obtain⟨u,hu,hf⟩:=gK.out.cell ic.out (j:=o+j) (by omega)
      go_wp2
      go_roundw
      case rel=>exact⟨j+1,by omega,by go_num,by go_num,gK.out.snoc rfl⟩
      case measure=>simp[intOf];omega
    · have e:j=n:=by omega
      subst e
      go_wp2
      go_ret
      exact⟨rfl,gK.out⟩
theorem QY (A:Option Addr) (c o n cap:Nat) (k:Int) (w:World) (aj:Array Value) (ty:TypeId) (cE:0<n→A=some ⟨c,o,none⟩∧w.heap[c]?=some (.cells aj ty (0,0))∧o+n*2≤aj.size) (au:0≤k) (h1:k+2*n≤4611686018427387904):
    Calls Tryz.prog 103 #[.slice A n cap,.int .i64 k] w fun e w'=>e= .returned (.int .i64 (k+2*n))∧jZ w w' c o (n*2) (ql k):=by
  have k0:=Lib.hid cE;clear cE
  go_enter Tryz.func103,Tryz.ntmps103
  go_wp2
  go_loopw [1,5] (fun q i wr=> ∃j:Nat,j≤n∧i= .int .i64 j∧q= .int .i64 (k+2*j)∧jZ w wr c o (j*2) (ql k)) (fun _ i _=>n - (intOf i).toNat)
  case atStart=>exact⟨0,Nat.zero_le _,rfl,by simp,.refl _ _ _ _⟩
  case round=>
    obtain⟨j,af,rfl,rfl,hm⟩:=hrel
    have gK:=Lib.hid hm;clear hm
    by_cases aN:j<n
    · obtain⟨ax,hw,ad⟩:=k0.out (by omega)
      have ic:=Lib.hid hw;clear hw
      subst ax
      obtain⟨Uo,Hj,zl⟩:=gK.out.cell ic.out (j:=o+j*2) (by omega)
      obtain⟨Up,qc,zm⟩:=gK.out.cell ic.out (j:=o+j*2+1) (by omega)
      go_wp2
      go_roundw
      case rel=>exact⟨j+1,by omega,by go_num,by go_num,by
        have:=((gK.out.snoc (v:= .int .i64 (k+2*j)) (by unfold ql;congr 1;omega)).snoc (v:= .int .i64 (k+2*j+1)) (by unfold ql;congr 1;omega))
        rw[show(j+1)*2=j*2+1+1 by omega];exact this⟩
      case measure=>simp[intOf];omega
    · have e:j=n:=by omega
      subst e
      go_wp2
      go_ret
      exact⟨rfl,gK.out⟩
theorem QZ (A:Option Addr) (c o n cap:Nat) (k:Int) (w:World) (aj:Array Value) (ty:TypeId) (cE:0<n→A=some ⟨c,o,none⟩∧w.heap[c]?=some (.cells aj ty (0,0))∧o+n*2≤aj.size) (au:0≤k) (h1:k+2*n≤4611686018427387904):
    Calls Tryz.prog 62 #[.slice A n cap,.int .i64 k] w fun e w'=>e= .returned (.int .i64 (k+2*n))∧jZ w w' c o (n*2) (ql k):=by
  have k0:=Lib.hid cE;clear cE
  go_enter Tryz.func62,Tryz.ntmps62
  go_wp2
  go_loopw [1,5] (fun q i wr=> ∃j:Nat,j≤n∧i= .int .i64 j∧q= .int .i64 (k+2*j)∧jZ w wr c o (j*2) (ql k)) (fun _ i _=>n - (intOf i).toNat)
  case atStart=>exact⟨0,Nat.zero_le _,rfl,by simp,.refl _ _ _ _⟩
  case round=>
    obtain⟨j,af,rfl,rfl,hm⟩:=hrel
    have gK:=Lib.hid hm;clear hm
    by_cases aN:j<n
    · obtain⟨ax,hw,ad⟩:=k0.out (by omega)
      have ic:=Lib.hid hw;clear hw
      subst ax
      obtain⟨Uo,Hj,zl⟩:=gK.out.cell ic.out (j:=o+j*2) (by omega)
      obtain⟨Up,qc,zm⟩:=gK.out.cell ic.out (j:=o+j*2+1) (by omega)
      go_wp2
      go_roundw
      case rel=>exact⟨j+1,by omega,by go_num,by go_num,by
        have:=((gK.out.snoc (v:= .int .i64 (k+2*j)) (by unfold ql;congr 1;omega)).snoc (v:= .int .i64 (k+2*j+1)) (by unfold ql;congr 1;omega))
        rw[show(j+1)*2=j*2+1+1 by omega];exact this⟩
      case measure=>simp[intOf];omega
    · have e:j=n:=by omega
      subst e
      go_wp2
      go_ret
      exact⟨rfl,gK.out⟩
open Go Go.RowKit
theorem dJ.flat {w:World} {S:Nat→Prop} {n1 e:aH} {L m n cap:Nat} {A:Option Addr} (Ht:n1= .int∨n1= .bool) (bB:e.bR=List.replicate L n1) (au:0<L) (h:dJ w S (.l e) m (.slice A n cap)):
    m=n*L∧(0<n→ ∃(c o:Nat) (aj:Array Value) (ty:TypeId),A=some ⟨c,o,none⟩∧S c∧w.heap[c]?=some (.cells aj ty (0,0))∧o+n*L≤aj.size∧ ∀q,q<n*L→ ∃u,aj[o+q]?=some u∧dJ w S n1 1 u):=by
  by_cases ad:0<n
  · obtain⟨c,o,aj,ty,bW,cE,c4,bm,hm,b3,hv⟩:=h.cells ad
    have ao:e.bR.length=L:=by rw[bB,List.length_replicate]
    rw[ao] at hm b3
    have af: ∀j,j<L→e.bR[j]?=some n1:=fun j af=>by rw[bB,List.getElem?_replicate,if_pos af]
    have one: ∀i j,i<n→j<L→bW i j=1∧ ∃u,aj[o+(i*L+j)]?=some u∧dJ w S n1 1 u:=fun i j hi iy=>by
      obtain⟨u,hu,hk⟩:=hv i j n1 hi (af j iy)
      rw[ao] at hu
      have:bW i j=1:=by
        rcases Ht with rfl | rfl
        · exact hk.of_int.1
        · exact hk.of_bool.1
      exact⟨this,u,hu,this▸hk⟩
    refine⟨?_,fun _=>⟨c,o,aj,ty,cE,c4,bm,b3 au,fun q U=> ?_⟩⟩
    · rw[hm]
      exact La fun i hi=>(La (c:=1) fun j af=>(one i j hi af).1).trans (Nat.mul_one _)
    · have h1:q / L<n:=(Nat.div_lt_iff_lt_mul au).2 U
      obtain⟨_,u,hu,hk⟩:=one (q / L) (q%L) h1 (Nat.mod_lt _ au)
      refine⟨u,?_,hk⟩
      rw[Nat.mul_comm,Nat.div_add_mod] at hu
      exact hu
  · obtain rfl:n=0:=by omega
    exact⟨by rw[h.zero];simp,fun h=>absurd h ad⟩
theorem dJ.same {w:World} {S:Nat→Prop} {u:Value} (h:dJ w S .int 1 u) (n:Int):nk (some u) (some (.int .i64 n)):=by
  obtain⟨_,m,rfl⟩:=h.of_int;exact .inr (.inl ⟨_,_,rfl,rfl⟩)
theorem dJ.afH {w:World} {S:Nat→Prop} {u:Value} (h:dJ w S .bool 1 u) (n:Bool):nk (some u) (some (.bool n)):=by
  obtain⟨_,m,rfl⟩:=h.of_bool;exact .inr (.inr ⟨_,_,rfl,rfl⟩)
theorem Db:tB Tryz.prog 58 (.l .int):=fun w S m v k h au h1=>by
  obtain⟨A,n,cap,rfl⟩:=h.ox
  obtain⟨rfl,hc⟩:=h.flat (.inl rfl) (L:=1) rfl (by omega)
  rw[Nat.mul_one] at h1 hc ⊢
  have h2:k+n≤4611686018427387904:=by exact h1
  have ai:(Ending.returned (.int .i64 (k+n)):Ending)= .returned (.int .i64 (k+((n:Nat):Int))):=by rfl
  by_cases ad:0<n
  · obtain⟨c,o,aj,ty,cE,c4,bm,av,hv⟩:=hc ad
    refine(C9 A c o n cap k w aj ty (fun _=>⟨cE,bm,av⟩) au h2).mono ?_
    rintro e w' ⟨rfl,hm⟩
    refine⟨ai,hm.fv c4 fun bL hF i hx hi=> ?_⟩
    rw[bm] at hx;cases hx
    obtain⟨u,hu,hk⟩:=hv i hi
    rw[hu];exact hk.same _
  · refine(C9 A w.heap.size 0 n cap k w #[] 0 (fun h=>absurd h ad) au h2).mono ?_
    rintro e w' ⟨rfl,hm⟩
    exact⟨ai,hm.zR⟩
theorem IX:tB Tryz.prog 61 (.l .bool):=fun w S m v k h au h1=>by
  obtain⟨A,n,cap,rfl⟩:=h.ox
  obtain⟨rfl,hc⟩:=h.flat (.inr rfl) (L:=1) rfl (by omega)
  rw[Nat.mul_one] at h1 hc ⊢
  have h2:k+n≤4611686018427387904:=by exact h1
  have ai:(Ending.returned (.int .i64 (k+n)):Ending)= .returned (.int .i64 (k+((n:Nat):Int))):=by rfl
  by_cases ad:0<n
  · obtain⟨c,o,aj,ty,cE,c4,bm,av,hv⟩:=hc ad
    refine(QX A c o n cap k w aj ty (fun _=>⟨cE,bm,av⟩) au h2).mono ?_
    rintro e w' ⟨rfl,hm⟩
    refine⟨ai,hm.fv c4 fun bL hF i hx hi=> ?_⟩
    rw[bm] at hx;cases hx
    obtain⟨u,hu,hk⟩:=hv i hi
    rw[hu];exact hk.afH _
  · refine(QX A w.heap.size 0 n cap k w #[] 0 (fun h=>absurd h ad) au h2).mono ?_
    rintro e w' ⟨rfl,hm⟩
    exact⟨ai,hm.zR⟩
theorem Q4:tB Tryz.prog 103 (.l .bG):=fun w S m v k h au h1=>by
  obtain⟨A,n,cap,rfl⟩:=h.ox
  obtain⟨rfl,hc⟩:=h.flat (.inl rfl) (L:=2) rfl (by omega)
  have h2:k+2*n≤4611686018427387904:=by omega
  have ai:(Ending.returned (.int .i64 (k+2*n)):Ending)= .returned (.int .i64 (k+((n*2:Nat):Int))):=by congr 2;omega
  by_cases ad:0<n
  · obtain⟨c,o,aj,ty,cE,c4,bm,av,hv⟩:=hc ad
    refine(QY A c o n cap k w aj ty (fun _=>⟨cE,bm,av⟩) au h2).mono ?_
    rintro e w' ⟨rfl,hm⟩
    refine⟨ai,hm.fv c4 fun bL hF i hx hi=> ?_⟩
    rw[bm] at hx;cases hx
    obtain⟨u,hu,hk⟩:=hv i hi
    rw[hu];exact hk.same _
  · refine(QY A w.heap.size 0 n cap k w #[] 0 (fun h=>absurd h ad) au h2).mono ?_
    rintro e w' ⟨rfl,hm⟩
    exact⟨ai,hm.zR⟩
theorem adO:tB Tryz.prog 62 (.l .ep):=fun w S m v k h au h1=>by
  obtain⟨A,n,cap,rfl⟩:=h.ox
  obtain⟨rfl,hc⟩:=h.flat (.inl rfl) (L:=2) rfl (by omega)
  have h2:k+2*n≤4611686018427387904:=by omega
  have ai:(Ending.returned (.int .i64 (k+2*n)):Ending)= .returned (.int .i64 (k+((n*2:Nat):Int))):=by congr 2;omega
  by_cases ad:0<n
  · obtain⟨c,o,aj,ty,cE,c4,bm,av,hv⟩:=hc ad
    refine(QZ A c o n cap k w aj ty (fun _=>⟨cE,bm,av⟩) au h2).mono ?_
    rintro e w' ⟨rfl,hm⟩
    refine⟨ai,hm.fv c4 fun bL hF i hx hi=> ?_⟩
    rw[bm] at hx;cases hx
    obtain⟨u,hu,hk⟩:=hv i hi
    rw[hu];exact hk.same _
  · refine(QZ A w.heap.size 0 n cap k w #[] 0 (fun h=>absurd h ad) au h2).mono ?_
    rintro e w' ⟨rfl,hm⟩
    exact⟨ai,hm.zR⟩
open Go Go.RowKit
theorem adK:tB Tryz.prog 60 (.l (.l .bool)):=fun w S m v k h au h1=>by
  obtain⟨A,n,cap,rfl⟩:=h.ox
  obtain⟨rc,c,o,bW,cE,rfl,ao,_,_⟩:=h.elem
  have H1:=Lib.hid h1;clear h1
  have k0:=Lib.hid cE;clear cE
  have ct:=Lib.hid ao;clear ao
  clear h
  go_enter Tryz.func60,Tryz.ntmps60
  go_wp2
  go_loopw [1,5] (fun q i wr=> ∃j:Nat,j≤n∧i= .int .i64 j∧q= .int .i64 (k+(b_ (fun i=>b_ (bW i) 1) j:Nat))∧dh S w wr) (fun _ i _=>n - (intOf i).toNat)
  case atStart=>exact⟨0,Nat.zero_le _,rfl,by simp[b_],.refl _ _⟩
  case round=>
    obtain⟨j,af,rfl,rfl,hm⟩:=hrel
    have gK:=Lib.hid hm;clear hm
    by_cases aN:j<n
    · obtain rfl:=k0.out (by omega)
      obtain⟨bD,bM,bj,h2⟩:=ct.out j 0 .bool aN rfl
      obtain⟨GN,wL⟩:=h2 wr gK.out
      rw[show o+(j*(aH.l aH.bool).bR.length+0)=o+j from by show o+(j*1+0)=_;omega] at GN
      have yw:=Lib.hid wL;clear wL h2
      have a_:b_ (fun i=>b_ (bW i) 1) (j+1)=b_ (fun i=>b_ (bW i) 1) j+bW j 0:=by show _+(0+bW j 0)=_;rw[Nat.zero_add]
      have hle:b_ (fun i=>b_ (bW i) 1) (j+1)≤b_ (fun i=>b_ (bW i) 1) n:=Ep (by omega)
      have mE:Hid (k+(b_ (fun i=>b_ (bW i) 1) j:Nat)+(bW j 0:Nat)≤4611686018427387904∧0≤k+(b_ (fun i=>b_ (bW i) 1) j:Nat)):=by
        unfold Hid
        have h1:k+(b_ (fun i=>b_ (bW i) 1) n:Nat)≤4611686018427387904:=H1.out
        omega
      have tA:=Lib.hid a_;clear a_ hle
      go_wp2_with (go_at_call 61;refine(IX _ S _ _ _ yw.out mE.out.2 mE.out.1).mono ?_)
      first
      | (rintro e bi rfl GI)
      | (rintro e bi ⟨rfl,GI⟩)
      have oS:=Lib.hid (gK.out.trans GI);clear GI
      go_wp2
      go_roundw
      case rel=>exact⟨j+1,by omega,by go_num,by rw[tA.out];congr 1;omega,oS.out⟩
      case measure=>simp[intOf];omega
    · have e:j=n:=by omega
      subst e
      go_wp2
      go_ret
      exact⟨rfl,gK.out⟩
theorem adP:tB Tryz.prog 59 (.l .eg):=fun w S m v k h au h1=>by
  obtain⟨A,n,cap,rfl⟩:=h.ox
  obtain⟨rc,c,o,bW,cE,rfl,ao,_,_⟩:=h.elem
  have H1:=Lib.hid h1;clear h1
  have k0:=Lib.hid cE;clear cE
  have ct:=Lib.hid ao;clear ao
  clear h
  go_enter Tryz.func59,Tryz.ntmps59
  go_wp2
  go_loopw [1,5] (fun q i wr=> ∃j:Nat,j≤n∧i= .int .i64 j∧q= .int .i64 (k+(b_ (fun i=>b_ (bW i) 5) j:Nat))∧dh S w wr) (fun _ i _=>n - (intOf i).toNat)
  case atStart=>exact⟨0,Nat.zero_le _,rfl,by simp[b_],.refl _ _⟩
  case round=>
    obtain⟨j,af,rfl,rfl,hm⟩:=hrel
    have gK:=Lib.hid hm;clear hm
    by_cases aN:j<n
    · obtain rfl:=k0.out (by omega)
      obtain⟨bD,bM,bj,Np⟩:=ct.out j 0 .int aN rfl
      have gI:=Lib.hid Np;clear Np
      obtain⟨bx,cb,bc,wy⟩:=ct.out j 1 .bG aN rfl
      have gJ:=Lib.hid wy;clear wy
      obtain⟨bw,n2,a8,oe⟩:=ct.out j 2 .bG aN rfl
      have fX:=Lib.hid oe;clear oe
      obtain⟨UQ,li,hZ,Nq⟩:=ct.out j 3 .int aN rfl
      have Lu:=Lib.hid Nq;clear Nq
      obtain⟨UR,Dd,kJ,Nr⟩:=ct.out j 4 .int aN rfl
      have Lv:=Lib.hid Nr;clear Nr
      have a_:b_ (fun i=>b_ (bW i) 5) (j+1)=b_ (fun i=>b_ (bW i) 5) j+(bW j 0+bW j 1+bW j 2+bW j 3+bW j 4):=by
        show _+(0+bW j 0+bW j 1+bW j 2+bW j 3+bW j 4)=_
        rw[Nat.zero_add]
      have hle:b_ (fun i=>b_ (bW i) 5) (j+1)≤b_ (fun i=>b_ (bW i) 5) n:=Ep (by omega)
      have mE:Hid (0≤k+(b_ (fun i=>b_ (bW i) 5) j:Nat)∧k+(b_ (fun i=>b_ (bW i) 5) j:Nat)+((bW j 0:Nat)+(bW j 1:Nat)+(bW j 2:Nat)+(bW j 3:Nat)+(bW j 4:Nat))≤4611686018427387904):=by
        unfold Hid
        have h1:k+(b_ (fun i=>b_ (bW i) 5) n:Nat)≤4611686018427387904:=H1.out
        omega
      have tA:=Lib.hid a_;clear a_ hle
      have GN:wr.cell? ⟨c,o+j*5,none⟩=some (.slice bD bM bj):=by
        have:=(gI.out wr gK.out).1
        rw[show o+(j*(aH.bR .eg).length+0)=o+j*5 from by show o+(j*5+0)=_;omega] at this
        exact this
      have mF:Hid (0≤k+(b_ (fun i=>b_ (bW i) 5) j:Nat)∧k+(b_ (fun i=>b_ (bW i) 5) j:Nat)+(bW j 0:Nat)≤4611686018427387904):=by unfold Hid;have:=mE.out;omega
      go_wp2_with (go_at_call 58;refine(Db wr S _ _ _ (gI.out wr gK.out).2 mF.out.1 mF.out.2).mono ?_)
      first
      | (rintro e bi rfl hb)
      | (rintro e bi ⟨rfl,hb⟩)
      have EJ:=Lib.hid (gK.out.trans hb);clear hb GN
      have o_:bi.cell? ⟨c,o+j*5+1,none⟩=some (.slice bx cb bc):=by
        have:=(gJ.out bi EJ.out).1
        rw[show o+(j*(aH.bR .eg).length+1)=o+j*5+1 from by show o+(j*5+1)=_;omega] at this
        exact this
      have mG:Hid (0≤k+(b_ (fun i=>b_ (bW i) 5) j:Nat)+(bW j 0:Nat)∧k+(b_ (fun i=>b_ (bW i) 5) j:Nat)+(bW j 0:Nat)+(bW j 1:Nat)≤4611686018427387904):=by unfold Hid;have:=mE.out;omega
      go_wp2_with (go_at_call 103;refine(Q4 bi S _ _ _ (gJ.out bi EJ.out).2 mG.out.1 mG.out.2).mono ?_)
      first
      | (rintro e bA rfl hb)
      | (rintro e bA ⟨rfl,hb⟩)
      have yF:=Lib.hid (EJ.out.trans hb);clear hb o_
      have q6:bA.cell? ⟨c,o+j*5+2,none⟩=some (.slice bw n2 a8):=by
        have:=(fX.out bA yF.out).1
        rw[show o+(j*(aH.bR .eg).length+2)=o+j*5+2 from by show o+(j*5+2)=_;omega] at this
        exact this
      have k1:Hid (0≤k+(b_ (fun i=>b_ (bW i) 5) j:Nat)+(bW j 0:Nat)+(bW j 1:Nat)∧k+(b_ (fun i=>b_ (bW i) 5) j:Nat)+(bW j 0:Nat)+(bW j 1:Nat)+(bW j 2:Nat)≤4611686018427387904):=by unfold Hid;have:=mE.out;omega
      go_wp2_with (go_at_call 103;refine(Q4 bA S _ _ _ (fX.out bA yF.out).2 k1.out.1 k1.out.2).mono ?_)
      first
      | (rintro e cO rfl hb)
      | (rintro e cO ⟨rfl,hb⟩)
      have EK:=Lib.hid (yF.out.trans hb);clear hb q6
      have YT:cO.cell? ⟨c,o+j*5+3,none⟩=some (.slice UQ li hZ):=by
        have:=(Lu.out cO EK.out).1
        rw[show o+(j*(aH.bR .eg).length+3)=o+j*5+3 from by show o+(j*5+3)=_;omega] at this
        exact this
      have Lw:Hid (0≤k+(b_ (fun i=>b_ (bW i) 5) j:Nat)+(bW j 0:Nat)+(bW j 1:Nat)+(bW j 2:Nat)∧k+(b_ (fun i=>b_ (bW i) 5) j:Nat)+(bW j 0:Nat)+(bW j 1:Nat)+(bW j 2:Nat)+(bW j 3:Nat)≤4611686018427387904):=by unfold Hid;have:=mE.out;omega
      go_wp2_with (go_at_call 58;refine(Db cO S _ _ _ (Lu.out cO EK.out).2 Lw.out.1 Lw.out.2).mono ?_)
      first
      | (rintro e jh rfl hb)
      | (rintro e jh ⟨rfl,hb⟩)
      have EL:=Lib.hid (EK.out.trans hb);clear hb YT
      have YU:jh.cell? ⟨c,o+j*5+4,none⟩=some (.slice UR Dd kJ):=by
        have:=(Lv.out jh EL.out).1
        rw[show o+(j*(aH.bR .eg).length+4)=o+j*5+4 from by show o+(j*5+4)=_;omega] at this
        exact this
      have Lx:Hid (0≤k+(b_ (fun i=>b_ (bW i) 5) j:Nat)+(bW j 0:Nat)+(bW j 1:Nat)+(bW j 2:Nat)+(bW j 3:Nat)∧k+(b_ (fun i=>b_ (bW i) 5) j:Nat)+(bW j 0:Nat)+(bW j 1:Nat)+(bW j 2:Nat)+(bW j 3:Nat)+(bW j 4:Nat)≤4611686018427387904):=by unfold Hid;have:=mE.out;omega
      go_wp2_with (go_at_call 58;refine(Db jh S _ _ _ (Lv.out jh EL.out).2 Lx.out.1 Lx.out.2).mono ?_)
      first
      | (rintro e lr rfl hb)
      | (rintro e lr ⟨rfl,hb⟩)
      have U6:=Lib.hid (EL.out.trans hb);clear hb YU
      go_wp2
      go_roundw
      case rel=>exact⟨j+1,by omega,by go_num,by rw[tA.out];congr 1;omega,U6.out⟩
      case measure=>simp[intOf];omega
    · have e:j=n:=by omega
      subst e
      go_wp2
      go_ret
      exact⟨rfl,gK.out⟩
theorem adM:tB Tryz.prog 63 (.l .held):=fun w S m v k h au h1=>by
  obtain⟨A,n,cap,rfl⟩:=h.ox
  obtain⟨rc,c,o,bW,cE,rfl,ao,hi,hb⟩:=h.elem
  have H1:=Lib.hid h1;clear h1
  have k0:=Lib.hid cE;clear cE
  have ct:=Lib.hid ao;clear ao
  have tx:=Lib.hid hi;clear hi
  have U1:=Lib.hid hb;clear hb
  clear h
  go_enter Tryz.func63,Tryz.ntmps63
  go_wp2
  go_loopw [1,5] (fun q i wr=> ∃j:Nat,j≤n∧i= .int .i64 j∧q= .int .i64 (k+(b_ (fun i=>b_ (bW i) 5) j:Nat))∧dh S w wr) (fun _ i _=>n - (intOf i).toNat)
  case atStart=>exact⟨0,Nat.zero_le _,rfl,by simp[b_],.refl _ _⟩
  case round=>
    obtain⟨j,af,rfl,rfl,hm⟩:=hrel
    have gK:=Lib.hid hm;clear hm
    by_cases aN:j<n
    · obtain rfl:=k0.out (by omega)
      obtain⟨ci,cC⟩:=tx.out j 0 aN rfl
      rw[show o+(j*(aH.bR .held).length+0)=o+j*5 from by show o+(j*5+0)=_;omega] at cC
      have cC:=Lib.hid cC
      obtain⟨ax,cA⟩:=tx.out j 1 aN rfl
      rw[show o+(j*(aH.bR .held).length+1)=o+j*5+1 from by show o+(j*5+1)=_;omega] at cA
      have cA:=Lib.hid cA
      obtain⟨hL,km⟩:=tx.out j 4 aN rfl
      rw[show o+(j*(aH.bR .held).length+4)=o+j*5+4 from by show o+(j*5+4)=_;omega] at km
      have km:=Lib.hid km
      obtain⟨dl,kl⟩:=U1.out j 3 aN rfl
      rw[show o+(j*(aH.bR .held).length+3)=o+j*5+3 from by show o+(j*5+3)=_;omega] at kl
      have kl:=Lib.hid kl
      obtain⟨bw,n2,a8,oe⟩:=ct.out j 2 .bool aN rfl
      rw[show o+(j*(aH.bR .held).length+2)=o+j*5+2 from by show o+(j*5+2)=_;omega] at oe
      have fX:=Lib.hid oe;clear oe
      have a_:b_ (fun i=>b_ (bW i) 5) (j+1)=b_ (fun i=>b_ (bW i) 5) j+(4+bW j 2):=by
        show _+(0+bW j 0+bW j 1+bW j 2+bW j 3+bW j 4)=_
        omega
      have hle:b_ (fun i=>b_ (bW i) 5) (j+1)≤b_ (fun i=>b_ (bW i) 5) n:=Ep (by omega)
      obtain⟨y,aS⟩: ∃y:Int,k+(b_ (fun i=>b_ (bW i) 5) j:Nat)=y:=⟨_,rfl⟩
      obtain⟨bq,lg⟩: ∃bq:Nat,bW j 2=bq:=⟨_,rfl⟩
      rw[lg] at fX
      have h1:k+(b_ (fun i=>b_ (bW i) 5) n:Nat)≤4611686018427387904:=H1.out
      have aiU:0≤y:=by omega
      have Hq:y+bq+4≤4611686018427387904:=by omega
      have tA:Hid (k+(b_ (fun i=>b_ (bW i) 5) (j+1):Nat)=y+1+1+bq+1+1):=by unfold Hid;omega
      rw[aS]
      clear a_ hle h1 ci ax dl hL aS lg
      obtain⟨Uo,Hj,zl,mH⟩:=cC.out wr gK.out
      obtain⟨Up,qc,zm,_⟩:=cA.out wr gK.out
      obtain⟨sE,_⟩:=fX.out wr gK.out
      have Vc:=Lib.hid mH;clear mH
      have LA:Hid (∀x kW,dh S w ((wr.setCell ⟨c,o+j*5,none⟩ (.int .i64 x)).setCell ⟨c,o+j*5+1,none⟩ (.int .i64 kW))):=fun x kW=>by
        obtain⟨_,_,_,l1⟩:=cA.out _ (Vc.out x)
        exact l1 kW
      have k1:Hid (0≤y+1+1∧y+1+1+(bq:Nat)≤4611686018427387904):=by unfold Hid;omega
      go_wp2_with (go_at_call 61;refine(IX _ S _ _ _ (fX.out _ (LA.out _ _)).2 k1.out.1 k1.out.2).mono ?_)
      first
      | (rintro e bi rfl hb)
      | (rintro e bi ⟨rfl,hb⟩)
      have oS:=Lib.hid ((LA.out _ _).trans hb);clear hb
      clear Hj zl qc zm sE
      obtain⟨ai2,aiS,aiI,vI⟩:=kl.out bi oS.out
      obtain⟨ai3,aiT,aiJ,_⟩:=km.out bi oS.out
      have Vd:=Lib.hid vI;clear vI
      have Ve:Hid (∀x kW,dh S w ((bi.setCell ⟨c,o+j*5+3,none⟩ (.bool x)).setCell ⟨c,o+j*5+4,none⟩ (.int .i64 kW))):=fun x kW=>by
        obtain⟨_,_,_,U_⟩:=km.out _ (Vd.out x)
        exact U_ kW
      go_wp2
      go_roundw
      case rel=>exact⟨j+1,by omega,by go_num,by rw[tA.out],Ve.out _ _⟩
      case measure=>simp[intOf];omega
    · have e:j=n:=by omega
      subst e
      go_wp2
      go_ret
      exact⟨rfl,gK.out⟩
open Go Go.RowKit
theorem adN (w:World) (S:Nat→Prop) (xJ cY:Int) (bD bx bw:Option Addr) (bM bj ag cb bc aW n2 a8 bq:Nat) (k:Int) (mH:dJ w S (.l .int) ag (.slice bD bM bj)) (l1:dJ w S (.l .eg) aW (.slice bx cb bc)) (ni:dJ w S (.l (.l .bool)) bq (.slice bw n2 a8)) (au:0≤k) (h1:k+(ag:Nat)+(aW:Nat)+(bq:Nat)≤4611686018427387904):
    Calls Tryz.prog 15 #[.agg #[.int .i64 xJ,.slice bD bM bj,.slice bx cb bc,.slice bw n2 a8,.int .i64 cY],.int .i64 k] w fun iR w'=>iR= .returned (.int .i64 (k+(ag:Nat)+(aW:Nat)+(bq:Nat)))∧dh S w w':=by
  have ic:Hid (dh S w (w.alloc (.cells #[.int .i64 xJ,.slice bD bM bj,.slice bx cb bc,.slice bw n2 a8,.int .i64 cY] 39))):=dh.below ((Below.refl _ _).alloc (Nat.le_refl _) _)
  have pO:Hid ((w.alloc (.cells #[.int .i64 xJ,.slice bD bM bj,.slice bx cb bc,.slice bw n2 a8,.int .i64 cY] 39)).heap[w.heap.size]?=some (.cells #[.int .i64 xJ,.slice bD bM bj,.slice bx cb bc,.slice bw n2 a8,.int .i64 cY] 39 (0,0))):=n8 _ _
  have gI:=Lib.hid mH;clear mH
  have gJ:=Lib.hid l1;clear l1
  have fX:=Lib.hid ni;clear ni
  go_enter Tryz.func15,Tryz.ntmps15
  have EI:Hid (dh S (w.alloc (.cells #[.int .i64 xJ,.slice bD bM bj,.slice bx cb bc,.slice bw n2 a8,.int .i64 cY] 39)) (w.alloc (.cells #[.int .i64 xJ,.slice bD bM bj,.slice bx cb bc,.slice bw n2 a8,.int .i64 cY] 39))):=dh.refl _ _
  have mF:Hid (0≤k∧k+(ag:Nat)≤4611686018427387904):=by unfold Hid;omega
  go_wp2_with (go_at_call 58;refine(Db _ S _ _ _ (gI.out.fv ic.out) mF.out.1 mF.out.2).mono ?_)
  first
  | (rintro e bi rfl hb)
  | (rintro e bi ⟨rfl,hb⟩)
  have ls:=Lib.hid (EI.out.trans hb);clear hb
  have o_:bi.cell? ⟨w.heap.size,2,none⟩=some (.slice bx cb bc):=ls.out.head pO.out rfl
  have mG:Hid (0≤k+(ag:Nat)∧k+(ag:Nat)+(aW:Nat)≤4611686018427387904):=by unfold Hid;omega
  go_wp2_with (go_at_call 59;refine(adP _ S _ _ _ (gJ.out.fv (ic.out.trans ls.out)) mG.out.1 mG.out.2).mono ?_)
  first
  | (rintro e bA rfl hb)
  | (rintro e bA ⟨rfl,hb⟩)
  have lu:=Lib.hid (ls.out.trans hb);clear hb o_
  have q6:bA.cell? ⟨w.heap.size,3,none⟩=some (.slice bw n2 a8):=lu.out.head pO.out rfl
  have k1:Hid (0≤k+(ag:Nat)+(aW:Nat)∧k+(ag:Nat)+(aW:Nat)+(bq:Nat)≤4611686018427387904):=by unfold Hid;omega
  go_wp2_with (go_at_call 60;refine(adK _ S _ _ _ (fX.out.fv (ic.out.trans lu.out)) k1.out.1 k1.out.2).mono ?_)
  first
  | (rintro e cO rfl hb)
  | (rintro e cO ⟨rfl,hb⟩)
  have tz:=Lib.hid (lu.out.trans hb);clear hb q6
  go_wp2
  go_ret
  exact⟨rfl,ic.out.trans tz.out⟩
theorem adL (w:World) (S:Nat→Prop) (ok:Bool) (bD bx bw:Option Addr) (bM bj ag cb bc aW n2 a8 bq:Nat) (k:Int) (mH:dJ w S (.l .bool) ag (.slice bD bM bj)) (l1:dJ w S (.l .ep) aW (.slice bx cb bc)) (ni:dJ w S (.l .held) bq (.slice bw n2 a8)) (au:0≤k) (h1:k+(ag:Nat)+(aW:Nat)+(bq:Nat)≤4611686018427387904):
    Calls Tryz.prog 16 #[.agg #[.bool ok,.slice bD bM bj,.slice bx cb bc,.slice bw n2 a8],.int .i64 k] w fun iR w'=>iR= .returned (.int .i64 (k+(ag:Nat)+(aW:Nat)+(bq:Nat)))∧dh S w w':=by
  have ic:Hid (dh S w (w.alloc (.cells #[.bool ok,.slice bD bM bj,.slice bx cb bc,.slice bw n2 a8] 44))):=dh.below ((Below.refl _ _).alloc (Nat.le_refl _) _)
  have pO:Hid ((w.alloc (.cells #[.bool ok,.slice bD bM bj,.slice bx cb bc,.slice bw n2 a8] 44)).heap[w.heap.size]?=some (.cells #[.bool ok,.slice bD bM bj,.slice bx cb bc,.slice bw n2 a8] 44 (0,0))):=n8 _ _
  have gI:=Lib.hid mH;clear mH
  have gJ:=Lib.hid l1;clear l1
  have fX:=Lib.hid ni;clear ni
  go_enter Tryz.func16,Tryz.ntmps16
  have EI:Hid (dh S (w.alloc (.cells #[.bool ok,.slice bD bM bj,.slice bx cb bc,.slice bw n2 a8] 44)) (w.alloc (.cells #[.bool ok,.slice bD bM bj,.slice bx cb bc,.slice bw n2 a8] 44))):=dh.refl _ _
  have mF:Hid (0≤k∧k+(ag:Nat)≤4611686018427387904):=by unfold Hid;omega
  go_wp2_with (go_at_call 61;refine(IX _ S _ _ _ (gI.out.fv ic.out) mF.out.1 mF.out.2).mono ?_)
  first
  | (rintro e bi rfl hb)
  | (rintro e bi ⟨rfl,hb⟩)
  have ls:=Lib.hid (EI.out.trans hb);clear hb
  have o_:bi.cell? ⟨w.heap.size,2,none⟩=some (.slice bx cb bc):=ls.out.head pO.out rfl
  have mG:Hid (0≤k+(ag:Nat)∧k+(ag:Nat)+(aW:Nat)≤4611686018427387904):=by unfold Hid;omega
  go_wp2_with (go_at_call 62;refine(adO _ S _ _ _ (gJ.out.fv (ic.out.trans ls.out)) mG.out.1 mG.out.2).mono ?_)
  first
  | (rintro e bA rfl hb)
  | (rintro e bA ⟨rfl,hb⟩)
  have lu:=Lib.hid (ls.out.trans hb);clear hb o_
  have q6:bA.cell? ⟨w.heap.size,3,none⟩=some (.slice bw n2 a8):=lu.out.head pO.out rfl
  have k1:Hid (0≤k+(ag:Nat)+(aW:Nat)∧k+(ag:Nat)+(aW:Nat)+(bq:Nat)≤4611686018427387904):=by unfold Hid;omega
  go_wp2_with (go_at_call 63;refine(adM _ S _ _ _ (fX.out.fv (ic.out.trans lu.out)) k1.out.1 k1.out.2).mono ?_)
  first
  | (rintro e cO rfl hb)
  | (rintro e cO ⟨rfl,hb⟩)
  have tz:=Lib.hid (lu.out.trans hb);clear hb q6
  go_wp2
  go_ret
  exact⟨rfl,ic.out.trans tz.out⟩
abbrev dO:=List (Nat×Nat×Bool)
def l6 (f:Nat→dO):Nat→dO
 | 0=>[]
 | n+1=>l6 f n++f n
def sU:Bool→Int→Value
 | true,k=> .bool (k%3==0)
 | false,k=> .int .i64 k
def kn (L:dO):Prop:=L.Pairwise fun x y=> ¬(x.1=y.1∧x.2.1=y.2.1)
def fz (w:World):dO→Int→Prop
 | [],_=>True
 | x::L,k=>w.cell? ⟨x.1,x.2.1,none⟩=some (sU x.2.2 k)∧fz w L (k+1)
theorem fz.vR {w:World} {M:dO}: ∀{L:dO} {k:Int},fz w (L++M) k↔fz w L k∧fz w M (k+(L.length:Nat))
 | [],k=>by simp[fz]
 | x::L,k=>by
  show(_∧fz w (L++M) (k+1))↔(_∧fz w L (k+1))∧_
  rw[fz.vR (L:=L),and_assoc,show k+1+(L.length:Nat)=k+((x::L).length:Nat) by simp;omega]
theorem fz.cM {w w':World}: ∀{L:dO} {k:Int},fz w L k→(∀x∈L,(∃u,w.cell? ⟨x.1,x.2.1,none⟩=some u)→w'.cell? ⟨x.1,x.2.1,none⟩=w.cell? ⟨x.1,x.2.1,none⟩)→fz w' L k
 | [],k,_,_=>trivial
 | x::L,k,h,hk=>⟨(hk x (List.mem_cons_self ..) ⟨_,h.1⟩).trans h.1,fz.cM h.2 fun y aS=>hk y (List.mem_cons_of_mem _ aS)⟩
theorem fz.here {w:World}: ∀{L:dO} {k:Int},fz w L k→ ∀x∈L,∃u,w.cell? ⟨x.1,x.2.1,none⟩=some u
 | x::L,k,h,y,aS=>by
  rcases List.mem_cons.1 aS with rfl | aS
  ·exact⟨_,h.1⟩
  ·exact fz.here h.2 y aS
theorem Md {w:World} {b o:Nat} {u:Value} (h:w.cell? ⟨b,o,none⟩=some u):b<w.heap.size:=by
 rcases Nat.lt_or_ge b w.heap.size with h' | h'
 ·exact h'
 ·simp[World.cell?,Array.getElem?_eq_none h'] at h
inductive eb (w:World) (S:Nat→Prop):aH→Nat→Nat→dO→Value→Prop where
 | int (c o:Nat) (n:Int):eb w S .int c o [(c,o,false)] (.int .i64 n)
 | bool (c o:Nat) (b:Bool):eb w S .bool c o [(c,o,true)] (.bool b)
 | aJ {e:aH} {a b n cap:Nat} {A:Option Addr} {Ls:Nat→Nat→dO} {vs:Nat→Nat→Value} (c o:Nat) (h1:n≤cap∧n≤4611686018427387904)
   (hc:0<n→ ∃aj ty,A=some ⟨c,o,none⟩∧S c∧w.heap[c]?=some (.cells aj ty (0,0))∧ ∀i j,i<n→j<e.bR.length→aj[o+(i*e.bR.length+j)]?=some (vs i j))
   (ai: ∀i j bT,i<n→e.bR[j]?=some bT→eb w S bT c (o+(i*e.bR.length+j)) (Ls i j) (vs i j)):eb w S (.l e) a b (l6 (fun i=>l6 (Ls i) e.bR.length) n) (.slice A n cap)
theorem eb.ox {w:World} {S:Nat→Prop} {e:aH} {a b:Nat} {L:dO} {v:Value} (h:eb w S (.l e) a b L v): ∃A n cap,v= .slice A n cap:=by cases h;exact⟨_,_,_,rfl⟩
theorem eb.of_int {w:World} {S:Nat→Prop} {a b:Nat} {L:dO} {v:Value} (h:eb w S .int a b L v):L=[(a,b,false)]∧ ∃n,v= .int .i64 n:=by cases h;exact⟨rfl,_,rfl⟩
theorem eb.of_bool {w:World} {S:Nat→Prop} {a b:Nat} {L:dO} {v:Value} (h:eb w S .bool a b L v):L=[(a,b,true)]∧ ∃n,v= .bool n:=by cases h;exact⟨rfl,_,rfl⟩
theorem eb.nI {w:World} {S:Nat→Prop} {e:aH} {a b:Nat} {L:dO} {n:Int} (h:eb w S e a b L (.int .i64 n)):e= .int∧L=[(a,b,false)]:=by cases h;exact⟨rfl,rfl⟩
theorem eb.nn {w:World} {S:Nat→Prop} {e:aH} {a b:Nat} {L:dO} {n:Bool} (h:eb w S e a b L (.bool n)):e= .bool∧L=[(a,b,true)]:=by cases h;exact⟨rfl,rfl⟩
theorem eb.afd {w:World} {S:Nat→Prop} {e:aH} {a b:Nat} {L:dO} {v:Value} (h:eb w S (.l e) a b L v) (gi bH:Nat):eb w S (.l e) gi bH L v:=by
 cases h with
 | aJ c o h1 hc ai=>exact .aJ c o h1 hc ai
theorem eb.zero {w:World} {S:Nat→Prop} {e:aH} {a b cap:Nat} {A:Option Addr} {L:dO} (h:eb w S (.l e) a b L (.slice A 0 cap)):L=[]:=by
 cases h;rfl
theorem eb.cM {w w':World} {S S':Nat→Prop} (hk: ∀c,S c→w'.heap[c]?=w.heap[c]?) (hs: ∀c,S c→S' c) {e:aH} {a b:Nat} {L:dO} {v:Value} (h:eb w S e a b L v):eb w' S' e a b L v:=by
 induction h with
 | int c o n=>exact .int c o n
 | bool c o b=>exact .bool c o b
 | aJ c o h1 hc ai bn=>
  refine .aJ c o h1 (fun ad=> ?_) bn
  obtain⟨aj,ty,q1,q2,q3,q4⟩:=hc ad
  exact⟨aj,ty,q1,hs c q2,(hk c q2).trans q3,q4⟩
theorem eb.fv {w w':World} {S S':Nat→Prop} (hw:dh S' w w') {e:aH} {a b:Nat} {L:dO} {v:Value} (h:eb w S e a b L v):eb w' S e a b L v:=by
 induction h with
 | int c o n=>exact .int c o n
 | bool c o b=>exact .bool c o b
 | @aJ e a b n cap A Ls vs c o h1 hc ai bn=>
  by_cases ad:0<n
  ·obtain⟨aj,ty,cE,c4,bm,hv⟩:=hc ad
   obtain⟨bL,q1,q2,q3⟩:=hw.at bm
   have key: ∀i j,i<n→j<e.bR.length→ ∃u,bL[o+(i*e.bR.length+j)]?=some u:=fun i j hi af=>by
    rcases q3 (o+(i*e.bR.length+j)) with q | ⟨_,_,_,q⟩ | ⟨_,_,_,q⟩
    ·exact⟨_,q.trans (hv i j hi af)⟩
    ·exact⟨_,q⟩
    ·exact⟨_,q⟩
   refine .aJ (vs:=fun i j=>(bL[o+(i*e.bR.length+j)]?).getD undef) c o h1 (fun _=>⟨bL,ty,cE,c4,q1,fun i j hi af=> ?_⟩) fun i j bT hi af=> ?_
   ·obtain⟨u,hu⟩:=key i j hi af
    rw[hu];rfl
   ·have j_:j<e.bR.length:=(List.getElem?_eq_some_iff.1 af).1
    have hk:=ai i j bT hi af
    have uq:=hv i j hi j_
    show eb w' S bT c _ (Ls i j) ((bL[o+(i*e.bR.length+j)]?).getD undef)
    rcases q3 (o+(i*e.bR.length+j)) with q | ⟨x,y,h8,lj⟩ | ⟨x,y,h8,lj⟩
    ·rw[q,uq];exact bn i j bT hi af
    ·rw[uq] at h8
     rw[Option.some.inj h8] at hk
     obtain⟨rfl,hm⟩:=hk.nI
     rw[lj,hm];exact .int _ _ y
    ·rw[uq] at h8
     rw[Option.some.inj h8] at hk
     obtain⟨rfl,hm⟩:=hk.nn
     rw[lj,hm];exact .bool _ _ y
  ·exact .aJ (vs:=vs) c o h1 (fun h=>absurd h ad) fun i j bT hi _=>absurd (Nat.lt_of_le_of_lt (Nat.zero_le _) hi) ad
theorem eb.elem {w:World} {S:Nat→Prop} {e:aH} {a b n cap:Nat} {A:Option Addr} {L:dO} (h:eb w S (.l e) a b L (.slice A n cap)):
  n≤4611686018427387904∧ ∃(c o:Nat) (Ls:Nat→Nat→dO),(0<n→A=some ⟨c,o,none⟩)∧L=l6 (fun i=>l6 (Ls i) e.bR.length) n∧
   (∀i j bT,i<n→e.bR[j]?=some (.l bT)→ ∃A' jb qQ,∀wr,dh S w wr→wr.cell? ⟨c,o+(i*e.bR.length+j),none⟩=some (.slice A' jb qQ)∧eb wr S (.l bT) 0 0 (Ls i j) (.slice A' jb qQ))∧
   (∀i j,i<n→e.bR[j]?=some .int→Ls i j=[(c,o+(i*e.bR.length+j),false)]∧ ∀wr,dh S w wr→(∃u,wr.cell? ⟨c,o+(i*e.bR.length+j),none⟩=some u)∧wr.frozen? ⟨c,o+(i*e.bR.length+j),none⟩=false∧ ∀x,dh S w (wr.setCell ⟨c,o+(i*e.bR.length+j),none⟩ (.int .i64 x)))∧
   ∀i j,i<n→e.bR[j]?=some .bool→Ls i j=[(c,o+(i*e.bR.length+j),true)]∧ ∀wr,dh S w wr→(∃u,wr.cell? ⟨c,o+(i*e.bR.length+j),none⟩=some u)∧wr.frozen? ⟨c,o+(i*e.bR.length+j),none⟩=false∧ ∀x,dh S w (wr.setCell ⟨c,o+(i*e.bR.length+j),none⟩ (.bool x)):=by
 cases h with
 | @aJ _ _ _ _ _ _ Ls vs c o h1 hc ai=>
 refine⟨h1.2,c,o,Ls,fun ad=> ?_,rfl,fun i j bT hi af=> ?_,fun i j hi af=> ?_,fun i j hi af=> ?_⟩
 ·obtain⟨aj,ty,cE,_⟩:=hc ad
  exact cE
 ·obtain⟨aj,ty,cE,c4,bm,hv⟩:=hc (by omega)
  have hk:=ai i j _ hi af
  have hu:=hv i j hi (List.getElem?_eq_some_iff.1 af).1
  obtain⟨A',jb,qQ,ax⟩:=hk.ox
  rw[ax] at hk hu
  exact⟨A',jb,qQ,fun wr hw=>⟨hw.head bm hu,(hk.fv hw).afd 0 0⟩⟩
 ·obtain⟨aj,ty,cE,c4,bm,hv⟩:=hc (by omega)
  have hk:=ai i j _ hi af
  have hu:=hv i j hi (List.getElem?_eq_some_iff.1 af).1
  obtain⟨h1,aA,ax⟩:=hk.of_int
  refine⟨h1,fun wr hw=> ?_⟩
  obtain⟨bL,q1,q2,q3⟩:=hw.at bm
  have U:=q3 (o+(i*e.bR.length+j))
  rw[hu,ax] at U
  have hs: ∃y,bL[o+(i*e.bR.length+j)]?=some (.int .i64 y):=by
   rcases U with q | ⟨_,y,_,q⟩ | ⟨_,_,q,_⟩
   ·exact⟨_,q⟩
   ·exact⟨_,q⟩
   ·cases q
  obtain⟨y,aS⟩:=hs
  exact⟨⟨_,by simp only[World.cell?,q1];exact aS⟩,by simp[World.frozen?,q1],fun x=>hw.trans (dh.setCell q1 c4 (by rw[aS];exact .inr (.inl ⟨_,_,rfl,rfl⟩)))⟩
 ·obtain⟨aj,ty,cE,c4,bm,hv⟩:=hc (by omega)
  have hk:=ai i j _ hi af
  have hu:=hv i j hi (List.getElem?_eq_some_iff.1 af).1
  obtain⟨h1,aA,ax⟩:=hk.of_bool
  refine⟨h1,fun wr hw=> ?_⟩
  obtain⟨bL,q1,q2,q3⟩:=hw.at bm
  have U:=q3 (o+(i*e.bR.length+j))
  rw[hu,ax] at U
  have hs: ∃y,bL[o+(i*e.bR.length+j)]?=some (.bool y):=by
   rcases U with q | ⟨_,_,q,_⟩ | ⟨_,y,_,q⟩
   ·exact⟨_,q⟩
   ·cases q
   ·exact⟨_,q⟩
  obtain⟨y,aS⟩:=hs
  exact⟨⟨_,by simp only[World.cell?,q1];exact aS⟩,by simp[World.frozen?,q1],fun x=>hw.trans (dh.setCell q1 c4 (by rw[aS];exact .inr (.inr ⟨_,_,rfl,rfl⟩)))⟩
structure jl (w w':World) (S:Nat→Prop) (L:dO) (k:Int):Prop where
 fv:dh S w w'
 s4: ∀c o,c<w.heap.size→(∀x∈L,¬(x.1=c∧x.2.1=o))→w'.cell? ⟨c,o,none⟩=w.cell? ⟨c,o,none⟩
 sT:fz w' L k
theorem jl.nil (w:World) (S:Nat→Prop) (k:Int):jl w w S [] k:=⟨.refl _ _,fun _ _ _ _=>rfl,trivial⟩
theorem kn.left {L M:dO} (h:kn (L++M)):kn L:=(List.pairwise_append.1 h).1
theorem kn.right {L M:dO} (h:kn (L++M)):kn M:=(List.pairwise_append.1 h).2.1
theorem jl.l6 {w bi bA:World} {S:Nat→Prop} {L M:dO} {k i_:Int} (h:jl w bi S L k) (g:jl bi bA S M i_) (h0:kn (L++M)) (e:i_=k+(L.length:Nat)):jl w bA S (L++M) k where
 fv:=h.fv.trans g.fv
 s4:=fun c o hc hx=>(g.s4 c o (Nat.lt_of_lt_of_le hc h.fv.size) fun x hm=>hx x (List.mem_append.2 (.inr hm))).trans (h.s4 c o hc fun x hm=>hx x (List.mem_append.2 (.inl hm)))
 sT:=by
  subst e
  refine fz.vR.2 ⟨h.sT.cM fun x hx ⟨u,hu⟩=>g.s4 _ _ (Md hu) fun y aS e=> ?_,g.sT⟩
  exact(List.pairwise_append.1 h0).2.2 x hx y aS ⟨e.1.symm,e.2.symm⟩
theorem Fg {w:World} {b o:Nat} {u v:Value} (h:w.cell? ⟨b,o,none⟩=some u):(w.setCell ⟨b,o,none⟩ v).cell? ⟨b,o,none⟩=some v:=by
 unfold World.cell? at h ⊢
 simp only at h ⊢
 cases hb:w.heap[b]? with
 | none=>rw[hb] at h;simp at h
 | some x=>
  rw[hb] at h
  cases x with
  | cells aj ty Nc=>
   simp only at h
   have ao:=(Array.getElem?_eq_some_iff.1 h).1
   simp[World.setCell,Array.getElem?_modify,hb,ao]
  | _=>simp at h
theorem Fi {w:World} {b o c q:Nat} {v:Value} (h: ¬(b=c∧o=q)):(w.setCell ⟨b,o,none⟩ v).cell? ⟨c,q,none⟩=w.cell? ⟨c,q,none⟩:=by
 by_cases e:b=c
 ·subst e
  have e2:o≠q:=fun e=>h ⟨rfl,e⟩
  unfold World.cell?
  simp only[World.setCell,Array.getElem?_modify,if_pos]
  cases hb:w.heap[b]? with
  | none=>simp
  | some x=>cases x<;>simp[e2]
 ·unfold World.cell?
  rw[RowKit.Below.heap_setCell _ _ _ _ (fun bT=>e bT.symm)]
theorem jl.one {w:World} {S:Nat→Prop} {c o:Nat} {b:Bool} {v:Value} {k:Int} (hc: ∃u,w.cell? ⟨c,o,none⟩=some u) (hk:dh S w (w.setCell ⟨c,o,none⟩ v)) (hv:v=sU b k):jl w (w.setCell ⟨c,o,none⟩ v) S [(c,o,b)] k where
 fv:=hk
 s4:=fun b8 hn _ hx=>Fi (hx _ (List.mem_singleton.2 rfl))
 sT:=by subst hv;obtain⟨u,hu⟩:=hc;exact⟨Fg hu,trivial⟩
theorem jl.below {w bi bA:World} {S:Nat→Prop} {L:dO} {k:Int} (hb:RowKit.Below w.heap.size w bi) (h:jl bi bA S L k):jl w bA S L k:=
 ⟨(dh.below hb).trans h.fv,fun c o hc hx=>(h.s4 c o (Nat.lt_of_lt_of_le hc hb.size) hx).trans (by simp only[World.cell?,hb.block c hc]),h.sT⟩
theorem jl.snoc {w wr:World} {S:Nat→Prop} {L:dO} {k:Int} (h:jl w wr S L k) {c o:Nat} {b:Bool} {v:Value} (hc: ∃u,wr.cell? ⟨c,o,none⟩=some u) (hk:dh S w (wr.setCell ⟨c,o,none⟩ v)) (h0:kn (L++[(c,o,b)])) (hv:v=sU b (k+(L.length:Nat))):jl w (wr.setCell ⟨c,o,none⟩ v) S (L++[(c,o,b)]) k where
 fv:=hk
 s4:=fun b8 hn ao hx=>(Fi (hx _ (List.mem_append.2 (.inr (List.mem_singleton.2 rfl))))).trans (h.s4 b8 hn ao fun x hm=>hx x (List.mem_append.2 (.inl hm)))
 sT:=by
  subst hv
  obtain⟨u,hu⟩:=hc
  refine fz.vR.2 ⟨h.sT.cM fun x hx _=>Fi fun e=> ?_,Fg hu,trivial⟩
  exact(List.pairwise_append.1 h0).2.2 x hx _ (List.mem_singleton.2 rfl) ⟨e.1.symm,e.2.symm⟩
def row (c o:Nat) (b:Bool):Nat→dO
 | 0=>[]
 | m+1=>row c o b m++[(c,o+m,b)]
theorem va (c o:Nat) (b:Bool): ∀m,(row c o b m).length=m
 | 0=>rfl
 | m+1=>by show(row c o b m++_).length=_;rw[List.length_append,va c o b m];rfl
theorem So (c o:Nat) (b:Bool) (m:Nat): ∀n,row c o b (m+n)=row c o b m++row c (o+m) b n
 | 0=>(List.append_nil _).symm
 | n+1=>by
  show row c o b (m+n)++[(c,o+(m+n),b)]=_++(row c (o+m) b n++[(c,o+m+n,b)])
  rw[So c o b m n,List.append_assoc,Nat.add_assoc]
theorem DT {c o:Nat} {b:Bool} {x:Nat×Nat×Bool}: ∀{m},x∈row c o b m↔ ∃i,i<m∧x=(c,o+i,b)
 | 0=>by simp[row]
 | m+1=>by
  show x∈row c o b m++_↔_
  rw[List.mem_append,DT (m:=m),List.mem_singleton]
  constructor
  ·rintro(⟨i,h1,h2⟩ | h)
   ·exact⟨i,by omega,h2⟩
   ·exact⟨m,by omega,h⟩
  ·rintro⟨i,h1,h2⟩
   by_cases e:i=m
   ·subst e;exact .inr h2
   ·exact .inl ⟨i,by omega,h2⟩
theorem fz.row {w:World} {c o:Nat} {b:Bool} {k:Int}: ∀{m:Nat},fz w (Fw.row c o b m) k↔ ∀i,i<m→w.cell? ⟨c,o+i,none⟩=some (sU b (k+(i:Nat)))
 | 0=>⟨fun _ i h=>by omega,fun _=>trivial⟩
 | m+1=>by
  show fz w (Fw.row c o b m++_) k↔_
  rw[fz.vR,fz.row (m:=m),va]
  constructor
  ·rintro⟨h1,h2,_⟩ i hi
   by_cases e:i=m
   ·subst e;exact h2
   ·exact h1 i (by omega)
  ·intro h
   exact⟨fun i hi=>h i (by omega),h m (by omega),trivial⟩
theorem Ff {g:Nat→dO} {c o:Nat} {b:Bool}: ∀{m:Nat},(∀j,j<m→g j=[(c,o+j,b)])→Fw.l6 g m=row c o b m
 | 0,_=>rfl
 | m+1,h=>by show Fw.l6 g m++g m=_;rw[Ff fun j af=>h j (by omega),h m (by omega)];rfl
theorem Fe {g:Nat→dO} {c o q:Nat} {b:Bool}: ∀{m:Nat},(∀j,j<m→g j=row c (o+j*q) b q)→Fw.l6 g m=row c o b (m*q)
 | 0,_=>by rw[Nat.zero_mul];rfl
 | m+1,h=>by show Fw.l6 g m++g m=_;rw[Fe fun j af=>h j (by omega),h m (by omega),←So,Nat.succ_mul]
theorem eb.flat {w:World} {S:Nat→Prop} {n1 e:aH} {vU:Bool} {q n cap a b:Nat} {A:Option Addr} {L:dO} (Ht:n1= .int∧vU=false∨n1= .bool∧vU=true) (bB:e.bR=List.replicate q n1) (h:eb w S (.l e) a b L (.slice A n cap)):
  n≤4611686018427387904∧ ∃c o:Nat,(0<n→A=some ⟨c,o,none⟩)∧L=row c o vU (n*q)∧
   (0<n→S c∧ ∃(aj:Array Value) (ty:TypeId),w.heap[c]?=some (.cells aj ty (0,0))∧(0<q→o+n*q≤aj.size)∧ ∀i,i<n*q→ ∃u,aj[o+i]?=some u∧ ∀z,nk (some u) (some (sU vU z))):=by
 cases h with
 | @aJ _ _ _ _ _ _ Ls vs c o h1 hc ai=>
 have ao:e.bR.length=q:=by rw[bB,List.length_replicate]
 rw[ao] at hc ai ⊢
 have af: ∀j,j<q→e.bR[j]?=some n1:=fun j af=>by rw[bB,List.getElem?_replicate,if_pos af]
 have one: ∀i j,i<n→j<q→Ls i j=[(c,o+i*q+j,vU)]∧ ∀z,nk (some (vs i j)) (some (sU vU z)):=fun i j hi iy=>by
  have hk:=ai i j n1 hi (af j iy)
  rw[show o+(i*q+j)=o+i*q+j by omega] at hk
  rcases Ht with⟨rfl,rfl⟩ | ⟨rfl,rfl⟩
  ·obtain⟨ax,m,e2⟩:=hk.of_int
   exact⟨ax,fun z=> .inr (.inl ⟨_,_,by rw[e2],rfl⟩)⟩
  ·obtain⟨ax,m,e2⟩:=hk.of_bool
   exact⟨ax,fun z=> .inr (.inr ⟨_,_,by rw[e2],rfl⟩)⟩
 refine⟨h1.2,c,o,fun ad=> ?_,Fe fun i hi=>Ff fun j iy=>(one i j hi iy).1,fun ad=> ?_⟩
 ·obtain⟨aj,ty,cE,_⟩:=hc ad
  exact cE
 ·obtain⟨aj,ty,cE,c4,bm,hv⟩:=hc ad
  refine⟨c4,aj,ty,bm,fun au=> ?_,fun i hi=> ?_⟩
  ·have:=(Array.getElem?_eq_some_iff.1 (hv (n - 1) (q - 1) (by omega) (by omega))).1
   have ax:(n - 1)*q+q=n*q:=by rw[←Nat.succ_mul];congr 1;omega
   omega
  ·have au:0<q:=by
    rcases Nat.eq_zero_or_pos q with e | e
    ·subst e;simp at hi
    ·exact e
   have h1:i / q<n:=(Nat.div_lt_iff_lt_mul au).2 hi
   have hu:=hv (i / q) (i%q) h1 (Nat.mod_lt _ au)
   rw[Nat.mul_comm,Nat.div_add_mod] at hu
   exact⟨_,hu,(one (i / q) (i%q) h1 (Nat.mod_lt _ au)).2⟩
theorem jl.Rp {w w':World} {S:Nat→Prop} {c o m:Nat} {b:Bool} {k:Int} {val:Nat→Value} (h:jZ w w' c o m val) (hv: ∀i,val i=sU b (k+(i:Nat))) (hc:0<m→S c∧ ∃(aj:Array Value) (ty:TypeId),w.heap[c]?=some (.cells aj ty (0,0))∧o+m≤aj.size∧ ∀i,i<m→ ∃u,aj[o+i]?=some u∧ ∀z,nk (some u) (some (sU b z))) (au:m=0→c=w.heap.size):jl w w' S (Fw.row c o b m) k:=by
 by_cases hm:0<m
 ·obtain⟨c4,aj,ty,bm,av,hu⟩:=hc hm
  obtain⟨bL,q1,q2,q3⟩:=h.blk aj ty bm
  refine⟨h.fv c4 fun we ty2 i hx hi=> ?_,fun b8 hn ao hx=> ?_,fz.row.2 fun i hi=> ?_⟩
  ·rw[bm] at hx;cases hx
   obtain⟨u,h1,h2⟩:=hu i hi
   rw[h1,hv];exact h2 _
  ·by_cases e:b8=c
   ·subst e
    have sA: ¬(o≤hn∧hn<o+m):=fun bm=>hx (b8,o+(hn - o),b) (DT.2 ⟨hn - o,by omega,rfl⟩) ⟨rfl,by show o+(hn - o)=hn;omega⟩
    simp only[World.cell?,bm,q1]
    rcases Nat.lt_or_ge hn aj.size with af | af
    ·rw[q3 hn af,if_neg sA]
    ·rw[Array.getElem?_eq_none (by omega),Array.getElem?_eq_none af]
   ·simp only[World.cell?,h.other b8 e]
  ·have e:bL[o+i]?=some (val (o+i - o)):=(q3 (o+i) (by omega)).trans (if_pos ⟨by omega,by omega⟩)
   rw[show o+i - o=i by omega,hv] at e
   simp only[World.cell?,q1]
   exact e
 ·obtain rfl:m=0:=by omega
  obtain rfl:=au rfl
  exact⟨h.zR,fun b8 hn ao _=>by simp only[World.cell?,h.other b8 (by omega)],trivial⟩
def Vf (P:Program) (f:FuncId) (e:aH):Prop:= ∀(w:World) (S:Nat→Prop) (L:dO) (v:Value) (k:Int),eb w S e 0 0 L v→kn L→0≤k→k+(L.length:Nat)≤4611686018427387904→
 Calls P f #[v,.int .i64 k] w fun iR w'=>iR= .returned (.int .i64 (k+(L.length:Nat)))∧jl w w' S L k
def U9 (P:Program) (f:FuncId) (e:aH):Prop:= ∀(w:World) (S:Nat→Prop) (L:dO) (v:Value) (k:Int),eb w S e 0 0 L v→fz w L k→0≤k→k+(L.length:Nat)≤4611686018427387904→
 Calls P f #[v,.int .i64 k] w fun iR w'=>iR= .returned (.int .i64 (k+(L.length:Nat)))∧RowKit.Below w.heap.size w w'
open Go Go.RowKit
theorem K1:Vf Tryz.prog 58 (.l .int):=fun w S L v k h h0 au h1=>by
  obtain⟨A,n,cap,rfl⟩:=h.ox
  obtain⟨rc,c,o,cE,rfl,hc⟩:=h.flat (.inl ⟨rfl,rfl⟩) (q:=1) rfl
  rw[va] at h1 ⊢
  have h2:k+n≤4611686018427387904:=by omega
  have ai:(Ending.returned (.int .i64 (k+n)):Ending)= .returned (.int .i64 (k+((n*1:Nat):Int))):=by congr 2;omega
  rw[←ai]
  by_cases ad:0<n
  · obtain⟨c4,aj,ty,bm,av,hu⟩:=hc ad
    refine(C9 A c o n cap k w aj ty (fun _=>⟨cE ad,bm,by have:=av (by omega);omega⟩) au h2).mono ?_
    rintro e w' ⟨rfl,hm⟩
    refine⟨rfl,?_⟩
    rw[Nat.mul_one] at av hu ⊢
    exact .Rp hm (fun i=>rfl) (fun _=>⟨c4,aj,ty,bm,av (by omega),hu⟩) (fun e=>by omega)
  · obtain rfl:n=0:=by omega
    refine(C9 A w.heap.size 0 0 cap k w #[] 0 (fun h=>absurd h ad) au h2).mono ?_
    rintro e w' ⟨rfl,hm⟩
    exact⟨rfl,show jl w w' S (row w.heap.size 0 false 0) k from jl.Rp (m:=0) hm (fun i=>rfl) (fun h=>by omega) (fun _=>rfl)⟩
open Go Go.RowKit
theorem VM (b:Bool):(b !=b)=false:=by cases b<;>rfl
theorem Y5 (A:Option Addr) (c o n cap:Nat) (k:Int) (w:World) (cE:0<n→A=some ⟨c,o,none⟩) (hv: ∀i:Nat,i<n→w.cell? ⟨c,o+i,none⟩=some (.int .i64 (k+i))) (au:0≤k) (h1:k+n≤4611686018427387904):
    Calls Tryz.prog 64 #[.slice A n cap,.int .i64 k] w fun e w'=>e= .returned (.int .i64 (k+n))∧w'=w:=by
  have k0:=Lib.hid cE;clear cE
  replace hv:=Lib.hid hv
  go_enter Tryz.func64,Tryz.ntmps64
  go_wp2
  go_loopw [1,5] (fun q i wr=> ∃j:Nat,j≤n∧i= .int .i64 j∧q= .int .i64 (k+j)∧wr=w) (fun _ i _=>n - (intOf i).toNat)
  case atStart=>exact⟨0,Nat.zero_le _,rfl,by simp,rfl⟩
  case round=>
    obtain⟨j,af,rfl,rfl,rfl⟩:=hrel
    by_cases aN:j<n
    · obtain rfl:=k0.out (by omega)
      have aiu:=hv.out j aN
      have yC: ∀b:Bool,(b !=b)=false:=VM
      go_wp2
      go_roundw
      case rel=>exact⟨j+1,by omega,by go_num,by go_num,trivial⟩
      case measure=>simp[intOf];omega
    · have e:j=n:=by omega
      subst e
      go_wp2
      go_ret
      exact⟨rfl,rfl⟩
theorem GS:U9 Tryz.prog 64 (.l .int):=fun w S L v k h hm au h1=>by
  obtain⟨A,n,cap,rfl⟩:=h.ox
  obtain⟨rc,c,o,cE,rfl,hc⟩:=h.flat (.inl ⟨rfl,rfl⟩) (q:=1) rfl
  rw[va] at h1 ⊢
  have h2:k+n≤4611686018427387904:=by omega
  have ai:(Ending.returned (.int .i64 (k+n)):Ending)= .returned (.int .i64 (k+((n*1:Nat):Int))):=by congr 2;omega
  rw[←ai]
  have hv:=fz.row.1 hm
  refine(Y5 A c o n cap k w cE (fun i hi=>hv i (by omega)) au h2).mono ?_
  rintro e w' ⟨rfl,rfl⟩
  exact⟨rfl,.refl _ _⟩
theorem ahS {α:Type} (g:α→Nat): ∀(xs:List α) (f:Nat→Nat),(∀(i:Nat) (x:α),xs[i]?=some x→f i=g x)→b_ f xs.length=(xs.map g).sum:=by
 intro xs f h
 have key: ∀(n:Nat),n≤xs.length→b_ f n=((xs.take n).map g).sum:=by
  intro n
  induction n with
  | zero=>intro _;simp[b_]
  | succ n bn=>
   intro ad
   show b_ f n+f n=_
   rw[List.take_succ_eq_append_getElem (by omega),List.map_append,List.sum_append,bn (by omega),h n _ (List.getElem?_eq_getElem (by omega))]
   simp
 have:=key xs.length (Nat.le_refl _)
 rw[List.take_length] at this
 exact this
theorem uG {w:World} {S PA PF:Nat→Prop} {e:aH} {xs:List e.T} {c8 fr:Bool} {v:Value} (EA:e.T→Nat→Nat) (h:aL w PA PF (.aJ (xs.map (ca false e)) c8 fr) v) (h1: ∀c,PA c→S c∧Plain w c) (h2: ∀c,PF c→S c∧Plain w c)
  (ao: ∀x∈xs,∀(PB:Nat→Prop) j bT a u,(∀c,PB c→S c∧Plain w c)→e.bR[j]?=some bT→(ca false e x)[j]?=some a→aL w PB (fun _=>False) a u→dJ w S bT (EA x j) u):
  dJ w S (.l e) (xs.map fun x=>b_ (EA x) e.bR.length).sum v:=by
 cases h with
 | @aJ _ _ PB _ _ _ A cap sz vs eR eZ fB b3 dL hrel=>
  have cX: ∀c,PB c→S c∧Plain w c:=fun c hc=>by
   have:=eR c hc
   split at this
   ·exact h2 c this
   ·exact h1 c this
  have row: ∀i (hi:i<xs.length),(xs.map (ca false e))[i]?=some (ca false e xs[i]):=fun i hi=>by rw[List.getElem?_map,List.getElem?_eq_getElem hi];rfl
  have MA: ∀x:e.T,(ca false e x).length=e.bR.length:=fun x=>by
   rw[←mN]
   have: ∀(es:List aH) (y:ct es),(ii false es y).length=es.length:=by
    intro es
    induction es with
    | nil=>intro _;rfl
    | cons e r bn=>intro y;show((_:List AV)).length=_;rw[ii,List.length_cons,bn y.2];rfl
   exact this _ _
  rw[←ahS (fun x=>b_ (EA x) e.bR.length) xs (fun i=>b_ (fun j=>match xs[i]? with
   | some x=>EA x j
   | none=>0) e.bR.length) fun i x hx=>by simp only[hx]]
  rw[List.length_map] at eZ dL ⊢
  refine .aJ (vs:=vs) eZ (fun ad=> ?_) fun i j bT hi af=> ?_
  ·obtain⟨c,o,q1,q2,q3⟩:=dL ad
   obtain⟨aj,ty,ab⟩:=(cX c q2).2
   have av:sz=e.bR.length:=by rw[←b3 0 _ (row 0 ad),MA]
   subst av
   refine⟨c,o,aj,ty,q1,(cX c q2).1,ab,fun i j hi af=> ?_⟩
   have:=q3 i j hi af
   simp only[World.cell?,ab] at this
   simpa using this
  ·have j_:=(List.getElem?_eq_some_iff.1 af).1
   have ap:(ca false e xs[i])[j]?=some ((ca false e xs[i])[j]'(by rw[MA];exact j_)):=List.getElem?_eq_getElem _
   rw[List.getElem?_eq_getElem hi]
   exact ao xs[i] (List.getElem_mem hi) PB j bT _ _ cX af ap (hrel i j _ _ (row i hi) ap)
theorem AW {α:Type} (c:Nat): ∀xs:List α,(xs.map fun _=>c).sum=xs.length*c
 | []=>by simp
 | x::r=>by rw[List.map_cons,List.sum_cons,AW c r,List.length_cons,Nat.succ_mul];omega
section
variable {w:World} {S PA PF:Nat→Prop} {v:Value} {c8 fr:Bool}
theorem sO {PB:Nat→Prop} {n:Int} {u:Value} (h:aL w PB (fun _=>False) (.int .i64 n) u):dJ w S .int 1 u:=by cases h;exact .int _
theorem PD {PB:Nat→Prop} {n:Bool} {u:Value} (h:aL w PB (fun _=>False) (.bool n) u):dJ w S .bool 1 u:=by cases h;exact .bool _
theorem C3 {xs:List Int} (h:aL w PA PF (.aJ (xs.map cs) c8 fr) v) (h1: ∀c,PA c→S c∧Plain w c) (h2: ∀c,PF c→S c∧Plain w c):dJ w S (.l .int) xs.length v:=by
 have:=uG (e:= .int) (fun _ _=>1) h h1 h2 fun x _ PB j bT a u _ af ap ai=>by
  match j,af,ap with
  | 0,af,ap=>cases af;cases ap;exact sO ai
 have e:(xs.map fun x=>b_ (fun _=>1) (aH.bR .int).length).sum=xs.length:=by
  show(xs.map fun _=>1).sum=_
  rw[AW,Nat.mul_one]
 rw[e] at this;exact this
theorem Iy {xs:List Bool} (h:aL w PA PF (.aJ (xs.map aX) c8 fr) v) (h1: ∀c,PA c→S c∧Plain w c) (h2: ∀c,PF c→S c∧Plain w c):dJ w S (.l .bool) xs.length v:=by
 have:=uG (e:= .bool) (fun _ _=>1) h h1 h2 fun x _ PB j bT a u _ af ap ai=>by
  match j,af,ap with
  | 0,af,ap=>cases af;cases ap;exact PD ai
 have e:(xs.map fun x=>b_ (fun _=>1) (aH.bR .bool).length).sum=xs.length:=by
  show(xs.map fun _=>1).sum=_
  rw[AW,Nat.mul_one]
 rw[e] at this;exact this
theorem PE {xs:List cR} (h:aL w PA PF (.aJ (xs.map dE) c8 fr) v) (h1: ∀c,PA c→S c∧Plain w c) (h2: ∀c,PF c→S c∧Plain w c):dJ w S (.l .bG) (xs.length*2) v:=by
 have:=uG (e:= .bG) (fun _ _=>1) h h1 h2 fun x _ PB j bT a u _ af ap ai=>by
  match j,af,ap with
  | 0,af,ap=>cases af;cases ap;exact sO ai
  | 1,af,ap=>cases af;cases ap;exact sO ai
 have e:(xs.map fun x=>b_ (fun _=>1) (aH.bR .bG).length).sum=xs.length*2:=AW 2 xs
 rw[e] at this;exact this
theorem abD {xs:List dy} (h:aL w PA PF (.aJ (xs.map bE) c8 fr) v) (h1: ∀c,PA c→S c∧Plain w c) (h2: ∀c,PF c→S c∧Plain w c):dJ w S (.l .ep) (xs.length*2) v:=by
 have:=uG (e:= .ep) (fun _ _=>1) h h1 h2 fun x _ PB j bT a u _ af ap ai=>by
  match j,af,ap with
  | 0,af,ap=>cases af;cases ap;exact sO ai
  | 1,af,ap=>cases af;cases ap;exact sO ai
 have e:(xs.map fun x=>b_ (fun _=>1) (aH.bR .ep).length).sum=xs.length*2:=AW 2 xs
 rw[e] at this;exact this
def uR (x:Way):Nat:=x.ah.length+x.bp.length*2+x.cv.length*2+x.cK.length+x.eS.length
theorem abE {xs:List Way} (h:aL w PA PF (.aJ (xs.map (ej false)) c8 fr) v) (h1: ∀c,PA c→S c∧Plain w c) (h2: ∀c,PF c→S c∧Plain w c):dJ w S (.l .eg) (xs.map uR).sum v:=by
 have:=uG (e:= .eg) (fun x j=>[x.ah.length,x.bp.length*2,x.cv.length*2,x.cK.length,x.eS.length].getD j 0) h h1 h2 fun x _ PB j bT a u cX af ap ai=>by
  match j,af,ap with
  | 0,af,ap=>cases af;cases ap;exact C3 ai cX (fun _ h=>h.elim)
  | 1,af,ap=>cases af;cases ap;exact PE ai cX (fun _ h=>h.elim)
  | 2,af,ap=>cases af;cases ap;exact PE ai cX (fun _ h=>h.elim)
  | 3,af,ap=>cases af;cases ap;exact C3 ai cX (fun _ h=>h.elim)
  | 4,af,ap=>cases af;cases ap;exact C3 ai cX (fun _ h=>h.elim)
 have e:(xs.map fun x:Way=>b_ (fun j=>[x.ah.length,x.bp.length*2,x.cv.length*2,x.cK.length,x.eS.length].getD j 0) (aH.bR .eg).length).sum=(xs.map uR).sum:=by
  congr 1
  refine List.map_congr_left fun x _=> ?_
  show 0+x.ah.length+x.bp.length*2+x.cv.length*2+x.cK.length+x.eS.length=uR x
  unfold uR;omega
 rw[e] at this;exact this
theorem abB {xs:List (List Bool)} (h:aL w PA PF (.aJ (xs.map (fM aX false)) c8 fr) v) (h1: ∀c,PA c→S c∧Plain w c) (h2: ∀c,PF c→S c∧Plain w c):dJ w S (.l (.l .bool)) (xs.map List.length).sum v:=by
 have:=uG (e:= .l .bool) (fun x j=>x.length) h h1 h2 fun x _ PB j bT a u cX af ap ai=>by
  match j,af,ap with
  | 0,af,ap=>cases af;cases ap;exact Iy ai cX (fun _ h=>h.elim)
 have e:(xs.map fun x:List Bool=>b_ (fun j=>x.length) (aH.bR (.l .bool)).length).sum=(xs.map List.length).sum:=by
  congr 1
  refine List.map_congr_left fun x _=> ?_
  show 0+x.length=_
  omega
 rw[e] at this;exact this
def uQ (x:aC):Nat:=4+x.ak.length
theorem abC {xs:List aC} (h:aL w PA PF (.aJ (xs.map (ec false)) c8 fr) v) (h1: ∀c,PA c→S c∧Plain w c) (h2: ∀c,PF c→S c∧Plain w c):dJ w S (.l .held) (xs.map uQ).sum v:=by
 have:=uG (e:= .held) (fun x j=>[1,1,x.ak.length,1,1].getD j 0) h h1 h2 fun x _ PB j bT a u cX af ap ai=>by
  match j,af,ap with
  | 0,af,ap=>cases af;cases ap;exact sO ai
  | 1,af,ap=>cases af;cases ap;exact sO ai
  | 2,af,ap=>cases af;cases ap;exact Iy ai cX (fun _ h=>h.elim)
  | 3,af,ap=>cases af;cases ap;exact PD ai
  | 4,af,ap=>cases af;cases ap;exact sO ai
 have e:(xs.map fun x:aC=>b_ (fun j=>[1,1,x.ak.length,1,1].getD j 0) (aH.bR .held).length).sum=(xs.map uQ).sum:=by
  congr 1
  refine List.map_congr_left fun x _=> ?_
  show 0+1+1+x.ak.length+1+1=uQ x
  unfold uQ;omega
 rw[e] at this;exact this
end
def u2 (b:dD) (x y:TV):TV:=match x with
 | .i k n=>(match y with
  | .i i_ m=>if k=i_ then .i k (bif b.den then n else m) else .u
  | _=> .u)
 | .b x=>(match y with
  | .b y=> .b (dD.u1 b x y)
  | _=> .u)
 | .s x=>(match y with
  | .s y=> .s (bif b.den then x else y)
  | _=> .u)
 | _=> .u
def dD.nL:dD→dD→Bool
 | .at i _,.at j _=>Nat.beq i j
 | .t,.t=>true
 | .f,.f=>true
 | .n x,.n y=>x.nL y
 | .ds x y,.ds z w=>x.nL z&&y.nL w
 | .or x y,.or z w=>x.nL z&&y.nL w
 | .ite c x y,.ite d z w=>c.nL d&&x.nL z&&y.nL w
 | .wk x y,.wk z w=>x.nL z&&y.nL w
 | .ne x y,.ne z w=>x.nL z&&y.nL w
 | _,_=>false
def IJ (x y:TV):Bool:=match x with
 | .b x=>(match y with
  | .b y=>x.nL y
  | _=>false)
 | _=>false
def Dc (b:dD) (x y:TV):TV:=match IJ x y with
 | true=>x
 | false=>u2 b x y
def uL (s s':TS):List (Nat×TV)→List (List (Nat×TV)×List (Nat×TV))
 | []=>[]
 | p::r=>match IJ (s.get p.1) (s'.get p.1) with
  | true=>([(p.1,s.get p.1)],[(p.1,s'.get p.1)])::uL s s' r
  | false=>uL s s' r
inductive qL where
 | bad
 | none
 | some (s:TS) (jd:List (List (Nat×TV)×List (Nat×TV)))
def k8 {e bT:aH} (h:bT=e) (xs:List bT.T):List e.T:=h▸xs
def Gr:(e:aH)→TV→e.T
 | .int,.i _ m=>m
 | .u64,.i _ m=>m
 | .bool,.b x=>x.den
 | .str,.s x=>x
 | .l e,.l bT xs _ _=>if h:bT=e then k8 h xs else[]
 | e,_=>e.uE.default
def o4:(es:List aH)→List TV→ct es
 | [],_=>()
 | e::r,v::vs=>(Gr e v,o4 r vs)
 | e::r,[]=>(e.uE.default,o4 r [])
def qo (c:List TV):jC:=aH.mk .gv (o4 aH.gv.bR c)
def C0:TV→Bool
 | .dv _ _=>true
 | _=>false
def xm (s s':TS):List (Nat×TV)→Bool
 | []=>true
 | (k,_)::r=>match Nat.blt k 1000000 with
  | true=>xm s s' r
  | false=>match C0 (s.get k)&&C0 (s'.get k)&&Nat.ble 1000010 k with
   | true=>xm s s' r
   | false=>false
def adS (b:dD) (x y:TV):TV:=match x with
 | .dv g c=>(match y with
  | .dv _ b8=> .dv g (iQ false .gv (bif b.den then qo c else qo b8))
  | _=> .u)
 | _=> .u
def rJ (b:dD) (k:Nat) (x y:TV):TV:=match Nat.blt k 1000000 with
 | true=>Dc b x y
 | false=>adS b x y
def afa (x y:TV):List (List (Nat×TV)×List (Nat×TV)):=match x with
 | .dv g c=>(match y with
  | .dv c0 b8=>[([(g,.agg c)],[(c0,.agg (iQ false .gv (qo c)))]),([(0,.agg b8)],[(0,.agg (iQ false .gv (qo b8)))])]
  | _=>[])
 | _=>[]
def u_ (s s':TS):List (Nat×TV)→List (List (Nat×TV)×List (Nat×TV))
 | []=>[]
 | p::r=>match Nat.blt p.1 1000000 with
  | true=>u_ s s' r
  | false=>afa (s.get p.1) (s'.get p.1)++u_ s s' r
def B0:List (Nat×Nat)→List (Nat×Nat)→Bool
 | [],[]=>true
 | (a,b)::r,(c,d)::q=>Nat.beq a c&&Nat.beq b d&&B0 r q
 | _,_=>false
def qL.im (b:dD) (eB:TS) (x y:qL):qL:=match x with
 | .bad=> .bad
 | .none=>(match y with
  | .bad=> .bad
  | .none=> .none
  | .some s q=> .some ⟨s.T++eB.T,eB.B,s.vs,s.aT⟩ ((s.B,eB.T++eB.B)::q))
 | .some s q=>(match y with
  | .bad=> .bad
  | .none=> .some ⟨s.T++eB.T,eB.B,s.vs,s.aT⟩ ((s.B,eB.T++eB.B)::q)
  | .some s' Ap=>match xm s s' (s.T++s'.T)&&B0 s.vs s'.vs&&Nat.beq s.aT s'.aT with
   | true=> .some ⟨(s.T++s'.T).map (fun p=>(p.1,rJ b p.1 (s.get p.1) (s'.get p.1)))++eB.T,eB.B,s.vs,s.aT⟩ ((s.B,eB.T++eB.B)::(s'.B,eB.T++eB.B)::(q++(Ap++(uL s s' (s.T++s'.T)++u_ s s' (s.T++s'.T)))))
   | false=> .bad)
def aw.mi:aw→qL
 | .ke ex s=>(match ex with
  | .normal=> .some s []
  | _=> .none)
 | .ha | .no=> .none
 | .p _ t | .jr _ t | .eq _ _ t=>t.mi
 | .im b s x y=>qL.im b s x.mi y.mi
 | .two _ _ | .all _ _=> .bad
 | .gV x _ _ y=>(match x.mi with
  | .none=>y.mi
  | _=> .bad)
def aw.kM:aw→dD
 | .ke ex _=>(match ex with
  | .normal=> .t
  | _=> .f)
 | .ha | .no=> .f
 | .p _ t | .jr _ t | .eq _ _ t=>t.kM
 | .im b _ x y=>dD.u1 b x.kM y.kM
 | .two _ _ | .all _ _=> .t
 | .gV _ _ b y=>(match b with
  | .t=>y.kM
  | b=>dD.u1 b y.kM .f)
def aw.facts:aw→List Prop
 | .ke _ _ | .ha | .no | .two _ _ | .all _ _=>[]
 | .p _ t | .eq _ _ t=>t.facts
 | .jr φ t=>φ::t.facts
 | .im _ _ x y=>(match x.kM with
  | .f=>y.facts
  | _=>match y.kM with
   | .f=>x.facts
   | _=>[])
 | .gV _ dS _ y=>dS++y.facts
def LC (x y:TV):Prop:= ∃g c b8,x= .dv g c∧y= .dv g b8∧cu b8=cu c
structure TS.gh (s S:TS):Prop where
 vs:S.vs=s.vs
 aT:S.aT=s.aT
 get: ∀k,S.get k=s.get k∨(k<1000000∧((S.get k).bb=(s.get k).bb∨(S.get k).bb= .undef))∨(1000010≤k∧LC (s.get k) (S.get k))
theorem TS.gh.refl (s:TS):s.gh s:=⟨rfl,rfl,fun _=> .inl rfl⟩
theorem TS.gh.trans {a b c:TS} (h:a.gh b) (k:b.gh c):a.gh c:=⟨k.vs.trans h.vs,k.aT.trans h.aT,fun t=>by
 rcases k.get t with e | ⟨ao,e⟩ | ⟨ao,e⟩
 ·rw[e];exact h.get t
 ·refine .inr (.inl ⟨ao,?_⟩)
  rcases e with e | e
  ·rcases h.get t with q | ⟨_,q⟩ | ⟨hb,_⟩
   ·rw[e,q];exact .inl rfl
   ·rw[e];exact q
   ·omega
  ·exact .inr e
 ·refine .inr (.inr ⟨ao,?_⟩)
  rcases h.get t with q | ⟨hb,_⟩ | ⟨_,q⟩
  ·rw[←q];exact e
  ·omega
  ·obtain⟨g,x,y,ax,e2,dl⟩:=e
   obtain⟨c0,kW,UH,f1,f2,f3⟩:=q
   rw[ax] at f2
   cases f2
   exact⟨g,kW,y,f1,e2,dl.trans f3⟩⟩
theorem aee {s s':TS} {l:List (Nat×TV)} (h:xm s s' l=true) {k:Nat} {v:TV} (hm:(k,v)∈l) (hk: ¬k<1000000):1000010≤k∧(∃g c,s.get k= .dv g c)∧ ∃g c,s'.get k= .dv g c:=by
 induction l with
 | nil=>cases hm
 | cons p r bn=>
  obtain⟨a,w⟩:=p
  unfold xm at h
  split at h
  ·rename_i ap
   rcases List.mem_cons.1 hm with e | hm
   ·cases e;exact absurd (by rw[←Nat.blt_eq];exact ap) hk
   ·exact bn h hm
  ·split at h
   ·rename_i hc
    rcases List.mem_cons.1 hm with e | hm
    ·cases e
     simp only[Bool.and_eq_true] at hc
     have Sd: ∀x:TV,C0 x=true→ ∃g c,x= .dv g c:=fun x hx=>by
      unfold C0 at hx
      split at hx
      ·exact⟨_,_,rfl⟩
      ·cases hx
     exact⟨Nat.le_of_ble_eq_true hc.2,Sd _ hc.1.1,Sd _ hc.1.2⟩
    ·exact bn h hm
   ·cases h
theorem Sb {s s':TS}: ∀{l:List (Nat×TV)},(∀p∈u_ s s' l,p.1=p.2)→ ∀k v,(k,v)∈l→ ¬k<1000000→ ∀(g:Nat) (c:List TV) (c0:Nat) (b8:List TV),s.get k= .dv g c→s'.get k= .dv c0 b8→g=c0∧c=iQ false .gv (qo c)∧b8=iQ false .gv (qo b8)
 | [],_,k,v,h,_=>by cases h
 | p::r,U,k,v,h,hk=>fun g c c0 b8 ax e2=>by
  unfold u_ at U
  rcases List.mem_cons.1 h with e | h
  ·cases e
   have hb:Nat.blt k 1000000=false:=by
    cases hb:Nat.blt k 1000000 with
    | true=>rw[Nat.blt_eq] at hb;exact absurd hb hk
    | false=>rfl
   simp only[hb,ax,e2] at U
   have q1:=U _ (List.mem_append_left _ (List.mem_cons_self ..))
   have q2:=U _ (List.mem_append_left _ (List.mem_cons_of_mem _ (List.mem_cons_self ..)))
   injection q1 with J _
   injection q2 with a2 _
   have b1:=(Prod.mk.inj J)
   have b2:=(Prod.mk.inj a2)
   exact⟨b1.1,TV.agg.inj b1.2,TV.agg.inj b2.2⟩
  ·refine Sb (fun q hm=>U q ?_) k v h hk g c c0 b8 ax e2
   split
   ·exact hm
   ·exact List.mem_append_right _ hm
theorem ME: ∀{l m:List (Nat×Nat)},B0 l m=true→l=m
 | [],[],_=>rfl
 | [],_::_,h=>by cases h
 | _::_,[],h=>by cases h
 | (a,b)::r,(c,d)::q,h=>by
  simp only[B0,Bool.and_eq_true] at h
  rw[Nat.eq_of_beq_eq_true h.1.1,Nat.eq_of_beq_eq_true h.1.2,ME h.2]
theorem aeC {b:dD} {x y:TV} (h:b.den=true):(u2 b x y).bb=x.bb∨(u2 b x y).bb= .undef:=by
 unfold u2
 split
 ·split
  ·split
   ·left;simp[TV.bb,h]
   ·exact .inr rfl
  ·exact .inr rfl
 ·split
  ·left;simp[TV.bb,dD.Aj,h]
  ·exact .inr rfl
 ·split
  ·left;simp[TV.bb,h]
  ·exact .inr rfl
 ·exact .inr rfl
theorem aeB {b:dD} {x y:TV} (h:b.den=false):(u2 b x y).bb=y.bb∨(u2 b x y).bb= .undef:=by
 unfold u2
 split
 ·split
  ·split
   ·rename_i e;left;subst e;simp[TV.bb,h]
   ·exact .inr rfl
  ·exact .inr rfl
 ·split
  ·left;simp[TV.bb,dD.Aj,h]
  ·exact .inr rfl
 ·split
  ·left;simp[TV.bb,h]
  ·exact .inr rfl
 ·exact .inr rfl
theorem aff {s eB:TS} (h:s.B=eB.T++eB.B) (vs:List (Nat×Nat)) (aT k:Nat):TS.get ⟨s.T++eB.T,eB.B,vs,aT⟩ k=s.get k:=by
 unfold TS.get
 simp only
 rw[h,uO,uO]
theorem adt {l:List (Nat×TV)} {f:Nat→TV} {k:Nat} {d:TV}:((∃v,(k,v)∈l)∧gF (l.map fun p=>(p.1,f p.1)) k d=f k)∨((∀v,(k,v) ∉ l)∧gF (l.map fun p=>(p.1,f p.1)) k d=d):=by
 induction l with
 | nil=>exact .inr ⟨(fun v h=>by cases h),rfl⟩
 | cons p r bn=>
  obtain⟨a,w⟩:=p
  rw[List.map_cons,gN]
  by_cases e:a=k
  ·subst e;exact .inl ⟨⟨w,List.mem_cons_self ..⟩,if_pos rfl⟩
  ·rw[if_neg e]
   rcases bn with⟨⟨v,q⟩,h⟩ | ⟨q,h⟩
   ·exact .inl ⟨⟨v,List.mem_cons_of_mem _ q⟩,h⟩
   ·refine .inr ⟨fun v hv=> ?_,h⟩
    rcases List.mem_cons.1 hv with hv | hv
    ·cases hv;exact e rfl
    ·exact q v hv
theorem QO {s s':TS}: ∀{l:List (Nat×TV)},(∀p∈uL s s' l,p.1=p.2)→ ∀k v,(k,v)∈l→IJ (s.get k) (s'.get k)=true→s.get k=s'.get k
 | [],_,k,v,h,_=>by cases h
 | p::r,U,k,v,h,ao=>by
  unfold uL at U
  rcases List.mem_cons.1 h with e | h
  ·cases e
   rw[ao] at U
   have:=U _ (List.mem_cons_self ..)
   injection this with ax _
   exact(Prod.mk.inj ax).2
  ·refine QO (fun q hm=>U q ?_) k v h ao
   split
   ·exact List.mem_cons_of_mem _ hm
   ·exact hm
theorem adE {b:dD} {eB s s':TS} (h1:s.B=eB.T++eB.B) (h2:s'.B=eB.T++eB.B) (dr:xm s s' (s.T++s'.T)=true) (hv:s.vs=s'.vs) (ad:s.aT=s'.aT) (U: ∀p∈uL s s' (s.T++s'.T)++u_ s s' (s.T++s'.T),p.1=p.2):
  let S:TS:=⟨(s.T++s'.T).map (fun p=>(p.1,rJ b p.1 (s.get p.1) (s'.get p.1)))++eB.T,eB.B,s.vs,s.aT⟩
  (b.den=true→s.gh S)∧(b.den=false→s'.gh S):=by
 intro S
 have G9: ∀p∈uL s s' (s.T++s'.T),p.1=p.2:=fun p ab=>U p (List.mem_append_left _ ab)
 have jN: ∀p∈u_ s s' (s.T++s'.T),p.1=p.2:=fun p ab=>U p (List.mem_append_right _ ab)
 have gC: ∀k,((∃v,(k,v)∈s.T++s'.T)∧S.get k=rJ b k (s.get k) (s'.get k))∨((∀v,(k,v) ∉ s.T++s'.T)∧S.get k=gF eB.T k (gF eB.B k .u)):=fun k=>by
  have e:S.get k=gF (List.map (fun p=>(p.1,(fun k=>rJ b k (s.get k) (s'.get k)) p.1)) (s.T++s'.T)) k (gF eB.T k (gF eB.B k .u)):=by
   show gF (_++eB.T) k _=_
   rw[uO]
  rw[e];exact adt (f:=fun k=>rJ b k (s.get k) (s'.get k))
 have base: ∀(x:TS),x.B=eB.T++eB.B→ ∀k,(∀v,(k,v) ∉ x.T)→x.get k=gF eB.T k (gF eB.B k .u):=fun x hx k hk=>by
  unfold TS.get;rw[sP hk,hx,uO]
 have SY: ∀k,k<1000000→rJ b k (s.get k) (s'.get k)=Dc b (s.get k) (s'.get k):=fun k hk=>by
  unfold rJ;rw[show Nat.blt k 1000000=true by rw[Nat.blt_eq];exact hk]
 have LX: ∀k v,(k,v)∈s.T++s'.T→ ¬k<1000000→1000010≤k∧ ∃g c b8,s.get k= .dv g c∧s'.get k= .dv g b8∧c=iQ false .gv (qo c)∧b8=iQ false .gv (qo b8)∧rJ b k (s.get k) (s'.get k)= .dv g (iQ false .gv (bif b.den then qo c else qo b8)):=fun k v hm hk=>by
  obtain⟨bU,⟨g,c,ax⟩,c0,b8,e2⟩:=aee dr hm hk
  obtain⟨cN,c5,fs⟩:=Sb jN k v hm hk _ _ _ _ ax e2
  subst cN
  refine⟨bU,g,c,b8,ax,e2,c5,fs,?_⟩
  unfold rJ
  have hb:Nat.blt k 1000000=false:=by
   cases hb:Nat.blt k 1000000 with
   | true=>rw[Nat.blt_eq] at hb;exact absurd hb hk
   | false=>rfl
  rw[hb,ax,e2];rfl
 refine⟨fun hb=>⟨rfl,rfl,fun k=> ?_⟩,fun hb=>⟨hv,ad,fun k=> ?_⟩⟩
 ·rcases gC k with⟨⟨v,q⟩,h⟩ | ⟨q,h⟩
  ·by_cases hk:k<1000000
   ·rw[h,SY k hk];refine .inr (.inl ⟨hk,?_⟩)
    unfold Dc
    split
    ·exact .inl rfl
    ·exact aeC hb
   ·obtain⟨bU,g,c,b8,ax,e2,c5,fs,dl⟩:=LX k v q hk
    refine .inr (.inr ⟨bU,g,c,_,ax,h.trans dl,?_⟩)
    rw[hb];exact congrArg cu c5.symm
  ·rw[h];exact .inl (base s h1 k fun v hv=>q v (List.mem_append_left _ hv)).symm
 ·rcases gC k with⟨⟨v,q⟩,h⟩ | ⟨q,h⟩
  ·by_cases hk:k<1000000
   ·rw[h,SY k hk];refine .inr (.inl ⟨hk,?_⟩)
    unfold Dc
    split
    ·rename_i ao;rw[QO G9 k v q ao];exact .inl rfl
    ·exact aeB hb
   ·obtain⟨bU,g,c,b8,ax,e2,c5,fs,dl⟩:=LX k v q hk
    refine .inr (.inr ⟨bU,g,b8,_,e2,h.trans dl,?_⟩)
    rw[hb];exact congrArg cu fs.symm
  ·rw[h];exact .inl (base s' h2 k fun v hv=>q v (List.mem_append_right _ hv)).symm
theorem aw.Q0: ∀{t:aw} {R:Exit→TS→Prop},t.mi= .none→t.den R→t.den fun ex s=>R ex s∧ex≠ .normal:=by
 intro t
 induction t with
 | ke ex s=>
  intro R h d
  refine⟨d,?_⟩
  rintro rfl;cases h
 | ha=>intros;trivial
 | no=>intro R h d;exact d
 | p φ t bn=>intro R h d;exact⟨d.1,bn h d.2⟩
 | jr φ t bn=>intro R h d;exact fun q=>bn h (d q)
 | eq a b t bn=>intro R h d;exact⟨d.1,bn h d.2⟩
 | two x y hj gU=>intro R h;cases h
 | all α f bn=>intro R h;cases h
 | gV x dS b y hj gU=>
  intro R h d
  unfold aw.mi at h
  split at h
  ·rename_i hx;exact⟨hj hx d.1,fun q=>gU h (d.2 q)⟩
  ·cases h
 | im b s x y hj gU=>
  intro R h d
  have h:qL.im b s x.mi y.mi= .none:=h
  unfold qL.im at h
  split at h
  ·cases h
  ·rename_i hx
   split at h
   ·cases h
   ·rename_i aS;exact⟨fun q=>hj hx (d.1 q),fun q=>gU aS (d.2 q)⟩
   ·cases h
  ·split at h
   ·cases h
   ·cases h
   ·split at h<;>cases h
theorem aw.adH: ∀{t:aw} {R:Exit→TS→Prop} {S:TS} {jd:List (List (Nat×TV)×List (Nat×TV))},t.mi= .some S jd→(∀p∈jd,p.1=p.2)→t.den R→
  t.den fun ex s=>R ex s∧(ex= .normal→s.gh S∧t.kM.den=true∧ ∀φ∈t.facts,φ):=by
 intro t
 induction t with
 | ke ex s=>
  intro R S jd h U d
  refine⟨d,?_⟩
  rintro rfl
  cases h
  exact⟨.refl s,rfl,fun φ h=>by cases h⟩
 | ha=>intros;trivial
 | no=>intro R S jd h U d;exact d
 | p φ t bn=>intro R S jd h U d;exact⟨d.1,bn h U d.2⟩
 | jr φ t bn=>
  intro R S jd h U d q
  refine aw.qR (bn h U (d q)) fun ex s hs=>⟨hs.1,fun e=>⟨(hs.2 e).1,(hs.2 e).2.1,fun ψ Hu=> ?_⟩⟩
  rcases List.mem_cons.1 Hu with rfl | Hu
  ·exact q
  ·exact(hs.2 e).2.2 ψ Hu
 | eq a b t bn=>intro R S jd h U d;exact⟨d.1,bn h U d.2⟩
 | two x y hj gU=>intro R S jd h;cases h
 | all α f bn=>intro R S jd h;cases h
 | gV x dS b y hj gU=>
  intro R S jd h U d
  unfold aw.mi at h
  split at h
  ·rename_i hx
   refine⟨aw.qR (aw.Q0 hx d.1) fun ex s hs=>⟨hs.1,fun e=>absurd e hs.2⟩,fun q=>aw.qR (gU h U (d.2 q)) fun ex s hs=>⟨hs.1,fun e=> ?_⟩⟩
   obtain⟨h1,h2,ay⟩:=hs.2 e
   have dU: ∀(l:List Prop),pX l→ ∀φ∈l,φ:=by
    intro l
    induction l with
    | nil=>intro _ φ ek;cases ek
    | cons a r bn=>
     intro hc φ ek
     cases r with
     | nil=>rw[List.mem_singleton.1 ek];exact hc
     | cons gi DK=>
      have hc:a∧pX (gi::DK):=hc
      rcases List.mem_cons.1 ek with rfl | ek
      ·exact hc.1
      ·exact bn hc.2 φ ek
   have dU:=dU _ q
   refine⟨h1,?_,fun φ ek=> ?_⟩
   ·unfold aw.kM
    split
    ·exact h2
    ·rename_i bN
     have hb:b.den=true:=dU _ (by
      unfold wm
      split
      ·exact absurd rfl bN
      ·simp)
     rw[dD.Aj,hb,h2];rfl
   ·rcases List.mem_append.1 ek with ek | ek
    ·have hm: ∀b:dD,φ∈wm dS b:=fun b=>by
      unfold wm
      split
      ·exact ek
      ·exact List.mem_append_left _ ek
     exact dU φ (hm b)
    ·exact ay φ ek
  ·cases h
 | im b eB x y hj gU=>
  intro R S jd h U d
  have h:qL.im b eB x.mi y.mi= .some S jd:=h
  have Ri: ∀{z:aw} {R:Exit→TS→Prop},z.mi= .none→z.den R→z.den fun ex s=>R ex s∧(ex= .normal→False):=fun av WV=>aw.Q0 av WV
  have Na:b.den=true→x.kM.den=true→(dD.u1 b x.kM y.kM).den=true:=fun h1 h2=>by rw[dD.Aj,h1,h2];rfl
  have Nb:b.den=false→y.kM.den=true→(dD.u1 b x.kM y.kM).den=true:=fun h1 h2=>by rw[dD.Aj,h1,h2];rfl
  have Nn:x.kM.den=true→(∀φ∈x.facts,φ)→ ∀φ∈(aw.im b eB x y).facts,φ:=fun h1 h2 φ ek=>by
   unfold aw.facts at ek
   split at ek
   ·rename_i e;rw[e] at h1;cases h1
   ·split at ek
    ·exact h2 φ ek
    ·cases ek
  have No:y.kM.den=true→(∀φ∈y.facts,φ)→ ∀φ∈(aw.im b eB x y).facts,φ:=fun h1 h2 φ ek=>by
   unfold aw.facts at ek
   split at ek
   ·exact h2 φ ek
   ·split at ek
    ·rename_i e;rw[e] at h1;cases h1
    ·cases ek
  have dv: ∀{s:TS},s.B=eB.T++eB.B→s.gh ⟨s.T++eB.T,eB.B,s.vs,s.aT⟩:=fun cX=>⟨rfl,rfl,fun k=> .inl (aff cX _ _ k)⟩
  unfold qL.im at h
  split at h
  ·cases h
  ·rename_i hx
   split at h
   ·cases h
   ·cases h
   ·rename_i s q aS
    cases h
    have cX:=U _ (List.mem_cons_self ..)
    refine⟨fun hb=>aw.qR (Ri hx (d.1 hb)) fun ex z av=>⟨av.1,fun e=>(av.2 e).elim⟩,fun hb=>aw.qR (gU aS (fun p ab=>U p (List.mem_cons_of_mem _ ab)) (d.2 hb)) fun ex z av=>⟨av.1,fun e=> ?_⟩⟩
    obtain⟨h1,h2,ay⟩:=av.2 e
    exact⟨h1.trans (dv cX),Nb hb h2,No h2 ay⟩
  ·rename_i s q hx
   split at h
   ·cases h
   ·rename_i aS
    cases h
    have cX:=U _ (List.mem_cons_self ..)
    refine⟨fun hb=>aw.qR (hj hx (fun p ab=>U p (List.mem_cons_of_mem _ ab)) (d.1 hb)) fun ex z av=>⟨av.1,fun e=> ?_⟩,fun hb=>aw.qR (Ri aS (d.2 hb)) fun ex z av=>⟨av.1,fun e=>(av.2 e).elim⟩⟩
    obtain⟨h1,h2,ay⟩:=av.2 e
    exact⟨h1.trans (dv cX),Na hb h2,Nn h2 ay⟩
   ·rename_i s' Ap aS
    split at h
    ·rename_i hc
     cases h
     simp only[Bool.and_eq_true] at hc
     obtain⟨⟨bc,hZ⟩,kJ⟩:=hc
     have Yz:=U _ (List.mem_cons_self ..)
     have YA:=U _ (List.mem_cons_of_mem _ (List.mem_cons_self ..))
     obtain⟨aW,bq⟩:=adE (b:=b) Yz YA bc (ME hZ) (Nat.eq_of_beq_eq_true kJ) (fun p ab=>U p (List.mem_cons_of_mem _ (List.mem_cons_of_mem _ (List.mem_append_right _ (List.mem_append_right _ ab)))))
     refine⟨fun hb=>aw.qR (hj hx (fun p ab=>U p (List.mem_cons_of_mem _ (List.mem_cons_of_mem _ (List.mem_append_left _ ab)))) (d.1 hb)) fun ex z av=>⟨av.1,fun e=> ?_⟩,
      fun hb=>aw.qR (gU aS (fun p ab=>U p (List.mem_cons_of_mem _ (List.mem_cons_of_mem _ (List.mem_append_right _ (List.mem_append_left _ ab))))) (d.2 hb)) fun ex z av=>⟨av.1,fun e=> ?_⟩⟩
     ·obtain⟨h1,h2,ay⟩:=av.2 e
      exact⟨h1.trans (aW hb),Na hb h2,Nn h2 ay⟩
     ·obtain⟨h1,h2,ay⟩:=av.2 e
      exact⟨h1.trans (bq hb),Nb hb h2,No h2 ay⟩
    ·cases h
def kf:List (Nat×Nat)→Nat→Option Nat
 | [],_=>none
 | (k,m)::r,t=>match Nat.beq k t with
  | true=>some m
  | false=>kf r t
section
variable [FZ] {n:Nat} {s:TS}
theorem AT (t:Nat):(s.al n).T.getD t .undef=if t<n then(s.get t).bb else .undef:=by
 show((List.range n).map fun t=>(s.get t).bb).getD t .undef=_
 rw[List.getD_eq_getElem?_getD,List.getElem?_map]
 by_cases h:t<n
 ·rw[List.getElem?_range h,if_pos h];rfl
 ·rw[List.getElem?_eq_none (by simpa using h),if_neg h];rfl
theorem vr (v:Nat):dT (s.al n).L v=(kf s.vs v).map fun m=>cu (hg s v 0 m):=by
 show dT (s.vs.map fun p=>(p.1,cu (hg s p.1 0 p.2))) v=_
 induction s.vs with
 | nil=>rfl
 | cons p r bn=>
  obtain⟨k,m⟩:=p
  rw[List.map_cons]
  unfold dT kf
  by_cases h:v=k
  ·subst h;simp
  ·have:Nat.beq k v=false:=by
    cases hb:Nat.beq k v with
    | true=>exact absurd (Nat.eq_of_beq_eq_true hb).symm h
    | false=>rfl
   simp only[h,if_false,this];exact bn
theorem pJ (b:Nat):s.fV[b]?=if b<s.aT then some (s.get (br b)).eJ else none:=by
 show((List.range s.aT).map fun b=>(s.get (br b)).eJ)[b]?=_
 rw[List.getElem?_map]
 by_cases h:b<s.aT
 ·rw[List.getElem?_range h,if_pos h];rfl
 ·rw[List.getElem?_eq_none (by simpa using h),if_neg h];rfl
theorem mA:s.fV.length=s.aT:=by show((List.range s.aT).map _).length=_;simp
theorem r4 {b:Nat} (h:b<s.aT):(s.al n).H[b]?=some (s.get (br b)).eJ:=by
 show(s.fV++gM s)[b]?=_
 rw[List.getElem?_append_left (by rw[mA];exact h),pJ,if_pos h]
theorem Ej (h:iE s=true):(s.al n).H.length=s.aT:=by
 show(s.fV++gM s).length=_
 unfold gM;rw[h];simp[mA]
end
def BQ:Value→TV
 | .int k n=> .i k n
 | .bool b=> .b (match b with
  | true=> .t
  | false=> .f)
 | .string x=> .s x
 | .slice none 0 0=> .nil true true
 | .pointer none=> .o .fD
 | .nilIface=> .o .fT
 | _=> .u
theorem WG (v:Value):(BQ v).bb=ob v:=by
 unfold BQ ob
 split
 ·rfl
 ·rename_i b;cases b<;>rfl
 ·rfl
 ·rfl
 ·rfl
 ·rfl
 ·rename_i h1 h2 ay bg cW e1
  split
  ·exact absurd rfl (h1 _ _)
  ·exact absurd rfl (h2 _)
  ·exact absurd rfl (ay _)
  ·exact absurd rfl bg
  ·exact absurd rfl cW
  ·exact absurd rfl e1
  ·rfl
def cm (n:Nat) (s:TS):Operand→TV
 | .tmp t=>(match Nat.blt t n with
  | true=>s.get t
  | false=> .u)
 | .const v=>BQ v
 | .func f=> .fn f []
 | .global _=> .u
theorem ku [FZ] (n:Nat) (s:TS):bY (s.al n).T=fun x=>(cm n s x).bb:=by
 funext x
 cases x with
 | tmp t=>
  show(s.al n).T.getD t .undef=_
  rw[AT]
  unfold cm
  by_cases h:t<n
  ·have hb:Nat.blt t n=true:=by rw[Nat.blt_eq];exact h
   simp only[if_pos h,hb]
  ·have hb:Nat.blt t n=false:=by
    cases hb:Nat.blt t n with
    | true=>rw[Nat.blt_eq] at hb;exact absurd hb h
    | false=>rfl
   simp only[if_neg h,hb];rfl
 | const v=>exact(WG v).symm
 | func f=>rfl
 | global g=>rfl
def M5 (x:dD) (K:dD→aw):aw:=match x with
 | .t=>K .t
 | .f=>K .f
 | .v p=>K (.v p)
 | .at i p=>K (.at i p)
 | .n p=>K (.n p)
 | .ds p q=>K (.ds p q)
 | .or p q=>K (.or p q)
 | .ite p q r=>K (.ite p q r)
 | .wk p q=>K (.wk p q)
 | .ne p q=>K (.ne p q)
theorem X0 (x:dD) (K:dD→aw):M5 x K=K x:=by cases x<;>rfl
def o2 (v:TV) (K:TV→aw):aw:=match v with
 | .u=>K .u
 | .i k m=>K (.i k m)
 | .b x=>M5 x fun x=>K (.b x)
 | .s x=>K (.s x)
 | .l e xs f r=>K (.l e xs f r)
 | .nil f r=>K (.nil f r)
 | .ref p g m f=>K (.ref p g m f)
 | .ptr p g j m c=>K (.ptr p g j m c)
 | .lp t c=>K (.lp t c)
 | .c3 e x c=>K (.c3 e x c)
 | .agg c=>K (.agg c)
 | .tup c=>K (.tup c)
 | .fn f c=>K (.fn f c)
 | .o a=>K (.o a)
 | .blk g e xs m h=>K (.blk g e xs m h)
 | .dv g c=>K (.dv g c)
 | .jX g m ids=>K (.jX g m ids)
 | .gw V ids n h=>K (.gw V ids n h)
 | .new id xs=>K (.new id xs)
 | .ww w ids m n=>K (.ww w ids m n)
 | .wv w ids m j=>K (.wv w ids m j)
 | .Ad id m n=>K (.Ad id m n)
theorem p4 (v:TV) (K:TV→aw):o2 v K=K v:=by
 cases v with
 | b x=>exact X0 x fun x=>K (.b x)
 | _=>rfl
def nt:(e:aH)→e.T→AV
 | .ptr e,x=> .c3 (ca false e x) 0
 | .hJ f .unit,_=> .fn f []
 | .hJ f e,x=> .fn f [nt e x]
 | e,x=>match e.isS with
  | true=> .agg (ca false e x)
  | false=>iS false e x
def mO:(es:List aH)→ct es→List AV
 | [],_=>[]
 | e::r,x=>nt e x.1::mO r x.2
def oc (e:aH) (x:e.T):AV:=match e.isS with
 | true=> .agg (ca true e x)
 | false=>iS true e x
def oY:(es:List aH)→ct es→List AV
 | [],_=>[]
 | e::r,x=>oc e x.1::oY r x.2
def pZ:(es:List aH)→ct es→AV
 | [e],x=>oc e x.1
 | es,x=> .tup (oY es x)
def DO (e:aH) (x:e.T):TV:=match e.isS with
 | true=> .agg (iQ true e x)
 | false=>A2 true e x
def DP:(es:List aH)→ct es→List TV
 | [],_=>[]
 | e::r,x=>DO e x.1::DP r x.2
def DQ:(es:List aH)→ct es→TV
 | [e],x=>DO e x.1
 | es,x=> .tup (DP es x)
theorem Sl (e:aH) (x:e.T):(DO e x).bb=oc e x:=by
 unfold DO oc
 cases e.isS with
 | true=>show AV.agg (cu _)=_;rw[BH]
 | false=>exact Lb true e x
theorem Sm: ∀(es:List aH) (x:ct es),cu (DP es x)=oY es x
 | [],_=>rfl
 | e::r,x=>by rw[DP,cu,oY,Sl,Sm r]
theorem Jw (es:List aH) (x:ct es):(DQ es x).bb=pZ es x:=by
 match es,x with
 | [],x=>rfl
 | [e],x=>exact Sl e x.1
 | e::bT::r,x=>show AV.tup (cu _)=_;rw[Sm];rfl
structure cQ (P:Program) where
 f:FuncId
 ps:List aH
 rs:List aH
 pre:Option (ct ps→Prop)
 fn:ct ps→ct rs
 ok: ∀x,(match pre with
  | none=>True
  | some p=>p x)→aZ P f (mO ps x) (pZ rs (fn x))
def Wc {e bT:aH} (h:bT=e) (x:bT.T):e.T:=h▸x
def BP (aY:IntKind) (v:TV) (K:Int→List Prop→aw):aw:=match v with
 | .i k n=>if k=aY then K n [] else .no
 | _=> .no
def FD (v:TV) (K:Bool→List Prop→aw):aw:=match v with
 | .b x=>K x.den []
 | _=> .no
def FH (v:TV) (K:ByteArray→List Prop→aw):aw:=match v with
 | .s x=>K x []
 | _=> .no
def FC (e:aH) (g n:Nat) (v:TV) (K:List e.T→List Prop→aw):aw:=match v with
 | .blk c0 bT xs jb _=>if h:bT=e then .eq c0 g (.eq jb n (K (k8 h xs) [xs.length≤4611686018427387904])) else .no
 | _=> .no
def FI (s:TS) (e:aH) (g n:Nat) (v:TV) (K:List e.T→List Prop→aw):aw:=match v with
 | .jX c0 m ids=>(match s.get de with
  | .gw V cZ bJ _=>if h:aH.held=e then .eq cZ ids (.eq c0 0 (.eq g 0 (.eq n bJ (.eq m s.aT (K (k8 h V) [V.length≤4611686018427387904]))))) else .no
  | _=> .no)
 | v=>FC e g n v K
def FF (s:TS) (e:aH) (v:TV) (K:List e.T→List Prop→aw):aw:=match v with
 | .l bT xs _ _=>if h:bT=e then K (k8 h xs) [] else .no
 | .nil _ _=>K [] []
 | .ref b g n _=>(match Nat.blt b s.aT with
  | true=>FI s e g n (s.get (br b)) K
  | false=> .no)
 | _=> .no
def nq (s:TS):(e:aH)→TV→(e.T→List Prop→aw)→aw
 | .int,v,K=>BP .i64 v K
 | .u64,v,K=>BP .u64 v K
 | .bool,v,K=>FD v K
 | .str,v,K=>FH v K
 | .l e,v,K=>FF s e v K
 | _,_,_=> .no
def yY (s:TS):(es:List aH)→List TV→(ct es→List Prop→aw)→aw
 | [],[],K=>K () []
 | e::r,v::vs,K=>nq s e v fun x o=>yY s r vs fun y hn=>K (x,y) (o++hn)
 | _,_,_=> .no
def nr (s:TS) (e:aH) (v:TV) (K:e.T→List Prop→aw):aw:=match e.isS with
 | true=>(match v with
  | .agg c=>yY s e.bR c fun x o=>K (e.mk x) o
  | _=> .no)
 | false=>nq s e v K
def FG (s:TS) (e:aH) (v:TV) (K:e.T→List Prop→aw):aw:=match v with
 | .lp t c=>(match Nat.beq c 0 with
  | true=>(match kf s.vs t with
   | some m=>yY s e.bR (hg s t 0 m) fun x o=>K (e.mk x) o
   | none=> .no)
  | false=> .no)
 | .c3 bT x c=>(match Nat.beq c 0 with
  | true=>if h:bT=e then K (Wc h x) [] else .no
  | false=> .no)
 | _=> .no
def FE (f:Nat) (v:TV) (K:Unit→List Prop→aw):aw:=match v with
 | .fn g c=>(match Nat.beq f g with
  | true=>(match c with
   | []=>K () []
   | _=> .no)
  | false=> .no)
 | _=> .no
def BO (f:Nat) (v:TV) (K:TV→aw):aw:=match v with
 | .fn g c=>(match Nat.beq f g with
  | true=>(match c with
   | [w]=>K w
   | _=> .no)
  | false=> .no)
 | _=> .no
def conv (s:TS):(e:aH)→TV→(e.T→List Prop→aw)→aw
 | .ptr e,v,K=>FG s e v K
 | .hJ f .unit,v,K=>FE f v K
 | .hJ f e,v,K=>BO f v fun w=>match e.isS with
  | true=> .no
  | false=>conv s e w K
 | .bG,v,K=>nr s .bG v K
 | .eg,v,K=>nr s .eg v K
 | .ef,v,K=>nr s .ef v K
 | .mQ,v,K=>nr s .mQ v K
 | .ep,v,K=>nr s .ep v K
 | .held,v,K=>nr s .held v K
 | .frame,v,K=>nr s .frame v K
 | .done,v,K=>nr s .done v K
 | .fault,v,K=>nr s .fault v K
 | .stays,v,K=>nr s .stays v K
 | .gv,v,K=>nr s .gv v K
 | .int,v,K=>nq s .int v K
 | .u64,v,K=>nq s .u64 v K
 | .u8,v,K=>nq s .u8 v K
 | .bool,v,K=>nq s .bool v K
 | .str,v,K=>nq s .str v K
 | .unit,v,K=>nq s .unit v K
 | .nat,v,K=>nq s .nat v K
 | .l e,v,K=>nq s (.l e) v K
def Fx (s:TS):(es:List aH)→List TV→(ct es→List Prop→aw)→aw
 | [],[],K=>K () []
 | e::r,v::vs,K=>conv s e v fun x o=>Fx s r vs fun y hn=>K (x,y) (o++hn)
 | _,_,_=> .no
section
variable {n:Nat} {s:TS} {R:Exit→TS→Prop}
theorem Wg {L:List (Nat×List AV)} {H:List Blk} (e:aH) (x:e.T):n3 L H (ca true e x) (ca false e x):=by
 rw[←mN,←mN]
 have key: ∀(es:List aH) (y:ct es),n3 L H (ii true es y) (ii false es y):=by
  intro es
  induction es with
  | nil=>intro y;exact .nil
  | cons e r bn=>
   intro y
   refine .cons ?_ (bn y.2)
   cases e<;>first | exact .int _ _ | exact .bool _ | exact .str _ | exact gm | exact .undef _
 exact key _ _
end
section
variable {n:Nat} {s:TS} {R:Exit→TS→Prop}
theorem Mt {k:IntKind} {v:TV} {K:Int→List Prop→aw} (h:(BP k v K).den R): ∃m,v= .i k m∧(K m []).den R:=by
 unfold BP at h
 split at h
 ·split at h
  ·rename_i e;subst e;exact⟨_,rfl,h⟩
  ·exact h.elim
 ·exact h.elim
end
section
variable {n:Nat} {s:TS} {R:Exit→TS→Prop}
theorem Wz {v:TV} {K:Bool→List Prop→aw} (h:(FD v K).den R): ∃x,v= .b x∧(K x.den []).den R:=by
 unfold FD at h
 split at h
 ·exact⟨_,rfl,h⟩
 ·exact h.elim
end
section
variable {n:Nat} {s:TS} {R:Exit→TS→Prop}
theorem WE {v:TV} {K:ByteArray→List Prop→aw} (h:(FH v K).den R): ∃x,v= .s x∧(K x []).den R:=by
 unfold FH at h
 split at h
 ·exact⟨_,rfl,h⟩
 ·exact h.elim
end
section
variable {n:Nat} {s:TS} {R:Exit→TS→Prop}
theorem Wy {e:aH} {g m:Nat} {v:TV} {K:List e.T→List Prop→aw} (h:(FC e g m v K).den R): ∃xs,∃hx:xs.length=m,v= .blk g e xs m hx∧(K xs [xs.length≤4611686018427387904]).den R:=by
 unfold FC at h
 split at h
 ·rename_i c0 bT xs jb hx
  split at h
  ·rename_i bm
   subst bm
   obtain⟨h1,h2,h⟩:=h
   subst h1;subst h2
   exact⟨xs,hx,rfl,h⟩
  ·exact h.elim
 ·exact h.elim
end
section
variable {n:Nat} {s:TS} {R:Exit→TS→Prop}
theorem agr {L:List (Nat×List AV)} {H:List Blk} {a b:AV} (h:ew L H a b) (hb: ∀l,b≠ .agg l):fA L H a b:=by
 rcases h with⟨l,eN,_,e,_⟩ | h
 ·exact absurd e (hb eN)
 ·exact h
end
section
variable {n:Nat} {s:TS} {R:Exit→TS→Prop}
theorem WZ (fr:Bool) (e:aH) (x:e.T): ∀l,iS fr e x≠ .agg l:=by
 intro l h;cases e<;>cases h
end
section
variable {n:Nat} {s:TS} {R:Exit→TS→Prop}
theorem WA {f:Nat} {v:TV} {K:Unit→List Prop→aw} (h:(FE f v K).den R):v= .fn f []∧(K () []).den R:=by
 unfold FE at h
 split at h
 ·split at h
  ·rename_i hf
   obtain rfl:=Nat.eq_of_beq_eq_true hf
   split at h
   ·exact⟨rfl,h⟩
   ·exact h.elim
  ·exact h.elim
 ·exact h.elim
end
section
variable {n:Nat} {s:TS} {R:Exit→TS→Prop}
theorem WB {f:Nat} {v:TV} {K:TV→aw} (h:(BO f v K).den R): ∃w,v= .fn f [w]∧(K w).den R:=by
 unfold BO at h
 split at h
 ·split at h
  ·rename_i hf
   obtain rfl:=Nat.eq_of_beq_eq_true hf
   split at h
   ·exact⟨_,rfl,h⟩
   ·exact h.elim
  ·exact h.elim
 ·exact h.elim
end
section
variable {n:Nat} {s:TS} {R:Exit→TS→Prop}
theorem W3 {e:aH} (h:e.isS=false) (x:e.T): ∀l,nt e x≠ .agg l:=by
 intro l
 cases e with
 | hJ f e=>cases e<;>(intro h;cases h)
 | ptr e=>intro h;cases h
 | _=>first | (cases h;done) | exact WZ false _ x l
end
section
variable [FZ] {n:Nat} {s:TS} {R:Exit→TS→Prop}
theorem qS {V:List aC} {ids:List Nat} {bJ:Nat} {hv:V.length=bJ} (hk:s.get de= .gw V ids bJ hv):(s.al n).H=s.fV++List.map bK ‹FZ›.bs:=by
 show s.fV++gM s=_
 unfold gM iE
 rw[hk]
theorem MR {V:List aC} {ids:List Nat} {bJ:Nat} {hv:V.length=bJ} (hk:s.get de= .gw V ids bJ hv) {id:Nat} {k:Blk} (h:(List.map bK ‹FZ›.bs)[id]?=some k):(s.al n).H[id+s.aT]?=some k:=by
 rw[qS hk,List.getElem?_append_right (by rw[mA];omega),mA,Nat.add_sub_cancel];exact h
variable (av:Fits s)
include av in
theorem WH {e:aH} {b g m:Nat} {c8:Bool} {K:List e.T→List Prop→aw} (hb:b<s.aT) (h:(FI s e g m (s.get (br b)) K).den R): ∃x o,(K x o).den R∧((∀φ∈o,φ)→fA (s.al n).L (s.al n).H (.ref b g 0 m c8) (.aJ (List.map (ca false e) x) false false)):=by
 unfold FI at h
 split at h
 ·rename_i c0 gW ids aB
  split at h
  ·rename_i V cZ bJ ka hk
   split at h
   ·rename_i he
    subst he
    obtain⟨h1,h2,ay,bg,cW,h⟩:=h
    subst h1;subst h2;subst ay;subst bg;subst cW;subst ka
    refine⟨_,_,h,fun ar=> ?_⟩
    have ao:=ar _ (List.mem_singleton.2 rfl)
    obtain⟨q1,q2,q3⟩:=av V cZ _ _ hk
    have mU:V.length= ‹FZ›.ws.length:=by rw[←q2];exact jz q1.ok
    have:=DX (L:=(s.al n).L) (H:=(s.al n).H) (b:=b) (s:=s.aT) (n:=V.length) (full:=c8) (ws:= ‹FZ›.ws) (ids:=cZ) (bs:= ‹FZ›.bs) mU (by rw[r4 hb,aB];rfl) (fun id k jq=>MR hk jq) q1.ok (by omega) (fun x hx=>by have:=q1.len x hx;omega)
    rw[q2] at this
    exact this
   ·exact h.elim
  ·exact h.elim
 ·obtain⟨xs,hx,aB,h'⟩:=Wy h
  subst hx
  refine⟨_,_,h',fun ar=> ?_⟩
  have ao:=ar _ (List.mem_singleton.2 rfl)
  exact SB (eT:=ca true e) (by rw[r4 hb,aB];rfl) (fun x=>Wg e x) ao
include av in
theorem WC {e:aH} {v:TV} {K:List e.T→List Prop→aw} (h:(FF s e v K).den R): ∃x o,(K x o).den R∧((∀φ∈o,φ)→fA (s.al n).L (s.al n).H v.bb (.aJ (List.map (ca false e) x) false false)):=by
 unfold FF at h
 split at h
 ·split at h
  ·rename_i bm;subst bm;exact⟨_,_,h,fun _=>gm⟩
  ·exact h.elim
 ·exact⟨_,_,h,fun _=>by rw[List.map_nil];exact gm⟩
 ·rename_i b g cb c8
  split at h
  ·rename_i hb
   exact WH av (by rw[←Nat.blt_eq];exact hb) h
  ·exact h.elim
 ·exact h.elim
include av in
theorem Fv {e:aH} {v:TV} {K:e.T→List Prop→aw} (h:(nq s e v K).den R): ∃x o,(K x o).den R∧((∀φ∈o,φ)→fA (s.al n).L (s.al n).H v.bb (iS false e x)):=by
 cases e with
 | int=>obtain⟨m,rfl,h⟩:=Mt h;exact⟨m,_,h,fun _=> .int _ _⟩
 | u64=>obtain⟨m,rfl,h⟩:=Mt h;exact⟨m,_,h,fun _=> .int _ _⟩
 | bool=>obtain⟨x,rfl,h⟩:=Wz h;exact⟨_,_,h,fun _=> .bool _⟩
 | str=>obtain⟨x,rfl,h⟩:=WE h;exact⟨_,_,h,fun _=> .str _⟩
 | l e=>exact WC av h
 | _=>exact h.elim
include av in
theorem BM: ∀{es:List aH} {vs:List TV} {K:ct es→List Prop→aw},(yY s es vs K).den R→ ∃x o,(K x o).den R∧((∀φ∈o,φ)→az (fA (s.al n).L (s.al n).H) (cu vs) (ii false es x))
 | [],[],K,h=>⟨(),[],h,fun _=>az.nil⟩
 | e::r,v::vs,K,h=>by
  obtain⟨x,o,h,dr⟩:=Fv av (n:=n) (show(nq s e v _).den R from h)
  obtain⟨y,hn,h,gE⟩:=BM h
  exact⟨(x,y),o++hn,h,fun ar=>az.cons (dr fun φ ek=>ar φ (List.mem_append_left _ ek)) (gE fun φ ek=>ar φ (List.mem_append_right _ ek))⟩
 | [],_::_,K,h=>h.elim
 | _::_,[],K,h=>h.elim
include av in
theorem Wv {e:aH} {v:TV} {K:e.T→List Prop→aw} (h:(nr s e v K).den R): ∃x o,(K x o).den R∧((∀φ∈o,φ)→ew (s.al n).L (s.al n).H v.bb (match e.isS with
  | true=> .agg (ca false e x)
  | false=>iS false e x)):=by
 unfold nr at h
 cases c4:e.isS with
 | true=>
  rw[c4] at h
  simp only at h
  split at h
  ·rename_i c
   obtain⟨x,o,h,k⟩:=BM av (n:=n) h
   refine⟨_,o,h,fun ar=> ?_⟩
   show ew _ _ (.agg (cu c)) (.agg (ca false e (e.mk x)))
   rw[←mN,aH.Uq]
   exact ew.agg (k ar)
  ·exact h.elim
 | false=>
  rw[c4] at h
  obtain⟨x,o,h,k⟩:=Fv av (n:=n) (show(nq s e v K).den R from h)
  exact⟨x,o,h,fun ar=> .inr (k ar)⟩
include av in
theorem WD {e:aH} {v:TV} {K:e.T→List Prop→aw} (h:(FG s e v K).den R): ∃x o,(K x o).den R∧((∀φ∈o,φ)→ew (s.al n).L (s.al n).H v.bb (.c3 (ca false e x) 0)):=by
 unfold FG at h
 split at h
 ·rename_i t c
  split at h
  ·rename_i hc
   obtain rfl:=Nat.eq_of_beq_eq_true hc
   split at h
   ·rename_i m hm
    obtain⟨x,o,h,k⟩:=BM av (n:=n) h
    refine⟨_,o,h,fun ar=> .inr ?_⟩
    have k:=k ar
    show fA _ _ (.e4 t 0) (.c3 (ca false e (e.mk x)) 0)
    rw[←mN,aH.Uq]
    exact .e4 (cells:=cu (hg s t 0 m)) (by rw[vr,hm];rfl) k.1 k.2
   ·exact h.elim
  ·exact h.elim
 ·rename_i bT x c
  split at h
  ·rename_i hc
   obtain rfl:=Nat.eq_of_beq_eq_true hc
   split at h
   ·rename_i bm;subst bm;exact⟨_,_,h,fun _=> .inr (.c3 _ _)⟩
   ·exact h.elim
  ·exact h.elim
 ·exact h.elim
include av in
theorem Fy: ∀{e:aH} {v:TV} {K:e.T→List Prop→aw},(conv s e v K).den R→ ∃x o,(K x o).den R∧((∀φ∈o,φ)→ew (s.al n).L (s.al n).H v.bb (nt e x)):=by
 intro e
 induction e with
 | ptr e bn=>intro v K h;exact WD av h
 | hJ f e bn=>
  intro v K h
  have key:(∀x,nt (.hJ f e) x= .fn f [nt e x])→(BO f v fun w=>match e.isS with
   | true=> .no
   | false=>conv s e w K).den R→ ∃x o,(K x o).den R∧((∀φ∈o,φ)→ew (s.al n).L (s.al n).H v.bb (nt (.hJ f e) x)):=by
   intro he h
   obtain⟨w,rfl,h'⟩:=WB h
   cases c4:e.isS with
   | true=>rw[c4] at h';exact h'.elim
   | false=>
    rw[c4] at h'
    obtain⟨x,o,h2,k⟩:=bn h'
    refine⟨x,o,h2,fun ar=> .inr ?_⟩
    rw[he]
    refine fA.fn (caps:=[w.bb]) rfl fun j a b h1 h2=> ?_
    cases j with
    | zero=>cases h1;cases h2;exact agr (k ar) (W3 c4 x)
    | succ j=>cases h1
  cases e with
  | unit=>
   obtain⟨rfl,h'⟩:=WA h
   exact⟨(),[],h',fun _=> .inr (fA.fn (caps:=[]) rfl fun j a b h1 _=>by cases h1)⟩
  | _=>exact key (fun x=>rfl) h
 | _=>
  intro v K h
  first
  | exact Wv av (n:=n) h
  | (obtain⟨x,o,h,k⟩:=Fv av (n:=n) h;exact⟨x,o,h,fun ar=> .inr (k ar)⟩)
include av in
theorem Mn: ∀{es:List aH} {vs:List TV} {K:ct es→List Prop→aw},(Fx s es vs K).den R→ ∃x o,(K x o).den R∧((∀φ∈o,φ)→az (ew (s.al n).L (s.al n).H) (cu vs) (mO es x))
 | [],[],K,h=>⟨(),[],h,fun _=>az.nil⟩
 | e::r,v::vs,K,h=>by
  obtain⟨x,o,h,dr⟩:=Fy av (n:=n) (show(conv s e v _).den R from h)
  obtain⟨y,hn,h,gE⟩:=Mn h
  exact⟨(x,y),o++hn,h,fun ar=>az.cons (dr fun φ ek=>ar φ (List.mem_append_left _ ek)) (gE fun φ ek=>ar φ (List.mem_append_right _ ek))⟩
 | [],_::_,K,h=>h.elim
 | _::_,[],K,h=>h.elim
end
def Ds (l:List Prop) (t:aw):aw:=match l with
 | []=>t
 | l=> .p (pX l) t
theorem Mm: ∀{l:List Prop},pX l→ ∀φ∈l,φ
 | [],_,φ,h=>by cases h
 | [a],hc,φ,h=>by rw[List.mem_singleton.1 h];exact hc
 | a::b::r,hc,φ,h=>by
  have hc:a∧pX (b::r):=hc
  rcases List.mem_cons.1 h with rfl | h
  ·exact hc.1
  ·exact Mm hc.2 φ h
theorem Ru {l:List Prop} {t:aw} {R:Exit→TS→Prop} (h:(Ds l t).den R):(∀φ∈l,φ)∧t.den R:=by
 unfold Ds at h
 split at h
 ·exact⟨(fun φ h=>by cases h),h⟩
 ·exact⟨Mm h.1,h.2⟩
def Cb {P:Program}:List (cQ P)→FuncId→(cQ P→aw)→aw
 | [],_,_=> .no
 | c::r,f,K=>match Nat.beq c.f f with
  | true=>K c
  | false=>Cb r f K
def xk:TV→Bool
 | .tup _=>false
 | .o a=>en a
 | _=>true
theorem Dl {v:TV} (h:xk v=true):en v.bb=true:=by cases v<;>first | rfl | exact h | cases h
def Jd {P:Program} (c:cQ P) (x:ct c.ps):List Prop:=match c.pre with
 | none=>[]
 | some p=>[p x]
def Fb {P:Program} (mB:List (cQ P)) (f:FuncId) (args:List TV) (s:TS) (K:TV→aw):aw:=match args.all xk with
 | false=> .no
 | true=>Cb mB f fun c=>Fx s c.ps args fun x o=>Ds (o++Jd c x) (K (DQ c.rs (c.fn x)))
theorem MX {P:Program} {f:FuncId} {K:cQ P→aw} {R:Exit→TS→Prop}: ∀{mB:List (cQ P)},(Cb mB f K).den R→ ∃c,c.f=f∧(K c).den R
 | [],h=>h.elim
 | c::r,h=>by
  unfold Cb at h
  split at h
  ·rename_i hf;exact⟨c,Nat.eq_of_beq_eq_true hf,h⟩
  ·exact MX h
theorem Wa [FZ] {P:Program} {mB:List (cQ P)} {f:FuncId} {args:List TV} {s:TS} {K:TV→aw} {R:Exit→TS→Prop} {n:Nat} {Kp:AV→Prop} (av:Fits s) (hK: ∀v,(K v).den R→Kp v.bb) (h:(Fb mB f args s K).den R):
  oa P f (cu args) (s.al n).L (s.al n).H Kp:=by
 unfold Fb at h
 split at h
 ·exact h.elim
 ·rename_i ad
  obtain⟨c,rfl,h1⟩:=MX h
  obtain⟨x,o,h2,k⟩:=Mn av (n:=n) h1
  obtain⟨ar,ay⟩:=Ru h2
  refine⟨?_,_,_,k fun φ ek=>ar φ (List.mem_append_left _ ek),c.ok x ?_,?_⟩
  ·rw[List.all_eq_true] at ad ⊢
   intro a ap
   rw[nm] at ap
   obtain⟨v,hv,rfl⟩:=List.mem_map.1 ap
   exact Dl (ad v hv)
  ·have ab: ∀φ∈Jd c x,φ:=fun φ ek=>ar φ (List.mem_append_right _ ek)
   unfold Jd at ab
   revert ab
   cases c.pre with
   | none=>intro _;trivial
   | some p=>intro ab;exact ab _ (List.mem_singleton.2 rfl)
  ·rw[←Jw];exact hK _ ay
inductive Ba:Type 1 where
 | no
 | v (x:TV)
 | c (φ:Prop) (x:TV)
 | a8 (φ ψ:Prop) (x:TV)
def qY (F:List Blk→(AV→Prop)→Prop) (K:TV→aw):Ba→aw
 | .no=> .no
 | .v x=> .eq F (fun _ Q=>Q x.bb) (o2 x K)
 | .c φ x=> .eq F (fun _ Q=>φ∧Q x.bb) (.p φ (o2 x K))
 | .a8 φ ψ x=> .eq F (fun _ Q=>φ∧ψ∧Q x.bb) (.p (φ∧ψ) (o2 x K))
theorem sr {F:List Blk→(AV→Prop)→Prop} (H:List Blk) {K:TV→aw} {g:Ba} {R:Exit→TS→Prop} {Kp:AV→Prop} (hK: ∀v,(K v).den R→Kp v.bb) (h:(qY F K g).den R):F H Kp:=by
 cases g with
 | no=>exact h.elim
 | v x=>obtain⟨e,h⟩:=h;rw[p4] at h;rw[e];exact hK _ h
 | c φ x=>obtain⟨e,h1,h⟩:=h;rw[p4] at h;rw[e];exact⟨h1,hK _ h⟩
 | a8 φ ψ x=>obtain⟨e,h1,h⟩:=h;rw[p4] at h;rw[e];exact⟨h1.1,h1.2,hK _ h⟩
def pW:TV→List TV
 | .agg c=>c
 | v=>[v]
def vv (P:Program) (t:TypeId) (cells:List TV) (c:Nat):TV:=match w_ P t with
 | true=> .agg ((cells.drop c).take (P.cellsOf t))
 | false=>cells.getD c .u
def Yc (op:BinOp) (x y:TV):Ba:=match x with
 | .i k a=>(match y with
  | .i _ b=>(match op with
   | .add=> .v (.i k (k.wrap (a+b)))
   | .sub=> .v (.i k (k.wrap (a - b)))
   | .mul=> .v (.i k (k.wrap (a*b)))
   | .quo=> .c (b≠0) (.i k (k.wrap (a.tdiv b)))
   | .rem=> .c (b≠0) (.i k (a.tmod b))
   | .and=> .v (.i k (k.wrap (BitVec.ofInt k.bits a&&&BitVec.ofInt k.bits b).toNat))
   | .shl=> .c (0≤b) (.i k (k.wrap (a*2 ^ (min b.toNat k.bits))))
   | .shr=> .c (0≤b) (.i k (a.fdiv (2 ^ (min b.toNat k.bits))))
   | .eql=> .v (.b (.v (a==b)))
   | .neq=> .v (.b (.v (a !=b)))
   | .lss=> .v (.b (.v (decide (a<b))))
   | .leq=> .v (.b (.v (decide (a≤b))))
   | .gtr=> .v (.b (.v (decide (a>b))))
   | .geq=> .v (.b (.v (decide (a ≥ b))))
   | _=> .no)
  | _=> .no)
 | .b p=>(match y with
  | .b q=>(match op with
   | .eql=> .v (.b (.wk p q))
   | .neq=> .v (.b (.ne p q))
   | _=> .no)
  | _=> .no)
 | .s p=>(match y with
  | .s q=>(match op with
   | .add=> .c (p.size+q.size≤9223372036854775807) (.s (p++q))
   | .eql=> .v (.b (.v (p.toList==q.toList)))
   | .neq=> .v (.b (.v (!(p.toList==q.toList))))
   | _=> .no)
  | _=> .no)
 | .agg l=>(match y with
  | .agg m=>(match l,m with
   | [.i _ a,.i _ b],[.i _ c,.i _ d]=>(match op with
    | .eql=> .v (.b (.v (a==c&&b==d)))
    | .neq=> .v (.b (.v (!(a==c&&b==d))))
    | _=> .no)
   | _,_=> .no)
  | _=> .no)
 | _=> .no
def A7 (P:Program) (t:TypeId):List TV:=match(P.info? t).bind (·.zero) with
 | some z=>z.cells.toList.map BQ
 | none=>[]
def MS (pl:List (Nat×Nat)) (cells:List TV):List (Nat×TV)→List TV
 | []=>cells
 | (i,v)::r=>match pl[i]? with
  | some p=>MS pl (cells.take p.1++pW v++cells.drop (p.1+(pW v).length)) r
  | none=>cells
def X6 (e:aH) (v:TV):e.T:=match e.isS with
 | true=>e.mk (o4 e.bR (pW v))
 | false=>Gr e v
def X2:TV→Bool
 | .l _ _ _ fr=>fr
 | .nil _ fr=>fr
 | .agg c=>c.all fun v=>match v with
  | .l _ _ _ fr=>fr
  | .nil _ fr=>fr
  | _=>true
 | _=>true
def QQ (e:aH) (xs:List e.T) (l:List TV):TV:=match l with
 | []=> .nil true true
 | l=> .l e xs true (l.all X2)
def C6 (s:TS) (e:aH):List TV→(List e.T→aw)→aw
 | [],K=>K []
 | v::r,K=>conv s e v fun x _=>C6 s e r fun xs=>K (x::xs)
theorem IL [FZ] {n:Nat} {s:TS} {e:aH} {R:Exit→TS→Prop} (av:Fits s): ∀{l:List TV} {K:List e.T→aw},(C6 s e l K).den R→ ∃xs,(K xs).den R
 | [],K,h=>⟨_,h⟩
 | v::r,K,h=>by
  obtain⟨x,o,h,_⟩:=Fy av (n:=n) (show(conv s e v _).den R from h)
  obtain⟨xs,h⟩:=IL (n:=n) av h
  exact⟨_,h⟩
def xc:List (Nat×aH)→Nat→(aH→aw)→aw
 | [],_,_=> .no
 | (k,e)::r,t,K=>match Nat.beq k t with
  | true=>K e
  | false=>xc r t K
structure gA (P:Program) where
 n:Nat
 FV:List (Nat×aH)
 mB:List (cQ P)
section
variable {P:Program} (cf:gA P) (s:TS)
def gs (P:Program) (n:Nat) (s:TS) (op:Op):Ba:=match op with
 | .nilCheck x=> .v (cm n s x)
 | .load t a=>(match cm n s a with
  | .lp v c=>(match kf s.vs v with
   | some m=> .v (vv P t (hg s v 0 m) c)
   | none=> .no)
  | .c3 e x c=> .v (vv P t (iQ false e x) c)
  | _=> .no)
 | .fieldAddr t x f=>(match B6 P t f with
  | some fd=>(match cm n s x with
   | .lp v c=> .v (.lp v (c+fd.offset))
   | .c3 e x c=> .v (.c3 e x (c+fd.offset))
   | .ptr b g i m c=> .v (.ptr b g i m (c+fd.offset))
   | _=> .no)
  | none=> .no)
 | .unOp op _ x=>(match cm n s x with
  | .b z=>(match op with
   | .not=> .v (.b z.not)
   | _=> .no)
  | .i k m=>(match op with
   | .neg=> .v (.i k (k.wrap (0 - m)))
   | _=> .no)
  | _=> .no)
 | .convert _ d x=>(match cm n s x with
  | .i _ m=>(match w9 P d with
   | some k=> .v (.i k (k.wrap m))
   | none=> .no)
  | _=> .no)
 | .binOp op _ x y _=>Yc op (cm n s x) (cm n s y)
 | .build t ps=>(match I_ P t with
  | some pl=> .v (.agg (MS pl (A7 P t) (ps.toList.map fun p=>(p.1,cm n s p.2))))
  | none=> .no)
 | .index _ x i=>(match cm n s x with
  | .s z=>(match cm n s i with
   | .i _ m=> .a8 (0≤m) (m<z.size) (.i .u8 (z.data.getD m.toNat 0).toNat)
   | _=> .no)
  | _=> .no)
 | .extract x i=>(match cm n s x with
  | .tup l=> .v (l.getD i .u)
  | _=> .no)
 | .makeFunc fn _ caps=>(match fn with
  | .func f=> .v (.fn f (caps.toList.map (cm n s)))
  | _=> .no)
 | _=> .no
def sG (P:Program) (t:TypeId):Option Nat:=match ix P t with
 | some e=>(match(P.info? e).isSome with
  | true=>some (P.cellsOf e)
  | false=>none)
 | none=>none
theorem wZ {P:Program} {t:TypeId} {m:Nat} (h:sG P t=some m): ∃e,ix P t=some e∧(P.info? e).isSome=true∧P.cellsOf e=m:=by
 unfold sG at h
 split at h
 ·rename_i e he
  split at h
  ·rename_i hi;exact⟨e,he,hi,Option.some.inj h⟩
  ·cases h
 ·cases h
def qO (s:TS) (b g:Nat) (K:(e:aH)→(xs:List e.T)→(m:Nat)→xs.length=m→aw):aw:=match Nat.blt b s.aT with
 | true=>(match s.get (br b) with
  | .blk c0 e xs m h=> .eq c0 g (K e xs m h)
  | _=> .no)
 | false=> .no
theorem vW [FZ] {n:Nat} {s:TS} {b g:Nat} {K:(e:aH)→(xs:List e.T)→(m:Nat)→xs.length=m→aw} {R:Exit→TS→Prop} (h:(qO s b g K).den R):
  ∃e xs m hm,(K e xs m hm).den R∧b<s.aT∧(s.al n).H[b]?=some ⟨g,e.jQ,xs.map (ca true e)⟩:=by
 unfold qO at h
 split at h
 ·rename_i hb
  have hb:b<s.aT:=by rw[←Nat.blt_eq];exact hb
  split at h
  ·rename_i c0 e xs m hm aB
   obtain⟨h1,h⟩:=h
   subst h1
   exact⟨e,xs,m,hm,h,hb,by rw[r4 hb,aB];rfl⟩
  ·exact h.elim
 ·exact h.elim
def BJ (V:List aC) (ids:List Nat) (m:Nat) (i:Int):List TV:=[.i .i64 (nth V i).aK,.i .i64 (nth V i).a1,.ww i ids m (nth V i).ak.length,.b (.v (nth V i).cn),.i .i64 (nth V i).cx]
theorem Ew {ws:List aC} {ids:List Nat} {bs:List (List Bool)} {i:Int} (ok:n4 ws ids bs) (h:i.toNat<(view ws ids bs).length):nth (view ws ids bs) i={nth ws i with ak:=bs.getD (nth ids i) []}:=by
 have ao:=jz ok
 have h1:=gX (xs:=ws) (i:=i) (by omega)
 have h2:=gX (xs:=ids) (i:=i) (by have:=ok.len;omega)
 have:=vw (bs:=bs) h1 h2
 rw[gX h] at this
 exact Option.some.inj this
theorem afq [Z:FZ] {V:List aC} {ids:List Nat} {m:Nat} {i:Int} (G:jj Z.ws ids Z.bs) (e:view Z.ws ids Z.bs=V) (h:i.toNat<V.length):(bh m Z.ws ids)[i.toNat]?=some (cu (BJ V ids m i)):=by
 subst e
 have ao:=jz G.ok
 have Zh:=G.ok.len
 rw[eY Zh (by omega)]
 have hb:=G.ok.ak i.toNat _ _ (gX (xs:=Z.ws) (i:=i) (by omega)) (gX (xs:=ids) (i:=i) (by omega))
 unfold BJ
 rw[Ew G.ok h]
 show some (lb m (nth Z.ws i) (nth ids i))=some _
 unfold lb
 rw[hb];rfl
def Hx (P:Program) (t:TypeId) (b g m:Nat) (i:Int) (s:TS) (v:TV) (K:TV→aw):aw:=match v with
 | .jX c0 _ _=>(match Nat.blt b s.aT with
  | true=> .eq c0 g (.eq (sG P t) (some 5) (.p (0≤i∧i.toNat<m) (K (.ptr b g i m 0))))
  | false=> .no)
 | _=>qO s b g fun e _ _ _=> .eq (sG P t) (some e.jQ) (.p (0≤i∧i.toNat<m) (K (.ptr b g i m 0)))
def Hy (P:Program) (t:TypeId) (w:Int) (ids:List Nat) (m k:Nat) (i:Int) (s:TS) (K:TV→aw):aw:=match s.get de with
 | .gw V cZ _ _=> .eq cZ ids (.eq m s.aT (.eq (sG P t) (some 1) (.p (w.toNat<V.length∧0≤i∧i.toNat<k) (K (.wv w ids m i)))))
 | _=> .no
def Hz (P:Program) (t:TypeId) (x i:TV) (s:TS) (K:TV→aw):aw:=match i with
 | .i _ i=>(match x with
  | .l e xs _ _=> .eq (sG P t) (some e.jQ) (.p (0≤i∧i.toNat<xs.length) (K (.c3 e (s0 e xs i) 0)))
  | .ref b g m _=>Hx P t b g m i s (s.get (br b)) K
  | .ww w ids m k=>Hy P t w ids m k i s K
  | _=> .no)
 | _=> .no
def IE (P:Program) (t:TypeId) (w:Int) (ids:List Nat) (m:Nat) (j:Int) (s:TS) (K:TV→aw):aw:=match s.get de with
 | .gw V cZ _ _=> .eq cZ ids (.eq m s.aT (.p (w.toNat<V.length∧j.toNat<(nth V w).ak.length) (qY (fun _ Q=>iJ P t [AV.bool (nth (nth V w).ak j)] 0 Q) K (.v (vv P t [.b (.v (nth (nth V w).ak j))] 0)))))
 | _=> .no
def IF (P:Program) (t:TypeId) (b g:Nat) (i:Int) (m c:Nat) (s:TS) (K:TV→aw):aw:=match s.get (br b) with
 | .jX c0 gW ids=>(match Nat.blt b s.aT with
  | true=>(match s.get de with
   | .gw V cZ _ _=> .eq c0 g (.eq cZ ids (.p (i.toNat<V.length) (qY (fun _ Q=>iJ P t (cu (BJ V ids gW i)) c Q) K (.v (vv P t (BJ V ids gW i) c)))))
   | _=> .no)
  | false=> .no)
 | .dv c0 aj=>(match Nat.blt b s.aT with
  | true=> .eq c0 g (.eq i 0 (qY (fun _ Q=>iJ P t (cu aj) c Q) K (.v (vv P t aj c))))
  | false=> .no)
 | _=>qO s b g fun e xs e0 _=> .eq e0 m (.p (i.toNat<m) (qY (fun _ Q=>iJ P t (ca true e (s0 e xs i)) c Q) K (.v (vv P t (iQ true e (s0 e xs i)) c))))
def JR (P:Program) (t:TypeId) (x:TV) (lo hi:Option TV) (K:TV→aw):aw:=match x with
 | .l e xs _ fr=>(match lo with
  | none=>(match hi with
   | some (.i _ b)=> .eq (sG P t) (some e.jQ) (.p (0≤b∧b≤(xs.length:Int)) (K (.l e (xs.take b.toNat) false fr)))
   | _=> .no)
  | some (.i _ a)=>(match hi with
   | none=> .eq (sG P t) (some e.jQ) (.p (0≤a∧a≤(xs.length:Int)) (K (.l e (xs.drop a.toNat) false fr)))
   | _=> .no)
  | _=> .no)
 | _=> .no
def IG (P:Program) (t:TypeId) (x:TV) (K:TV→aw):aw:=match x with
 | .l _ xs _ _=> .eq (js P t x.bb) true (K (.i .i64 xs.length))
 | .nil _ _=> .eq (js P t x.bb) true (K (.i .i64 (0:Nat)))
 | .s z=> .eq (js P t x.bb) true (K (.i .i64 z.size))
 | .ref _ _ m _=> .eq (js P t x.bb) true (K (.i .i64 m))
 | .ww _ _ _ k=> .eq (js P t x.bb) true (K (.i .i64 k))
 | _=> .no
def rT (o:Oper) (K:TV→aw):aw:=match o.op with
 | .move x=>o2 (cm cf.n s x) K
 | .assign x=>o2 (cm cf.n s x) K
 | .indexAddr t x i=>Hz P t (cm cf.n s x) (cm cf.n s i) s K
 | .load t a=>(match cm cf.n s a with
  | .ptr b g i m c=>IF P t b g i m c s K
  | .wv w ids m j=>IE P t w ids m j s K
  | _=>qY (fun H Q=>jp P o (fun x=>(cm cf.n s x).bb) s.b4 H Q) K (gs P cf.n s o.op))
 | .slice t x lo hi mx=>(match mx with
  | none=>JR P t (cm cf.n s x) (lo.map (cm cf.n s)) (hi.map (cm cf.n s)) K
  | some _=> .no)
 | .call c=>(match c.callee with
  | .builtin b=>(match b with
   | .len=>(match c.args.toList,c.argTypes.toList with
    | [x],[t]=>IG P t (cm cf.n s x) K
    | _,_=> .no)
   | _=> .no)
  | .value f=>(match cm cf.n s f with
   | .fn g caps=>Fb cf.mB g (c.args.toList.map (cm cf.n s)++caps) s K
   | _=> .no)
  | _=> .no)
 | .buildSlice t m ps=>xc cf.FV t fun e=>C6 s e (ps.toList.map fun p=>cm cf.n s p.2) fun xs=>qY (fun H Q=>jp P o (fun x=>(cm cf.n s x).bb) s.b4 H Q) K (.v (QQ e xs (ps.toList.map fun p=>cm cf.n s p.2)))
 | op=>qY (fun H Q=>jp P o (fun x=>(cm cf.n s x).bb) s.b4 H Q) K (gs P cf.n s op)
end
theorem I3 {e:aH} {xs:List e.T} {i:Int} (h:i.toNat<xs.length) (fr:Bool):(xs.map (ca fr e))[i.toNat]?=some (ca fr e (s0 e xs i)):=by
 rw[List.getElem?_map]
 have:xs[i.toNat]?=some (s0 e xs i):=by
  have:= @gX e.T e.uE xs i h
  exact this
 rw[this];rfl
section
variable {P:Program} {cf:gA P} {s:TS} {R:Exit→TS→Prop} {K:TV→aw} {Kp:AV→Prop}
theorem afT {t:TypeId} {x:TV} {lo hi:Option TV} {H:List Blk} (hK: ∀v,(K v).den R→Kp v.bb) (h:(JR P t x lo hi K).den R):vj P t x.bb (lo.map TV.bb) (hi.map TV.bb) H Kp:=by
 unfold JR at h
 split at h
 ·rename_i e xs c8 fr
  have eK: ∀{m:Nat},m=e.jQ→ ∀(i:Nat) (row:List AV),(List.map (ca false e) xs)[i]?=some row→row.length=m:=fun hm i row ai=>by
   rw[List.getElem?_map] at ai
   cases hx:xs[i]? with
   | none=>rw[hx] at ai;cases ai
   | some x=>rw[hx] at ai;cases ai;rw[tN,hm]
  split at h
  ·split at h
   ·rename_i k b
    obtain⟨h1,h2,h⟩:=h
    obtain⟨nd,q1,q2,q3⟩:=wZ h1
    refine dF q1 ?_
    rw[if_pos q2]
    refine⟨h2.1,Nat.zero_le _,by rw[List.length_map];omega,eK q3,?_⟩
    rw[List.drop_zero,Nat.sub_zero,←List.map_take];exact hK _ h
   ·exact h.elim
  ·split at h
   ·rename_i k a
    obtain⟨h1,h2,h⟩:=h
    obtain⟨nd,q1,q2,q3⟩:=wZ h1
    refine dF q1 ?_
    rw[if_pos q2]
    refine⟨h2.1,by rw[List.length_map];omega,Nat.le_refl _,eK q3,?_⟩
    rw[List.take_of_length_le (by rw[List.length_drop];omega),←List.map_drop];exact hK _ h
   ·exact h.elim
  ·exact h.elim
 ·exact h.elim
end
section
variable {P:Program} {cf:gA P} {s:TS} {R:Exit→TS→Prop} {K:TV→aw} {Kp:AV→Prop}
theorem adf {t:TypeId} {x:TV} (hK: ∀v,(K v).den R→Kp v.bb) (h:(IG P t x K).den R):eo (js P t x.bb) (rG x.bb Kp):=by
 unfold IG at h
 split at h
 ·obtain⟨h1,h⟩:=h
  rw[h1]
  show Kp (.int .i64 ((List.map _ _).length:Nat))
  rw[List.length_map];exact hK _ h
 ·obtain⟨h1,h⟩:=h;rw[h1];exact hK _ h
 ·obtain⟨h1,h⟩:=h;rw[h1];exact hK _ h
 ·obtain⟨h1,h⟩:=h;rw[h1];exact hK _ h
 ·obtain⟨h1,h⟩:=h;rw[h1];exact hK _ h
 ·exact h.elim
end
section
variable {P:Program} {cf:gA P} {s:TS} {R:Exit→TS→Prop} {K:TV→aw} {Kp:AV→Prop}
theorem IM {l:List (Nat×aH)} {t:Nat} {K:aH→aw} (h:(xc l t K).den R): ∃e,(K e).den R:=by
 induction l with
 | nil=>exact h.elim
 | cons p r bn=>
  obtain⟨k,e⟩:=p
  unfold xc at h
  split at h
  ·exact⟨e,h⟩
  ·exact bn h
end
section
variable [FZ] {P:Program} {cf:gA P} {s:TS} {R:Exit→TS→Prop} {K:TV→aw} {Kp:AV→Prop}
variable (av:Fits s)
theorem aad {t:TypeId} {b g m:Nat} {i:Int} {k:IntKind} {c8:Bool} (hK: ∀v,(K v).den R→Kp v.bb) (h:(Hx P t b g m i s (s.get (br b)) K).den R):wY P t (.ref b g 0 m c8) (.int k i) (s.al cf.n).H Kp:=by
 unfold Hx at h
 split at h
 ·rename_i c0 gW ids aB
  split at h
  ·rename_i hb
   have hb:b<s.aT:=by rw[←Nat.blt_eq];exact hb
   obtain⟨h1,h2,ay,h⟩:=h
   subst h1
   obtain⟨nd,q1,q2,q3⟩:=wZ h2
   refine dF q1 ?_
   rw[if_pos q2]
   refine dF (by rw[r4 hb,aB]) ⟨rfl,q3.symm,ay.1,by have:=ay.2;omega,?_⟩
   rw[Nat.zero_add];exact hK _ h
  ·exact h.elim
 ·obtain⟨e,xs,e0,hm,h,hb,an⟩:=vW (n:=cf.n) h
  obtain⟨h1,h2,h⟩:=h
  obtain⟨nd,q1,q2,q3⟩:=wZ h1
  refine dF q1 ?_
  rw[if_pos q2]
  refine dF an ⟨rfl,q3.symm,h2.1,by have:=h2.2;omega,?_⟩
  rw[Nat.zero_add];exact hK _ h
include av in
theorem Gb {V:List aC} {ids:List Nat} {w:Int} {bJ:Nat} {hv:V.length=bJ} (hk:s.get de= .gw V ids bJ hv) (hw:w.toNat<V.length):(s.al cf.n).H[nth ids w+s.aT]?=some (bK (nth V w).ak):=by
 obtain⟨G,e,_⟩:=av V ids _ _ hk
 have ao:=jz G.ok
 rw[e] at ao
 have hid:=G.ok.lt w.toNat _ (gX (xs:=ids) (i:=w) (by have:=G.ok.len;omega))
 refine MR hk ?_
 rw[p1 hid,←e,Ew G.ok (by rw[e];exact hw)]
include av in
theorem aaf {t:TypeId} {w:Int} {ids:List Nat} {m c:Nat} {i:Int} {k:IntKind} (hK: ∀v,(K v).den R→Kp v.bb) (h:(Hy P t w ids m c i s K).den R):wY P t (.ref (nth ids w+m) 0 0 c false) (.int k i) (s.al cf.n).H Kp:=by
 unfold Hy at h
 split at h
 ·rename_i V cZ bJ ka hk
  obtain⟨h1,h2,ay,bg,h⟩:=h
  subst h1;subst h2
  obtain⟨nd,q1,q2,q3⟩:=wZ ay
  refine dF q1 ?_
  rw[if_pos q2]
  refine dF (Gb av hk bg.1) ⟨rfl,q3.symm,bg.2.1,by have:=bg.2.2;omega,?_⟩
  rw[Nat.zero_add];exact hK _ h
 ·exact h.elim
include av in
theorem aai {t:TypeId} {x i:TV} (hK: ∀v,(K v).den R→Kp v.bb) (h:(Hz P t x i s K).den R):wY P t x.bb i.bb (s.al cf.n).H Kp:=by
 unfold Hz at h
 split at h
 ·split at h
  ·obtain⟨h1,h2,h⟩:=h
   obtain⟨nd,q1,q2,q3⟩:=wZ h1
   refine dF q1 ?_
   rw[if_pos q2]
   exact⟨h2.1,dF (I3 h2.2 false) ⟨by rw[tN,q3],hK _ h⟩⟩
  ·exact aad hK h
  ·exact aaf av hK h
  ·exact h.elim
 ·exact h.elim
include av in
theorem ac4 {t:TypeId} {w:Int} {ids:List Nat} {m:Nat} {j:Int} (hK: ∀v,(K v).den R→Kp v.bb) (h:(IE P t w ids m j s K).den R):oo P t (.ptr (nth ids w+m) 0 j.toNat 0) (s.al cf.n).L (s.al cf.n).H Kp:=by
 unfold IE at h
 split at h
 ·rename_i V cZ bJ ka hk
  obtain⟨h1,h2,ay,h⟩:=h
  subst h1;subst h2
  exact dF (Gb av hk ay.1) ⟨rfl,dF (yW ay.2) (sr [] hK h)⟩
 ·exact h.elim
include av in
theorem ac5 {t:TypeId} {b g m c:Nat} {i:Int} (hK: ∀v,(K v).den R→Kp v.bb) (h:(IF P t b g i m c s K).den R):oo P t (.ptr b g i.toNat c) (s.al cf.n).L (s.al cf.n).H Kp:=by
 unfold IF at h
 split at h
 ·rename_i c0 gW ids aB
  split at h
  ·rename_i hb
   have hb:b<s.aT:=by rw[←Nat.blt_eq];exact hb
   split at h
   ·rename_i V cZ bJ ka hk
    obtain⟨h1,h2,ay,h⟩:=h
    subst h1;subst h2
    obtain⟨G,e,_⟩:=av V cZ _ _ hk
    exact dF (by rw[r4 hb,aB]) ⟨rfl,dF (afq G e ay) (sr [] hK h)⟩
   ·exact h.elim
  ·exact h.elim
 ·rename_i c0 aj aB
  split at h
  ·rename_i hb
   have hb:b<s.aT:=by rw[←Nat.blt_eq];exact hb
   obtain⟨h1,h2,h⟩:=h
   subst h1;subst h2
   exact dF (by rw[r4 hb,aB]) ⟨rfl,dF (a:=cu aj) rfl (sr [] hK h)⟩
  ·exact h.elim
 ·obtain⟨e,xs,e0,hm,h,hb,an⟩:=vW (n:=cf.n) h
  obtain⟨h1,h2,h⟩:=h
  refine dF an ⟨rfl,dF (I3 (by omega) true) ?_⟩
  exact sr [] hK h
include av in
theorem Se {o:Oper} (hK: ∀v,(K v).den R→Kp v.bb) (h:(rT cf s o K).den R):jp P o (bY (s.al cf.n).T) (s.al cf.n).L (s.al cf.n).H Kp:=by
 rw[ku]
 obtain⟨dst,op,ty,pos,after,guard⟩:=o
 unfold rT at h
 split at h
 ·rename_i x ft;cases ft;rw[p4] at h;exact hK _ h
 ·rename_i x ft;cases ft;rw[p4] at h;exact hK _ h
 ·rename_i t x i ft;cases ft;exact aai av hK h
 ·rename_i t a ft
  cases ft
  split at h
  ·rename_i b g i m c ap
   show oo P t (cm cf.n s a).bb _ _ Kp
   rw[ap];exact ac5 av hK h
  ·rename_i w ids m j ap
   show oo P t (cm cf.n s a).bb _ _ Kp
   rw[ap];exact ac4 av hK h
  ·exact sr (F:=fun H Q=>jp P _ _ _ H Q) _ hK h
 ·rename_i t x lo hi mx ft
  cases ft
  split at h
  ·have:=afT (H:=(s.al cf.n).H) hK h
   show vj P t _ (lo.map _) (hi.map _) _ Kp
   rw[Option.map_map,Option.map_map] at this
   exact this
  ·exact h.elim
 ·rename_i c ft
  cases ft
  obtain⟨callee,args,argTypes⟩:=c
  split at h
  ·rename_i b hb
   cases hb
   split at h
   ·show(match args.toList,argTypes.toList with
     | [x],[t]=>eo (js P t ((fun x=>(cm cf.n s x).bb) x)) (rG ((fun x=>(cm cf.n s x).bb) x) Kp)
     | _,_=>False)
    split at h
    ·rename_i x t h1 h2
     simp only at h1 h2
     simp only[h1,h2];exact adf hK h
    ·exact h.elim
   ·exact h.elim
  ·rename_i f hf
   cases hf
   show k7 (cm cf.n s f).bb fun g caps=>oa P g (args.toList.map (fun x=>(cm cf.n s x).bb)++caps) _ _ Kp
   split at h
   ·rename_i g caps hc
    rw[hc]
    have:=Wa (n:=cf.n) av hK h
    rw[nm,List.map_append,List.map_map] at this
    show oa P g (_++cu caps) _ _ Kp
    rw[nm];exact this
   ·exact h.elim
  ·exact h.elim
 ·rename_i t m ps ft
  cases ft
  obtain⟨e,h⟩:=IM h
  obtain⟨xs,h⟩:=IL (n:=cf.n) av h
  exact sr (F:=fun H Q=>jp P _ _ _ H Q) _ hK h
 ·exact sr (F:=fun H Q=>jp P _ _ _ H Q) _ hK h
end
theorem ji {n:Int} (h1: -9223372036854775808≤n) (h2:n≤9223372036854775807):IntKind.i64.wrap n=n:=by
 rw[IntKind.wrap_i64];omega
def cc (x a b:Int):Bool:=decide (a≤x)&&decide (x≤b)
theorem zP {x a b:Int}:cc x a b=true↔a≤x∧x≤b:=by simp[cc]
theorem h7 {α:Type} [Inhabited α] {xs:List α} {i:Int} (h:i.toNat<xs.length):nth xs i=xs[i.toNat]:=by
 have:=gX h
 rw[List.getElem?_eq_getElem h] at this
 exact(Option.some.inj this).symm
theorem eP {α:Type} [Inhabited α] {xs:List α} {i:Int} (h:i.toNat<xs.length):nth xs i∈xs:=by rw[h7 h];exact List.getElem_mem h
theorem jt {α:Type} [Inhabited α] {xs:List α} {i:Nat} (h:i<xs.length):nth xs (i:Int)=xs[i]:=by rw[h7 (by simpa using h)];simp
def first {α:Type} (xs:List α) (p:α→Bool):Option Nat:=xs.findIdx? p
theorem Xn {α:Type} {xs:List α} {p:α→Bool} (h: ∀x∈xs,p x=false):first xs p=none:=by
 unfold first;rw[List.findIdx?_eq_none_iff];exact h
theorem Xo {α:Type} [Inhabited α] {xs:List α} {p:α→Bool} {i:Int} (h: ∀x∈xs.take i.toNat,p x=false) (hi:i.toNat<xs.length) (ab:p (nth xs i)=true):first xs p=some i.toNat:=by
 unfold first
 rw[List.findIdx?_eq_some_iff_getElem]
 refine⟨hi,by rw[←h7 hi];exact ab,fun j af=> ?_⟩
 have:=h xs[j] (by rw[List.mem_take_iff_getElem];exact⟨j,by omega,rfl⟩)
 simp[this]
def Dq (o:Option Nat):Int:=match o with
 | some i=>i
 | none=> -1
def mV (xs:List Int) (v:Int):Int:=Dq (first xs (fun x=>v==x))
def fZ (xs:List Int) (v:Int):Bool:=xs.contains v
def ru (xs:List Bool) (v:Bool):Int:=Dq (first xs (fun x=>v==x))
def j6 (xs:List Bool) (v:Bool):Bool:=xs.contains v
def aI {α:Type} (x:α):α:=x
def meets (a b:List Int):Bool:=a.any fun x=>b.contains x
def dup (l:List Int):Bool:= !decide l.Nodup
def bS (w:Way):List cR:=w.bp++w.cv
def hC (l:List Int) (n:Int):Bool:=decide (l.length≤30)&&l.all (fun x=>cc x 0 (n - 1))&&decide l.Nodup
def lK (p:aV) (l:List cR):Bool:=decide (l.length≤30)&&l.all (fun x=>cc x.bd 0 (p.bf.length - 1)&&cc x.bG 1 2)&&decide (l.map (·.bd)).Nodup
def hy (p:aV) (w:Way):Bool:=
 decide (w.ah≠[])&&hC w.ah p.ah&&hC w.cK p.ah&&hC w.eS p.ah&&lK p w.bp&&lK p w.cv&&
 decide ((bS w).map (·.bd)).Nodup&&w.bp.all (fun x=>w.ah.contains (nth p.bf x.bd))&& !meets w.ah w.cK
def sh (p:aV) (i k:Nat):Bool:=nth (nth p.bk i) k
def oU (p:aV) (i k:Nat):Bool:=(sh p i k !=sh p k i) || (decide (i≠k)&& !sh p i k&&meets (nth p.O i).ah (nth p.O k).ah)
def oz (p:aV):oR:=if p.bk.length=p.O.length then
  match first p.bk (fun b=>decide (b.length≠p.O.length)) with
  | some k=>⟨4,k⟩
  | none=>match first (List.range p.O.length) (fun i=>(List.range p.O.length).any fun k=>oU p i k) with
   | some k=>⟨5,k⟩
   | none=>⟨0,0⟩
 else⟨4,0⟩
def xu (p:aV):oR:=match first p.O (fun w=> !hy p w) with
 | some k=>⟨3,k⟩
 | none=>oz p
def xt (p:aV):oR:=match first p.bf (fun s=> !cc s 0 (p.ah - 1)) with
 | some k=>⟨2,k⟩
 | none=>xu p
def ho (p:aV):oR:=if cc p.ah 1 60&&cc p.cY 1 300&&decide (p.bf.length≤40)&&decide (p.O.length≤100) then xt p else⟨1,0⟩
def gY (p:aV):Bool:=decide (ho p=⟨0,0⟩)
def eO (n:Nat) (left:Int):Int:=if left<n then -1 else left - n
def r8 (w:Way):Nat:=w.ah.length+w.bp.length+w.cv.length+w.cK.length+w.eS.length
def yo (ws:List Way):Nat:=ws.length+(ws.map r8).sum
def tI (bs:List (List Bool)):Nat:=bs.length+(bs.map List.length).sum
def kw (p:aV):Nat:=p.bf.length+yo p.O+tI p.bk
def ud (ws:List aC):Nat:=ws.length+(ws.map fun h=>h.ak.length).sum
def o3 (f:Frame):Nat:=f.aG.length+f.aq.length+ud f.O
theorem QK {n m:Nat} {left:Int} (au:0≤left):eO (n+m) left=if eO n left<0 then -1 else eO m (eO n left):=by
 unfold eO
 split<;>split<;>(try split)<;>(try split)<;>omega
def dG {α:Type} (a:List α) (left:Int):Int:=eO a.length left
def qD (w:Way) (left:Int):Int:=eO (r8 w) left
def x9 (w:List Way) (left:Int):Int:=eO (yo w) left
def tm (w:List (List Bool)) (left:Int):Int:=eO (tI w) left
def pI (p:aV) (left:Int):Int:=eO (kw p) left
def qC (h:aC) (left:Int):Int:=eO h.ak.length left
def tn (h:List aC) (left:Int):Int:=eO (ud h) left
def r5 (f:Frame) (left:Int):Int:=eO (o3 f) left
def fE {α:Type} (a:α) (left:Int):Prop:=0≤left∧left≤1048576
def small {α:Type} (a:List α):Prop:=a.length≤1048576
def AN (w:Way):Prop:=r8 w≤1048576
def D4 (w:List Way):Prop:=yo w≤1048576
def D1 (w:List (List Bool)):Prop:=tI w≤1048576
def JZ (p:aV):Prop:=kw p≤1048576
def eqv {α:Type} [DecidableEq α] (a b:α):Bool:=decide (a=b)
def qH {α:Type} (a:α):Bool:=true
def Al (l:List Int) (n:Int):Prop:= -9223372036854775808<n∧n≤9223372036854775807
def Je (p:aV) (w:Way):Prop:= -9223372036854775808<p.ah∧p.ah≤9223372036854775807
def Am (w:Way):Prop:=w.bp.length≤1048576∧w.cv.length≤1048576
def p2 {α β:Type} (a:List α) (f:α→β) (d:β) (i:Int):List β:=(a.take i.toNat).map f++List.replicate (a.length - i.toNat) d
theorem Xj {α β:Type} (a:List α) (f:α→β) (d:β):p2 a f d 0=List.replicate a.length d:=by simp[p2]
theorem Gd {α β:Type} {a:List α} {f:α→β} {d:β} {i:Int} (h:i≤a.length):(p2 a f d i).length=a.length:=by
 simp[p2];omega
theorem Xk {α β:Type} [Inhabited α] {a:List α} {f:α→β} {d:β} {i:Int} (au:0≤i) (h:i.toNat<a.length):(p2 a f d i).set i.toNat (f (nth a i))=p2 a f d (i+1):=by
 unfold p2
 rw[show(i+1).toNat=i.toNat+1 by omega,List.take_succ_eq_append_getElem h,List.set_append_right _ _ (by simp;omega)]
 have:List.replicate (a.length - i.toNat) d=d::List.replicate (a.length - (i.toNat+1)) d:=by
  rw[←List.replicate_succ];congr 1;omega
 rw[this,h7 h]
 have ao:((a.take i.toNat).map f).length=i.toNat:=by simp;omega
 rw[ao]
 simp
 rw[←List.map_take,←List.map_take,List.take_succ_eq_append_getElem h,List.map_append]
 simp
theorem Xi {α β:Type} {a:List α} {f:α→β} {d:β} {i:Int} (h:(a.length:Int)≤i):p2 a f d i=a.map f:=by
 unfold p2
 rw[List.take_of_length_le (by omega),show a.length - i.toNat=0 by omega]
 simp
def cj (N:Int) (p:Int→Bool) (v:Int):Prop:=0≤v∧v≤N∧ ∀j:Int,0≤j→j<v→p j=false
def cB (N:Int) (v:Int):Nat:=(N - v).toNat
theorem dp {N:Int} {p:Int→Bool} (h:0≤N):cj N p 0:=⟨Int.le_refl _,h,fun j au h1=>by omega⟩
theorem nh {N v:Int} (ad:N≤4611686018427387904) (au:0≤v) (hv:v<N):IntKind.i64.wrap (v+1)=v+1:=ji (by omega) (by omega)
theorem df {N v:Int} {p:Int→Bool} (ad:N≤4611686018427387904) (h:cj N p v) (hv:decide (v<N)=true) (ab:p v=false):cj N p (IntKind.i64.wrap (v+1))∧cB N (IntKind.i64.wrap (v+1))<cB N v:=by
 obtain⟨au,h1,h2⟩:=h
 have hv:v<N:=by simpa using hv
 rw[nh ad au hv]
 refine⟨⟨by omega,by omega,fun j bX ed=> ?_⟩,by unfold cB;omega⟩
 rcases Int.lt_or_eq_of_le (show j≤v by omega) with ao | rfl
 ·exact h2 j bX ao
 ·exact ab
theorem gp {N v:Int} {p:Int→Bool} (h:cj N p v) (hv:decide (v<N)=false): ∀j:Int,0≤j→j<N→p j=false:=by
 obtain⟨au,h1,h2⟩:=h
 have hv: ¬v<N:=by simpa using hv
 exact fun j bX ed=>h2 j bX (by omega)
theorem cy {α:Type} {xs:List α} {v:Int} {p:Int→Bool} (h:cj xs.length p v) (hv:decide (v<(xs.length:Int))=true):0≤v∧v.toNat<xs.length:=by
 have hv:v<(xs.length:Int):=by simpa using hv
 exact⟨h.1,by have:=h.1;omega⟩
theorem c2 {α:Type} {xs:List α} (h:xs.length≤4611686018427387904):(xs.length:Int)≤4611686018427387904:=by omega
theorem c9 {α:Type} (xs:List α):0≤(xs.length:Int):=by omega
theorem lT {α:Type} [Inhabited α] {xs:List α} {q:α→Bool} (h: ∀j:Int,0≤j→j<xs.length→q (nth xs j)=false): ∀x∈xs,q x=false:=fun x hx=>by
 obtain⟨i,hi,rfl⟩:=List.mem_iff_getElem.1 hx
 have:=h i (by omega) (by omega)
 rwa [jt hi] at this
theorem pK {α:Type} [Inhabited α] {xs:List α} {q:α→Bool} {v:Int} (h:cj xs.length (fun j=>q (nth xs j)) v) (hv:decide (v<(xs.length:Int))=true) (ab:q (nth xs v)=true):first xs q=some v.toNat:=by
 have hi:=cy h hv
 refine Xo (fun x hx=> ?_) hi.2 ab
 obtain⟨i,f_,rfl⟩:=List.mem_take_iff_getElem.1 hx
 have:q (nth xs (i:Int))=false:=h.2.2 i (by omega) (by omega)
 rwa [jt (by omega)] at this
theorem pL {α:Type} [Inhabited α] {xs:List α} {q:α→Bool} {v:Int} (h:cj xs.length (fun j=>q (nth xs j)) v) (hv:decide (v<(xs.length:Int))=false):first xs q=none:=
 Xn (lT (gp h hv))
theorem Eu {α:Type} [Inhabited α] {xs:List α} {q:α→Bool} {v:Int} (h:cj xs.length (fun j=>q (nth xs j)) v) (hv:decide (v<(xs.length:Int))=true) (ab:q (nth xs v)=true):xs.any q=true:=by
 rw[List.any_eq_true];exact⟨_,eP (cy h hv).2,ab⟩
theorem A4 {α:Type} [Inhabited α] {xs:List α} {q:α→Bool} {v:Int} (h:cj xs.length (fun j=>q (nth xs j)) v) (hv:decide (v<(xs.length:Int))=false):xs.any q=false:=by
 rw[List.any_eq_false]
 intro x hx
 rw[lT (gp h hv) x hx];simp
theorem not_eq {b:Bool} (h:(!b)=true):b=false:=by simpa using h
theorem JI {α:Type} [Inhabited α] {a b:List α} (ao:a.length=b.length) (h: ∀j:Int,0≤j→j<a.length→nth a j=nth b j):a=b:=by
 apply List.ext_getElem ao
 intro i h1 h2
 have:=h i (by omega) (by omega)
 rwa [jt h1,jt h2] at this
theorem p0 {α:Type} [Inhabited α] [DecidableEq α] {a b:List α} {ne:Int→Bool} (bN: ∀v,ne v=true↔nth a v≠nth b v):
  ((a.length≤4611686018427387904)∧(b.length≤4611686018427387904)→((a.length:Int) !=(b.length:Int))=true→false=eqv a b)∧((a.length≤4611686018427387904)∧(b.length≤4611686018427387904)∧((!((a.length:Int) !=(b.length:Int)))=true)→
   cj a.length ne 0∧ ∀(v:Int),cj a.length ne v→(((decide (v<(a.length:Int)))=false→true=eqv a b)∧((decide (v<(a.length:Int)))=true→(((0≤v∧v.toNat<a.length)∧(0≤v∧v.toNat<b.length))∧((ne v)=true→false=eqv a b))∧
    ((!(ne v))=true→cj a.length ne (IntKind.i64.wrap (v+1))∧cB a.length (IntKind.i64.wrap (v+1))<cB a.length v)))):=by
 refine⟨fun _ h=> ?_,fun⟨h1,h2,ay⟩=> ?_⟩
 ·have:a≠b:=fun e=>by subst e;simp at h
  simp[eqv,this]
 ·have ao:a.length=b.length:=by have:(a.length:Int)=b.length:=by simpa using ay
                                omega
  refine⟨dp (c9 a),fun v aR=>⟨fun hv=> ?_,fun hv=>⟨⟨⟨cy aR hv,by rw[←ao];exact cy aR hv⟩,fun ad=> ?_⟩,fun ad=>df (c2 h1) aR hv (not_eq ad)⟩⟩⟩
  ·have:a=b:=JI ao fun j bX ed=>by
    have U:=gp aR hv j bX ed
    by_cases he:nth a j=nth b j
    ·exact he
    ·rw[(bN j).2 he] at U;cases U
   simp[eqv,this]
  ·have:a≠b:=fun e=>(bN v).1 ad (by rw[e])
   simp[eqv,this]
def nu {α β:Type} (a:List α) (f:α→β) (d:β) (x:List β) (v:Int):Prop:=0≤v∧v≤a.length∧x=p2 a f d v
def od {α β:Type} (a:List α) (x:List β) (v:Int):Nat:=(a.length - v).toNat
theorem B7 {α β:Type} [Inhabited α] {a:List α} {f:α→β} {d:β} {aa:List β} {φ:Int→Prop} (hs:a.length≤4611686018427387904) (ai:a.map f=aa) (ek: ∀v:Int,0≤v→v.toNat<a.length→φ v):
  nu a f d (List.replicate (a.length:Int).toNat d) 0∧ ∀(x:List β) (v:Int),nu a f d x v→(((decide (v<(a.length:Int)))=false→x.length≤4611686018427387904∧x=aa)∧((decide (v<(a.length:Int)))=true→((0≤v∧v.toNat<a.length)∧(φ v∧((0≤v∧v.toNat<x.length)∧v.toNat<x.length)))∧
   (nu a f d (x.set v.toNat (f (nth a v))) (IntKind.i64.wrap (v+1))∧od a (x.set v.toNat (f (nth a v))) (IntKind.i64.wrap (v+1))<od a x v))):=by
 refine⟨⟨Int.le_refl _,c9 a,by rw[Xj];simp⟩,fun x v ⟨au,h1,hx⟩=>⟨fun hv=> ?_,fun hv=> ?_⟩⟩
 ·have hv: ¬v<(a.length:Int):=by simpa using hv
  subst hx
  exact⟨by rw[Gd h1];exact hs,by rw[Xi (by omega)];exact ai⟩
 ·have hv:v<(a.length:Int):=by simpa using hv
  have aN:v.toNat<a.length:=by omega
  subst hx
  refine⟨⟨⟨au,aN⟩,ek v au aN,⟨au,by rw[Gd h1];exact aN⟩,by rw[Gd h1];exact aN⟩,?_⟩
  rw[nh (c2 hs) au hv]
  exact⟨⟨by omega,by omega,Xk au aN⟩,by unfold od;omega⟩
theorem B8 {α β:Type} [Inhabited α] {a:List α} {f:α→β} {d:β} {aa:List β} (hs:a.length≤4611686018427387904) (ai:a.map f=aa):
  nu a f d (List.replicate (a.length:Int).toNat d) 0∧ ∀(x:List β) (v:Int),nu a f d x v→(((decide (v<(a.length:Int)))=false→x.length≤4611686018427387904∧x=aa)∧((decide (v<(a.length:Int)))=true→((0≤v∧v.toNat<a.length)∧((0≤v∧v.toNat<x.length)∧v.toNat<x.length))∧
   (nu a f d (x.set v.toNat (f (nth a v))) (IntKind.i64.wrap (v+1))∧od a (x.set v.toNat (f (nth a v))) (IntKind.i64.wrap (v+1))<od a x v))):=by
 obtain⟨h1,h2⟩:=B7 (φ:=fun _=>True) (d:=d) hs ai fun _ _ _=>trivial
 exact⟨h1,fun x v aR=>⟨(h2 x v aR).1,fun hv=>⟨⟨((h2 x v aR).2 hv).1.1,((h2 x v aR).2 hv).1.2.2⟩,((h2 x v aR).2 hv).2⟩⟩⟩
theorem QM {n:Nat} {left:Int} (au:0≤left) (h1:left≤1048576) (h: ¬eO n left<0):0≤eO n left∧eO n left≤1048576:=by
 refine⟨by omega,?_⟩
 unfold eO at h ⊢
 split<;>omega
theorem QL {n m:Nat} {left:Int} (au:0≤left) (h:eO n left<0):eO (n+m) left= -1:=by
 rw[QK au,if_pos h]
theorem rH {n m:Nat} {left:Int} (au:0≤left) (h: ¬eO n left<0):eO m (eO n left)=eO (n+m) left:=by
 rw[QK au,if_neg h]
theorem UE {α:Type} {xs:List α} {left:Int} (ad:xs.length≤4611686018427387904) (h:0≤left∧left≤1048576):IntKind.i64.wrap (left - (xs.length:Int))=left - xs.length:=ji (by omega) (by omega)
theorem El {α:Type} {a:List α} {left:Int} (ab:0≤left∧left≤1048576) (ad:a.length≤4611686018427387904):
  ((decide ((IntKind.i64.wrap (left - (a.length:Int)))<0))=true→(-1)=dG a left)∧((!(decide ((IntKind.i64.wrap (left - (a.length:Int)))<0)))=true→(IntKind.i64.wrap (left - (a.length:Int)))=dG a left):=by
 rw[UE ad ab]
 unfold dG eO
 constructor<;>intro h<;>split<;>simp_all<;>omega
def x6 {α:Type} (a:List α) (f:α→Nat) (ac8:Int) (left v:Int):Prop:=0≤v∧v≤a.length∧0≤left∧left≤1048576∧left=eO (a.length+((a.take v.toNat).map f).sum) ac8
def x7 {α:Type} (a:List α) (left v:Int):Nat:=(a.length - v).toNat
theorem K0 {α:Type} [Inhabited α] {a:List α} {f:α→Nat} {g:α→Int→Int} {left:Int} (aB: ∀x l,g x l=eO (f x) l) (ab:0≤left∧left≤1048576) (ad:a.length≤4611686018427387904):
  ((decide ((IntKind.i64.wrap (left - (a.length:Int)))<0))=true→(-1)=eO (a.length+(a.map f).sum) left)∧((!(decide ((IntKind.i64.wrap (left - (a.length:Int)))<0)))=true→
   x6 a f left (IntKind.i64.wrap (left - (a.length:Int))) 0∧ ∀(w:Int) (v:Int),x6 a f left w v→(((decide (v<(a.length:Int)))=false→w=eO (a.length+(a.map f).sum) left)∧((decide (v<(a.length:Int)))=true→
    (((0≤v∧v.toNat<a.length)∧(fE (nth a v) w))∧((decide ((g (nth a v) w)<0))=true→(-1)=eO (a.length+(a.map f).sum) left))∧((!(decide ((g (nth a v) w)<0)))=true→x6 a f left (g (nth a v) w) (IntKind.i64.wrap (v+1))∧x7 a (g (nth a v) w) (IntKind.i64.wrap (v+1))<x7 a w v)))):=by
 rw[UE ad ab]
 refine⟨fun h=> ?_,fun h=>⟨⟨Int.le_refl _,c9 a,?_⟩,fun w v ⟨v0,v1,aD,bi,hw⟩=>⟨fun hv=> ?_,fun hv=> ?_⟩⟩⟩
 ·have h:left - a.length<0:=by simpa using h
  unfold eO;rw[if_pos (by omega)]
 ·have h: ¬left - a.length<0:=by simpa using h
  refine⟨by omega,by omega,?_⟩
  simp only[Int.toNat_zero,List.take_zero,List.map_nil,List.sum_nil,Nat.add_zero]
  unfold eO;rw[if_neg (by omega)]
 ·have hv: ¬v<(a.length:Int):=by simpa using hv
  rw[hw,List.take_of_length_le (by omega)]
 ·have hv:v<(a.length:Int):=by simpa using hv
  have aN:v.toNat<a.length:=by omega
  have hs:((a.take (v+1).toNat).map f).sum=((a.take v.toNat).map f).sum+f (nth a v):=by
   rw[show(v+1).toNat=v.toNat+1 by omega,List.take_succ_eq_append_getElem aN,List.map_append,List.sum_append,h7 aN];simp
  have rc: ¬eO (a.length+((a.take v.toNat).map f).sum) left<0:=by omega
  have fe:g (nth a v) w=eO (a.length+((a.take (v+1).toNat).map f).sum) left:=by
   rw[aB,hw,rH ab.1 rc,hs,Nat.add_assoc]
  refine⟨⟨⟨⟨v0,aN⟩,aD,bi⟩,fun h=> ?_⟩,fun h=> ?_⟩
  ·have h:g (nth a v) w<0:=by simpa using h
   rw[fe] at h
   have aO:(a.map f).sum=((a.take (v+1).toNat).map f).sum+((a.drop (v+1).toNat).map f).sum:=by
    rw[←List.sum_append,←List.map_append,List.take_append_drop]
   rw[aO,←Nat.add_assoc,QL ab.1 h]
  ·have h: ¬g (nth a v) w<0:=by simpa using h
   rw[nh (c2 ad) v0 hv]
   have:=QM ab.1 ab.2 (fe▸h)
   refine⟨⟨by omega,by omega,by rw[fe];exact this.1,by rw[fe];exact this.2,fe⟩,by unfold x7;omega⟩
theorem oI {n m T:Nat} {left:Int} {R:Prop} (ab:0≤left∧left≤1048576) (bZ:T=n+m) (h: ¬eO n left<0→0≤eO n left∧eO n left≤1048576→R):
  ((decide (eO n left<0))=true→(-1)=eO T left)∧((!(decide (eO n left<0)))=true→R):=by
 refine⟨fun aO=> ?_,fun aO=> ?_⟩
 ·have aO:eO n left<0:=by simpa using aO
  rw[bZ,QL ab.1 aO]
 ·have aO: ¬eO n left<0:=by simpa using aO
  exact h aO (QM ab.1 ab.2 aO)
theorem z1 {α:Type} (l:List α):l.map aI=aI l:=by
 show l.map (fun x=>x)=l
 simp
theorem z7 {α:Type} (f:α→Nat) {x:α}: ∀{l:List α},x∈l→f x≤(l.map f).sum
 | [],h=>by cases h
 | y::l,h=>by
  rw[List.map_cons,List.sum_cons]
  rcases List.mem_cons.1 h with rfl | h
  ·omega
  ·have:=z7 f h;omega
theorem tW {xs:List Int} {x:Int}:fZ xs x=true↔x∈xs:=by unfold fZ;simp
theorem YN {xs:List Int} {x k:Int} (hk:k.toNat<xs.length) (h:(x==nth xs k)=true):fZ xs x=true:=by
 rw[tW,show x=nth xs k by simpa using h];exact eP hk
theorem YL {xs:List Int} {x:Int} (h: ∀j:Int,0≤j→j<xs.length→(x==nth xs j)=false):fZ xs x=false:=by
 rw[←Bool.not_eq_true,tW]
 intro hm
 have:=lT (q:=fun y=>x==y) h x hm
 simp at this
theorem aag (xs:List Int) (x:Int):(decide (mV xs x ≥ 0))=fZ xs x:=by
 unfold mV
 cases h:first xs (fun y=>x==y) with
 | none=>
  unfold first at h
  rw[List.findIdx?_eq_none_iff] at h
  have:fZ xs x=false:=by
   rw[←Bool.not_eq_true,tW]
   intro hm
   have:=h x hm
   simp at this
  rw[this];rfl
 | some i=>
  unfold first at h
  rw[List.findIdx?_eq_some_iff_getElem] at h
  obtain⟨hi,ab,_⟩:=h
  have:fZ xs x=true:=by rw[tW,show x=xs[i] by simpa using ab];exact List.getElem_mem hi
  rw[this]
  show decide ((i:Int) ≥ 0)=true
  simp
theorem WU {xs:List Int} {v:Int} (au:0≤v) (hv:v.toNat<xs.length) (h:fZ (xs.take v.toNat) (nth xs v)=true):dup xs=true:=by
 rw[tW] at h
 unfold dup
 simp only[Bool.not_eq_true',decide_eq_false_iff_not]
 intro ad
 obtain⟨i,hi,he⟩:=List.mem_take_iff_getElem.1 h
 rw[h7 hv] at he
 exact(List.pairwise_iff_getElem.1 ad) i v.toNat (by omega) hv (by omega) he
theorem Mx {xs:List Int} (h: ∀j:Int,0≤j→j<xs.length→fZ (xs.take j.toNat) (nth xs j)=false):dup xs=false:=by
 unfold dup
 simp only[Bool.not_eq_false',decide_eq_true_eq]
 unfold List.Nodup
 rw[List.pairwise_iff_getElem]
 intro i j hi af aN he
 have:=h j (by omega) (by omega)
 rw[←Bool.not_eq_true,tW,jt af] at this
 exact this (by rw[List.mem_take_iff_getElem];exact⟨i,by omega,he⟩)
theorem Jz (x n:Int):(decide (x<0) || decide (x ≥ n))= !cc x 0 (n - 1):=by
 rw[Bool.eq_iff_iff]
 simp[cc]
 omega
theorem Q_ {α:Type} {l:List α} (k:Nat):decide ((l.length:Int)≤(k:Int))=decide (l.length≤k):=decide_eq_decide.2 (by omega)
theorem ad4 {α:Type} [Inhabited α] {β:Type} [DecidableEq β] {l:List α} {f:α→β} (h: ∀i j:Int,0≤i→i<j→j<l.length→f (nth l i)≠f (nth l j)):(l.map f).Nodup:=by
 unfold List.Nodup
 rw[List.pairwise_iff_getElem]
 intro i j hi af aN
 simp only[List.length_map] at hi af
 rw[List.getElem_map,List.getElem_map]
 have:=h i j (by omega) (by omega) (by omega)
 rwa [jt hi,jt af] at this
theorem Rg {α:Type} [Inhabited α] {β:Type} [DecidableEq β] {l:List α} {f:α→β} {i j:Int} (au:0≤i) (h1:i<j) (h2:j<l.length) (he:f (nth l i)=f (nth l j)): ¬(l.map f).Nodup:=by
 intro ad
 have:=(List.pairwise_iff_getElem.1 ad) i.toNat j.toNat (by simp;omega) (by simp;omega) (by omega)
 rw[List.getElem_map,List.getElem_map,←h7 (by omega),←h7 (by omega)] at this
 exact this he
theorem map_id' {α:Type} (l:List α):l.map (fun x=>x)=l:=by simp
theorem uM {l:List Int} {n:Int}:hC l n=true↔l.length≤30∧(∀x∈l,cc x 0 (n - 1)=true)∧l.Nodup:=by
 unfold hC;simp[and_assoc]
theorem ado {l:List Int} {n:Int} (h: ∀j:Int,0≤j→j<l.length→(!cc (nth l j) 0 (n - 1) || fZ (l.take j.toNat) (nth l j))=false):hC l n=decide (l.length≤30):=by
 have h1: ∀x∈l,cc x 0 (n - 1)=true:=fun x hx=>by
  have:=lT (q:=fun x=> !cc x 0 (n - 1)) (fun j bX ed=>(Bool.or_eq_false_iff.1 (h j bX ed)).1) x hx
  simpa using this
 have h2:dup l=false:=Mx fun j bX ed=>(Bool.or_eq_false_iff.1 (h j bX ed)).2
 have h2:l.Nodup:=by unfold dup at h2;simpa using h2
 rw[Bool.eq_iff_iff,uM]
 simp only[decide_eq_true_eq]
 exact⟨fun h=>h.1,fun h=>⟨h,h1,h2⟩⟩
theorem QP {l:List Int} {n:Int} {v:Int} (hv:v.toNat<l.length) (h:(!cc (nth l v) 0 (n - 1))=true):hC l n=false:=by
 rw[←Bool.not_eq_true,uM]
 intro bm
 have:=bm.2.1 _ (eP hv)
 simp[this] at h
theorem adn {l:List Int} {n:Int} {i j:Int} (au:0≤i) (h1:i<j) (h2:j<l.length) (he:(nth l i==nth l j)=true):hC l n=false:=by
 rw[←Bool.not_eq_true,uM]
 intro bm
 have:=Rg (f:=fun x=>x) au h1 h2 (by simpa using he)
 rw[map_id'] at this
 exact this bm.2.2
theorem YM {l:List Int} {v:Int} (au:0≤v) (hv:v<l.length) (h: ∀j:Int,0≤j→j<v→(nth l j==nth l v)=false):fZ (l.take v.toNat) (nth l v)=false:=by
 rw[←Bool.not_eq_true,tW]
 intro hm
 obtain⟨i,hi,he⟩:=List.mem_take_iff_getElem.1 hm
 have:=h i (by omega) (by omega)
 rw[jt (by omega),he] at this
 simp at this
theorem mY {p:aV} {l:List cR}:lK p l=true↔l.length≤30∧(∀x∈l,(cc x.bd 0 (p.bf.length - 1)&&cc x.bG 1 2)=true)∧(l.map (·.bd)).Nodup:=by
 unfold lK;simp[and_assoc]
def oq (p:aV) (x:cR):Bool:=(!cc x.bd 0 (p.bf.length - 1)) || (!cc x.bG 1 2)
theorem zU (p:aV) (x:cR):oq p x= !(cc x.bd 0 (p.bf.length - 1)&&cc x.bG 1 2):=by unfold oq;rw[Bool.not_and]
def zV (l:List cR) (j:Int):Bool:=(l.take j.toNat).any fun y=>y.bd==(nth l j).bd
theorem adl {p:aV} {l:List cR} (h: ∀j:Int,0≤j→j<l.length→(oq p (nth l j) || zV l j)=false):lK p l=decide (l.length≤30):=by
 have h1: ∀x∈l,(cc x.bd 0 (p.bf.length - 1)&&cc x.bG 1 2)=true:=fun x hx=>by
  have:=lT (q:=oq p) (fun j bX ed=>(Bool.or_eq_false_iff.1 (h j bX ed)).1) x hx
  rw[zU] at this
  simpa using this
 have h2:(l.map (·.bd)).Nodup   :=ad4 fun i j au h1 af=>by
  have:=(Bool.or_eq_false_iff.1 (h j (by omega) af)).2
  unfold zV at this
  rw[List.any_eq_false] at this
  have:=this (nth l i) (by rw[h7 (by omega)];exact List.mem_take_iff_getElem.2 ⟨i.toNat,by omega,rfl⟩)
  simpa using this
 rw[Bool.eq_iff_iff,mY]
 simp only[decide_eq_true_eq]
 exact⟨fun h=>h.1,fun h=>⟨h,h1,h2⟩⟩
theorem adm {p:aV} {l:List cR} {v:Int} (hv:v.toNat<l.length) (h:oq p (nth l v)=true):lK p l=false:=by
 rw[←Bool.not_eq_true,mY]
 intro bm
 rw[zU,bm.2.1 _ (eP hv)] at h
 cases h
theorem adk {p:aV} {l:List cR} {i j:Int} (au:0≤i) (h1:i<j) (h2:j<l.length) (he:((nth l i).bd==(nth l j).bd)=true):lK p l=false:=by
 rw[←Bool.not_eq_true,mY]
 exact fun bm=>Rg (f:=fun x:cR=>x.bd) au h1 h2 (by simpa using he) bm.2.2
theorem adi {l:List cR} {v:Int} (au:0≤v) (hv:v<l.length) (h: ∀j:Int,0≤j→j<v→((nth l j).bd==(nth l v).bd)=false):zV l v=false:=by
 unfold zV
 rw[List.any_eq_false]
 intro y aS
 obtain⟨i,hi,rfl⟩:=List.mem_take_iff_getElem.1 aS
 have:=h i (by omega) (by omega)
 rw[jt (by omega)] at this
 rw[this];simp
theorem adF (a b:List Int):meets a b=meets b a:=by
 unfold meets
 rw[Bool.eq_iff_iff]
 simp only[List.any_eq_true,List.contains_iff_mem]
 exact⟨fun⟨x,h1,h2⟩=>⟨x,h2,h1⟩,fun⟨x,h1,h2⟩=>⟨x,h2,h1⟩⟩
theorem xd (x:Int) (b:List Int):meets [x] b=b.contains x:=by unfold meets;simp
theorem oQ {p:aV} {w:Way}:hy p w=true↔w.ah≠[]∧hC w.ah p.ah=true∧hC w.cK p.ah=true∧hC w.eS p.ah=true∧lK p w.bp=true∧lK p w.cv=true∧
  ((bS w).map (·.bd)).Nodup∧(∀x∈w.bp,w.ah.contains (nth p.bf x.bd)=true)∧meets w.ah w.cK=false:=by
 unfold hy;simp[and_assoc]
theorem IZ {w:Way}:((bS w).map (·.bd)).Nodup↔(w.bp.map (·.bd)).Nodup∧(w.cv.map (·.bd)).Nodup∧ ∀x∈w.bp,∀y∈w.cv,x.bd≠y.bd:=by
 unfold bS
 rw[List.map_append,List.nodup_append]
 simp only[List.mem_map]
 constructor
 ·rintro⟨h1,h2,ay⟩;exact⟨h1,h2,fun x hx y aS=>ay _ ⟨x,hx,rfl⟩ _ ⟨y,aS,rfl⟩⟩
 ·rintro⟨h1,h2,ay⟩
  refine⟨h1,h2,?_⟩
  rintro a ⟨x,hx,rfl⟩ b ⟨y,aS,rfl⟩
  exact ay x hx y aS
def kv (p:aV):Bool:=cc p.ah 1 60&&cc p.cY 1 300&&decide (p.bf.length≤40)&&decide (p.O.length≤100)
theorem Ja {p:aV} (h:kv p=false):ho p=⟨1,0⟩:=by
 unfold ho;unfold kv at h;rw[if_neg (by rw[h];simp)]
theorem Jb {p:aV} (h:kv p=true):ho p=xt p:=by
 unfold ho;unfold kv at h;rw[if_pos h]
theorem RK {p:aV} {k:Nat} (hb:kv p=true) (h:first p.bf (fun s=> !cc s 0 (p.ah - 1))=some k):ho p=⟨2,k⟩:=by rw[Jb hb];unfold xt;rw[h]
theorem RN {p:aV} (hb:kv p=true) (h:first p.bf (fun s=> !cc s 0 (p.ah - 1))=none):ho p=xu p:=by rw[Jb hb];unfold xt;rw[h]
theorem RL {p:aV} {k:Nat} (hb:kv p=true) (h:first p.bf (fun s=> !cc s 0 (p.ah - 1))=none) (hw:first p.O (fun w=> !hy p w)=some k):ho p=⟨3,k⟩:=by rw[RN hb h];unfold xu;rw[hw]
theorem RM {p:aV} (hb:kv p=true) (h:first p.bf (fun s=> !cc s 0 (p.ah - 1))=none) (hw:first p.O (fun w=> !hy p w)=none):ho p=oz p:=by rw[RN hb h];unfold xu;rw[hw]
theorem RJ {p:aV} (h:p.bk.length≠p.O.length):oz p=⟨4,0⟩:=by unfold oz;rw[if_neg h]
theorem RH {p:aV} {k:Nat} (h:p.bk.length=p.O.length) (hb:first p.bk (fun b=>decide (b.length≠p.O.length))=some k):oz p=⟨4,k⟩:=by unfold oz;rw[if_pos h,hb]
theorem RI {p:aV} {k:Nat} (h:p.bk.length=p.O.length) (hb:first p.bk (fun b=>decide (b.length≠p.O.length))=none) (U:first (List.range p.O.length) (fun i=>(List.range p.O.length).any fun k=>oU p i k)=some k):oz p=⟨5,k⟩:=by
 unfold oz;rw[if_pos h,hb];simp only;rw[U]
theorem RG {p:aV} (h:p.bk.length=p.O.length) (hb:first p.bk (fun b=>decide (b.length≠p.O.length))=none) (U:first (List.range p.O.length) (fun i=>(List.range p.O.length).any fun k=>oU p i k)=none):oz p=⟨0,0⟩:=by
 unfold oz;rw[if_pos h,hb];simp only;rw[U]
theorem u4 {p:aV}:kv p=true↔(1≤p.ah∧p.ah≤60)∧(1≤p.cY∧p.cY≤300)∧p.bf.length≤40∧p.O.length≤100:=by
 unfold kv cc;simp[and_assoc]
theorem M1 {n:Nat} {q:Nat→Bool} {v:Int} (au:0≤v) (hv:v<n) (h: ∀j:Int,0≤j→j<v→q j.toNat=false) (U:q v.toNat=true):first (List.range n) q=some v.toNat:=by
 unfold first
 rw[List.findIdx?_eq_some_iff_getElem]
 refine⟨by simp;omega,by simpa using U,fun j af=> ?_⟩
 have:=h j (by omega) (by omega)
 simpa using this
theorem M0 {n:Nat} {q:Nat→Bool} (h: ∀j:Int,0≤j→j<n→q j.toNat=false):first (List.range n) q=none:=by
 unfold first
 rw[List.findIdx?_eq_none_iff]
 intro x hx
 have:=h x (by omega) (by have:=List.mem_range.1 hx;omega)
 simpa using this
theorem LM {n:Nat} {q:Nat→Bool} {v:Int} (au:0≤v) (hv:v<n) (h:q v.toNat=true):(List.range n).any q=true:=by
 rw[List.any_eq_true];exact⟨v.toNat,List.mem_range.2 (by omega),h⟩
theorem Q9 {n:Nat} {q:Nat→Bool} (h: ∀j:Int,0≤j→j<n→q j.toNat=false):(List.range n).any q=false:=by
 rw[List.any_eq_false]
 intro x hx
 have:=h x (by omega) (by have:=List.mem_range.1 hx;omega)
 simp only[Int.toNat_natCast] at this
 rw[this];simp
theorem ov {α:Type} [Inhabited α] {xs:List α} {i:Int} (h:0≤i):nth xs (i.toNat:Int)=nth xs i:=by rw[Int.toNat_of_nonneg h]
theorem adh (p:aV) (x:cR):((decide (x.bd<0)) || ((decide (x.bd ≥ (p.bf.length:Int))) || ((x.bG !=1)&&(x.bG !=2))))=oq p x:=by
 unfold oq
 rw[←Jz,Bool.or_assoc]
 congr 2
 rw[Bool.eq_iff_iff]
 simp[cc]
 omega
def pr (p:aV) (w:Way) (j:Int):Bool:=oq p (nth (bS w) j) || (decide (j<(w.bp.length:Int))&& !(fZ w.ah (nth p.bf (nth (bS w) j).bd)))
theorem Ra {w:Way} {j:Int} (au:0≤j) (h:j<w.bp.length):nth (bS w) j=nth w.bp j:=by
 rw[h7 (xs:=w.bp) (by omega),h7 (by unfold bS;rw[List.length_append];omega)]
 unfold bS
 rw[List.getElem_append_left]
theorem Ya {p:aV} {w:Way} (h:hy p w=true): ∀l∈[w.ah,w.cK,w.eS],hC l p.ah=true:=by
 obtain⟨-,h1,h2,ay,-⟩:=oQ.1 h
 intro l ao
 simp only[List.mem_cons,List.not_mem_nil,or_false] at ao
 rcases ao with rfl | rfl | rfl
 ·exact h1
 ·exact h2
 ·exact ay
theorem Yb {p:aV} {w:Way} (h:hy p w=true) {j:Int} (au:0≤j) (af:j.toNat<(bS w).length):pr p w j=false:=by
 obtain⟨-,-,-,-,bg,cW,-,e1,-⟩:=oQ.1 h
 have hm:=eP af
 have hb:oq p (nth (bS w) j)=false:=by
  rw[zU]
  unfold bS at hm ⊢
  rcases List.mem_append.1 hm with hm | hm
  ·rw[(mY.1 bg).2.1 _ hm];rfl
  ·rw[(mY.1 cW).2.1 _ hm];rfl
 unfold pr
 rw[hb,Bool.false_or]
 by_cases ao:j<(w.bp.length:Int)
 ·rw[Ra au ao]
  have:fZ w.ah (nth p.bf (nth w.bp j).bd)=true:=e1 _ (eP (by omega))
  rw[this];simp
 ·simp[ao]
theorem X_ {p:aV} {w:Way} (h1:w.ah≠[]) (ao: ∀l∈[w.ah,w.cK,w.eS],hC l p.ah=true) (ay:w.bp.length≤30) (bg:w.cv.length≤30)
  (ad: ∀j:Int,0≤j→j<(bS w).length→pr p w j=false):((!(dup ((bS w).map (·.bd))))&&(!(meets w.ah w.cK)))=hy p w:=by
 have hb: ∀x∈bS w,(cc x.bd 0 (p.bf.length - 1)&&cc x.bG 1 2)=true:=fun x hx=>by
  have:=lT (q:=oq p) (fun j bX ed=>by have:=ad j bX ed;unfold pr at this;exact(Bool.or_eq_false_iff.1 this).1) x hx
  rw[zU] at this
  simpa using this
 have hc: ∀x∈w.bp,w.ah.contains (nth p.bf x.bd)=true:=fun x hx=>by
  have:=lT (q:=fun x=> !(fZ w.ah (nth p.bf x.bd))) (fun j bX ed=>by
   have:=ad j bX (by unfold bS;rw[List.length_append];omega)
   unfold pr at this
   have:=(Bool.or_eq_false_iff.1 this).2
   rw[Ra bX ed] at this
   simpa[ed] using this) x hx
  simp only[Bool.not_eq_false'] at this
  exact this
 rw[Bool.eq_iff_iff,oQ]
 simp only[Bool.and_eq_true,Bool.not_eq_true',dup,Bool.not_eq_false',decide_eq_true_eq]
 constructor
 ·rintro⟨aO,hm⟩
  have pa:=IZ.1 aO
  exact⟨h1,ao _ (by simp),ao _ (by simp),ao _ (by simp),mY.2 ⟨ay,fun x hx=>hb x (by unfold bS;exact List.mem_append_left _ hx),pa.1⟩,mY.2 ⟨bg,fun x hx=>hb x (by unfold bS;exact List.mem_append_right _ hx),pa.2.1⟩,aO,hc,hm⟩
 ·rintro⟨-,-,-,-,-,-,aO,-,hm⟩
  exact⟨aO,hm⟩
theorem LW {p:aV} {i k:Int} (au:0≤i) (h1:0≤k):(((nth (nth p.bk i) k) !=(nth (nth p.bk k) i)) || ((i !=k)&&((!(nth (nth p.bk i) k))&&(meets (nth p.O i).ah (nth p.O k).ah))))=oU p i.toNat k.toNat:=by
 unfold oU sh
 rw[Int.toNat_of_nonneg au,Int.toNat_of_nonneg h1]
 have:(i !=k)=decide (i.toNat≠k.toNat):=by
  rw[Bool.eq_iff_iff];simp;omega
 rw[this,Bool.and_assoc]
theorem aeH (p:aV):((ho p).code==0)=gY p:=by
 have key:(ho p).code=0→(ho p).pos=0:=by
  unfold ho xt xu oz
  split
  ·split
   ·intro h;cases h
   ·split
    ·intro h;cases h
    ·split
     ·split
      ·intro h;cases h
      ·split
       ·intro h;cases h
       ·intro _;rfl
     ·intro h;cases h
  ·intro h;cases h
 unfold gY
 rw[Bool.eq_iff_iff]
 simp only[beq_iff_eq,decide_eq_true_eq]
 constructor
 ·intro h
  have:=key h
  cases U:ho p with
  | mk c q=>rw[U] at h this;simp at h this;rw[h,this]
 ·intro h;rw[h]
theorem aeG (p:aV):((ho p).code==0&&(ho p).pos==0)=gY p:=by
 unfold gY
 rw[Bool.eq_iff_iff]
 simp only[Bool.and_eq_true,beq_iff_eq,decide_eq_true_eq]
 constructor
 ·rintro⟨h1,h2⟩
  cases U:ho p with
  | mk c q=>rw[U] at h1 h2;simp at h1 h2;rw[h1,h2]
 ·intro h;rw[h];exact⟨rfl,rfl⟩
theorem aeF {p:aV} (h:gY p=true):kv p=true:=by
 cases hb:kv p with
 | true=>rfl
 | false=>unfold gY at h;rw[Ja hb] at h;simp at h
def nW (f:Frame):Prop:=f.aG.length≤1048576∧f.aq.length≤1048576∧f.O.length≤1048576∧ ∀h∈f.O,h.ak.length≤1048576
structure vK (p:aV):Prop where
 cG:0≤p.ah∧p.ah≤60
 O:p.O.length≤100
 bd:p.bf.length≤40
 ah: ∀w∈p.O,w.ah≠[]∧w.ah.length≤30∧ ∀x∈w.ah,0≤x∧x<p.ah
 cK: ∀w∈p.O,w.cK.length≤30∧ ∀x∈w.cK,0≤x∧x<p.ah
 eS: ∀w∈p.O,w.eS.length≤30∧ ∀x∈w.eS,0≤x∧x<p.ah
 bp: ∀w∈p.O,w.bp.length≤30∧w.cv.length≤30∧ ∀x∈bS w,0≤x.bd∧x.bd<p.bf.length
 bf: ∀x∈p.bf,0≤x∧x<p.ah
structure kZ (p:aV) (f:Frame):Prop where
 aG:(f.aG.length:Int)=p.ah
 aq:f.aq.length=p.bf.length
 O:f.O.length=p.O.length
 ak: ∀(i:Nat) (h:aC) (w:Way),f.O[i]?=some h→p.O[i]?=some w→h.ak.length=w.ah.length
 a1: ∀h∈f.O,0≤h.a1∧h.a1≤h.ak.length
def fo (f:Frame) (x:Int):Bool:=nth f.aG x
def kC (f:Frame) (l:List Int):Bool:=l.any (fo f)
def xP (f:Frame) (l:List Int):Prop:= ∀x∈l,0≤x∧x<f.aG.length
def hD (p:aV) (f:Frame) (i:Int):Bool:=
 (bS (nth p.O i)).all (fun l=>decide (nth f.aq l.bd=⟨l.bG,l.bG⟩))&& !kC f (nth p.O i).ah&& !kC f (nth p.O i).cK
def xw (p:aV) (f:Frame) (i:Int):Prop:=vK p∧kZ p f∧0≤i∧i<p.O.length
def uu (n:Nat):aC:=⟨0,0,List.replicate n false,false,0⟩
def iA (p:aV) (i:Int):aC:=uu (nth p.O i).ah.length
def Oi (p:aV) (i:Int):Prop:=vK p∧0≤i∧i<p.O.length
def jH (s:List Int) (f:Frame) (ak:List Bool):Nat→Nat→Nat
 | 0,g=>g
 | n+1,g=>if g<s.length∧ak.getD g false=true∧fo f (s.getD g 0)=false∧(g+1=s.length∨ak.getD (g+1) false=true) then jH s f ak n (g+1) else g
def m1 (s:List Int) (f:Frame) (h:aC):aC:=
 let ak:=List.zipWith (fun b x=>b || fo f x) h.ak s
 let g:=jH s f ak s.length h.a1.toNat
 if g=s.length then uu s.length else{h with ak:=ak,a1:=g}
def mz (p:aV) (f:Frame) (i:Nat):aC:=
 let h:=nth f.O i
 let s:=(nth p.O i).ah
 if h.aK=0 then h else
 let h:=if h.aK≠4∧fo f (nth s 0)=true then{h with aK:=4,cx:=0} else h
 let h:=if h.aK=1∨h.aK=2 then(if hD p f i=true then{h with aK:=2,cn:=true} else{h with aK:=1}) else h
 if h.aK=4 then m1 s f h else h
def iG (p:aV):Nat→Frame→Frame
 | 0,f=>f
 | n+1,f=>let g:=iG p n f;{g with O:=g.O.set n (mz p g n)}
def ir (p:aV) (f:Frame):Frame:=iG p f.O.length f
def xN (p:aV) (f:Frame):Prop:=vK p∧kZ p f
structure c7 (V:List aC) (ids:List Nat) (v:Int) (h:aC) (ws:List aC) (bs:List (List Bool)):Prop where
 ok:n4 ws ids bs
 kt: ∀i j k:Nat,ids[i]?=some k→ids[j]?=some k→i=j
 lt:v.toNat<ws.length
 iN:view ws ids bs=V.set v.toNat h
 len: ∀b∈bs,b.length≤1048576
section
variable {V:List aC} {ids:List Nat} {v:Int} {h:aC} {ws:List aC} {bs:List (List Bool)}
theorem c7.h6 (F:c7 V ids v h ws bs):ws.length=ids.length∧v.toNat<ws.length:=⟨F.ok.len,F.lt⟩
theorem c7.tq (F:c7 V ids v h ws bs):V.length=ws.length:=by
 have:=congrArg List.length F.iN
 rw[jz F.ok,List.length_set] at this;exact this.symm
theorem c7.id (F:c7 V ids v h ws bs):ids[v.toNat]?=some (nth ids v):=gX (by rw[←F.ok.len];exact F.lt)
theorem c7.qg (F:c7 V ids v h ws bs):nth ids v<bs.length:=F.ok.lt _ _ F.id
theorem c7.row (F:c7 V ids v h ws bs):h={nth ws v with ak:=bs.getD (nth ids v) []}:=by
 have h1:=vw (bs:=bs) (gX F.lt) F.id
 rw[F.iN,List.getElem?_set_self (by rw[F.tq];exact F.lt)] at h1
 exact Option.some.inj h1
theorem c7.aK (F:c7 V ids v h ws bs):(nth ws v).aK=h.aK:=by rw[F.row]
theorem c7.a1 (F:c7 V ids v h ws bs):(nth ws v).a1=h.a1:=by rw[F.row]
theorem c7.cn (F:c7 V ids v h ws bs):(nth ws v).cn=h.cn:=by rw[F.row]
theorem c7.cx (F:c7 V ids v h ws bs):(nth ws v).cx=h.cx:=by rw[F.row]
theorem c7.ak (F:c7 V ids v h ws bs):bs.getD (nth ids v) []=h.ak:=by rw[F.row]
theorem c7.pT (F:c7 V ids v h ws bs):(nth ws v).ak.length=h.ak.length:=by
 rw[←F.ak];exact F.ok.ak _ _ _ (gX F.lt) F.id
theorem c7.start (ok:n4 ws ids bs) (kt: ∀i j k:Nat,ids[i]?=some k→ids[j]?=some k→i=j) (lt:v.toNat<ws.length) (iN:view ws ids bs=V) (len: ∀b∈bs,b.length≤1048576):c7 V ids v (nth V v) ws bs:=by
 have ao:v.toNat<V.length:=by rw[←iN,jz ok];exact lt
 exact⟨ok,kt,lt,by rw[iN,h7 ao];exact(List.set_getElem_self _).symm,len⟩
theorem c7.xM (F:c7 V ids v h ws bs) (x:aC) (hx:x.ak.length=h.ak.length):c7 V ids v {x with ak:=h.ak} (ws.set v.toNat x) bs where
 ok:=⟨by rw[List.length_set];exact F.ok.len,F.ok.lt,fun i id y h1 h2=>by
  rw[List.getElem?_set] at h1
  split at h1
  ·rename_i e;subst e
   rw[if_pos F.lt] at h1;cases h1
   rw[F.id] at h2;cases h2
   rw[hx,F.ak]
  ·exact F.ok.ak i id y h1 h2⟩
 kt:=F.kt
 lt:=by rw[List.length_set];exact F.lt
 iN:=by
  apply List.ext_getElem?
  intro j
  have af:=congrArg (·[j]?) F.iN
  simp only[view,List.getElem?_zipWith,List.getElem?_set] at af ⊢
  by_cases e:v.toNat=j
  ·subst e
   have hv:=F.tq
   have:=F.lt
   rw[if_pos rfl,if_pos rfl,if_pos this,if_pos (by omega),F.id]
   show some _=some _
   rw[F.ak]
  ·rw[if_neg e] at af ⊢
   rw[if_neg e];exact af
 len:=F.len
theorem c7.setState (F:c7 V ids v h ws bs) (x:Int):c7 V ids v {h with aK:=x} (ws.set v.toNat ({aK:=x,a1:=(nth ws v).a1,ak:=(nth ws v).ak,cn:=(nth ws v).cn,cx:=(nth ws v).cx}:aC)) bs:=by
 have:=F.xM ({aK:=x,a1:=(nth ws v).a1,ak:=(nth ws v).ak,cn:=(nth ws v).cn,cx:=(nth ws v).cx}:aC) F.pT
 simpa only[F.a1,F.cn,F.cx] using this
theorem c7.SD (F:c7 V ids v h ws bs) (x:Int):c7 V ids v {h with a1:=x} (ws.set v.toNat ({aK:=(nth ws v).aK,a1:=x,ak:=(nth ws v).ak,cn:=(nth ws v).cn,cx:=(nth ws v).cx}:aC)) bs:=by
 have:=F.xM ({aK:=(nth ws v).aK,a1:=x,ak:=(nth ws v).ak,cn:=(nth ws v).cn,cx:=(nth ws v).cx}:aC) F.pT
 simpa only[F.aK,F.cn,F.cx] using this
theorem c7.SG (F:c7 V ids v h ws bs) (x:Bool):c7 V ids v {h with cn:=x} (ws.set v.toNat ({aK:=(nth ws v).aK,a1:=(nth ws v).a1,ak:=(nth ws v).ak,cn:=x,cx:=(nth ws v).cx}:aC)) bs:=by
 have:=F.xM ({aK:=(nth ws v).aK,a1:=(nth ws v).a1,ak:=(nth ws v).ak,cn:=x,cx:=(nth ws v).cx}:aC) F.pT
 simpa only[F.aK,F.a1,F.cx] using this
theorem c7.SH (F:c7 V ids v h ws bs) (x:Int):c7 V ids v {h with cx:=x} (ws.set v.toNat ({aK:=(nth ws v).aK,a1:=(nth ws v).a1,ak:=(nth ws v).ak,cn:=(nth ws v).cn,cx:=x}:aC)) bs:=by
 have:=F.xM ({aK:=(nth ws v).aK,a1:=(nth ws v).a1,ak:=(nth ws v).ak,cn:=(nth ws v).cn,cx:=x}:aC) F.pT
 simpa only[F.aK,F.a1,F.cn] using this
theorem c7.JK (F:c7 V ids v h ws bs) (b:List Bool) (hb:b.length=h.ak.length):c7 V ids v {h with ak:=b} ws (bs.set (nth ids v) b) where
 ok:=⟨F.ok.len,fun i id hi=>by rw[List.length_set];exact F.ok.lt i id hi,fun i id y h1 h2=>by
  rw[F.ok.ak i id y h1 h2,List.getD_eq_getElem?_getD,List.getD_eq_getElem?_getD,List.getElem?_set]
  split
  ·rename_i e;subst e
   rw[if_pos F.qg,←List.getD_eq_getElem?_getD,F.ak];exact hb.symm
  ·rfl⟩
 kt:=F.kt
 lt:=F.lt
 iN:=by
  apply List.ext_getElem?
  intro j
  have af:=congrArg (·[j]?) F.iN
  simp only[view,List.getElem?_zipWith,List.getElem?_set] at af ⊢
  by_cases e:v.toNat=j
  ·subst e
   have hv:=F.tq
   have:=F.lt
   rw[if_pos rfl,if_pos (by omega),F.id,gX F.lt]
   simp only[List.getD_eq_getElem?_getD,List.getElem?_set,if_pos F.qg]
   rw[F.row];simp
  ·rw[if_neg e] at af ⊢
   rw[←af]
   cases h1:ws[j]? with
   | none=>rfl
   | some y=>
    cases h2:ids[j]? with
    | none=>rfl
    | some id=>
     have bN:nth ids v≠id:=fun hid=>by
      have ay:=F.id
      rw[hid] at ay
      exact e (F.kt _ _ _ ay h2)
     simp only[List.getD_eq_getElem?_getD,List.getElem?_set,if_neg bN]
 len:=fun x hx=>by
  rcases List.mem_or_eq_of_mem_set hx with hx | rfl
  ·exact F.len x hx
  ·rw[hb,←F.ak,List.getD_eq_getElem?_getD,List.getElem?_eq_getElem F.qg];exact F.len _ (List.getElem_mem F.qg)
theorem c7.new (F:c7 V ids v h ws bs) (x:aC) (hx:x.ak.length≤1048576):c7 V (ids.set v.toNat bs.length) v x (ws.set v.toNat x) (bs++[x.ak]) where
 ok:=⟨by rw[List.length_set,List.length_set];exact F.ok.len,fun i id hi=>by
   rw[List.getElem?_set] at hi
   rw[List.length_append,List.length_singleton]
   split at hi
   ·split at hi
    ·cases hi;omega
    ·cases hi
   ·have:=F.ok.lt i id hi;omega,fun i id y h1 h2=>by
   rw[List.getElem?_set] at h1 h2
   split at h1
   ·rename_i e;subst e
    have:=F.ok.len
    have:=F.lt
    rw[if_pos F.lt] at h1;rw[if_pos rfl,if_pos (by omega)] at h2
    cases h1;cases h2;simp
   ·rename_i e
    rw[if_neg e] at h2
    rw[F.ok.ak i id y h1 h2,List.getD_eq_getElem?_getD,List.getD_eq_getElem?_getD,List.getElem?_append_left (F.ok.lt i id h2)]⟩
 kt:=fun i j k hi af=>by
  rw[List.getElem?_set] at hi af
  have aN: ∀q,ids[q]?≠some bs.length:=fun q U=>by have:=F.ok.lt q _ U;omega
  split at hi
  ·rename_i e;subst e
   split at hi
   ·cases hi
    split at af
    ·rename_i e;exact e
    ·exact absurd af (aN j)
   ·cases hi
  ·split at af
   ·rename_i e;subst e
    split at af
    ·cases af;exact absurd hi (aN i)
    ·cases af
   ·exact F.kt i j k hi af
 lt:=by rw[List.length_set];exact F.lt
 iN:=by
  apply List.ext_getElem?
  intro j
  have af:=congrArg (·[j]?) F.iN
  simp only[view,List.getElem?_zipWith,List.getElem?_set] at af ⊢
  by_cases e:v.toNat=j
  ·subst e
   have hv:=F.tq
   have:=F.lt
   have:=F.ok.len
   rw[if_pos rfl,if_pos rfl,if_pos rfl,if_pos F.lt,if_pos (by omega),if_pos (by omega)]
   simp
  ·rw[if_neg e] at af ⊢
   rw[if_neg e,if_neg e,←af]
   cases h1:ws[j]? with
   | none=>rfl
   | some y=>
    cases h2:ids[j]? with
    | none=>rfl
    | some id=>
     simp only
     rw[List.getD_eq_getElem?_getD,List.getD_eq_getElem?_getD,List.getElem?_append_left (F.ok.lt j id h2)]
 len:=fun b hb=>by
  rcases List.mem_append.1 hb with hb | hb
  ·exact F.len b hb
  ·rw[List.mem_singleton.1 hb];exact hx
end
theorem Ga (ws:List aC):n4 ws (List.range ws.length) (ws.map aC.ak)∧(∀i j k:Nat,(List.range ws.length)[i]?=some k→(List.range ws.length)[j]?=some k→i=j)∧view ws (List.range ws.length) (ws.map aC.ak)=ws:=by
 refine⟨⟨by simp,fun i id h=> ?_,fun i id h h1 h2=> ?_⟩,fun i j k h1 h2=> ?_,?_⟩
 ·obtain⟨hi,rfl⟩:=List.getElem?_eq_some_iff.1 h
  simpa using hi
 ·obtain⟨hi,rfl⟩:=List.getElem?_eq_some_iff.1 h2
  simp[h1]
 ·obtain⟨hi,rfl⟩:=List.getElem?_eq_some_iff.1 h1
  obtain⟨af,e⟩:=List.getElem?_eq_some_iff.1 h2
  simpa using e.symm
 ·apply List.ext_getElem?
  intro j
  unfold view
  rw[List.getElem?_zipWith]
  rcases Nat.lt_or_ge j ws.length with af | af
  ·rw[List.getElem?_range af,List.getElem?_eq_getElem af]
   simp[af]
  ·rw[List.getElem?_eq_none af]
theorem DZ (p:aV) (f:Frame): ∀n,(iG p n f).ok=f.ok∧(iG p n f).aG=f.aG∧(iG p n f).aq=f.aq
 | 0=>⟨rfl,rfl,rfl⟩
 | n+1=>DZ p f n
theorem Nl {s:List Int} {f:Frame} {ak:List Bool}: ∀(n g:Nat),g≤s.length→g≤jH s f ak n g∧jH s f ak n g≤s.length
 | 0,g,h=>⟨Nat.le_refl _,h⟩
 | n+1,g,h=>by
  unfold jH
  split
  ·rename_i hc
   have:=Nl (f:=f) (ak:=ak) n (g+1) hc.1
   exact⟨by omega,this.2⟩
  ·exact⟨Nat.le_refl _,h⟩
theorem aew {s:List Int} {f:Frame} {h:aC} (hb:h.ak.length=s.length) (aB:0≤h.a1∧h.a1≤h.ak.length):(m1 s f h).ak.length=s.length∧0≤(m1 s f h).a1∧(m1 s f h).a1≤(m1 s f h).ak.length:=by
 unfold m1
 simp only
 have ao:(List.zipWith (fun b x=>b || fo f x) h.ak s).length=s.length:=by rw[List.length_zipWith];omega
 have bm:=(Nl (s:=s) (f:=f) (ak:=List.zipWith (fun b x=>b || fo f x) h.ak s) s.length h.a1.toNat (by omega)).2
 split
 ·simp[uu]
 ·exact⟨ao,Int.natCast_nonneg _,by simp only;rw[ao];omega⟩
theorem ahD {p:aV} {f:Frame} {i:Nat} (hb:(nth f.O i).ak.length=(nth p.O i).ah.length) (aB:0≤(nth f.O i).a1∧(nth f.O i).a1≤(nth f.O i).ak.length):
  (mz p f i).ak.length=(nth p.O i).ah.length∧0≤(mz p f i).a1∧(mz p f i).a1≤(mz p f i).ak.length:=by
 unfold mz
 simp only
 split
 ·exact⟨hb,aB⟩
 ·have h1: ∀(c:Prop) [Decidable c] (x y:aC),x.ak=y.ak→x.a1=y.a1→(if c then x else y).ak=y.ak∧(if c then x else y).a1=y.a1:=fun c _ x y ax e2=>by
   split
   ·exact⟨ax,e2⟩
   ·exact⟨rfl,rfl⟩
  generalize cE:(if(nth f.O i).aK≠4∧fo f (nth (nth p.O i).ah 0)=true then{nth f.O i with aK:=4,cx:=0} else nth f.O i)=A
  have l_:A.ak=(nth f.O i).ak∧A.a1=(nth f.O i).a1:=by rw[←cE];exact h1 _ _ _ rfl rfl
  generalize cX:(if A.aK=1∨A.aK=2 then(if hD p f i=true then{A with aK:=2,cn:=true} else{A with aK:=1}) else A)=B
  have Gz:B.ak=(nth f.O i).ak∧B.a1=(nth f.O i).a1:=by
   rw[←cX,←l_.1,←l_.2]
   exact h1 _ _ _ (by split<;>rfl) (by split<;>rfl)
  have ax:B.ak.length=(nth p.O i).ah.length:=by rw[Gz.1];exact hb
  have e2:0≤B.a1∧B.a1≤B.ak.length:=by rw[Gz.1,Gz.2];exact aB
  split
  ·exact aew ax e2
  ·exact⟨ax,e2⟩
theorem AK {p:aV} {f:Frame} (h:kZ p f): ∀n,kZ p (iG p n f)
 | 0=>h
 | n+1=>by
  have bn:=AK h n
  show kZ p {iG p n f with O:=(iG p n f).O.set n (mz p (iG p n f) n)}
  have key:n<(iG p n f).O.length→(mz p (iG p n f) n).ak.length=(nth p.O n).ah.length∧0≤(mz p (iG p n f) n).a1∧(mz p (iG p n f) n).a1≤(mz p (iG p n f) n).ak.length:=fun ad=>by
   have hw:=bn.O
   have h1:(iG p n f).O[n]?=some (nth (iG p n f).O n):=by rw[jt ad];exact List.getElem?_eq_getElem ad
   have h2:p.O[n]?=some (nth p.O n):=by rw[jt (by omega)];exact List.getElem?_eq_getElem (by omega)
   exact ahD (bn.ak n _ _ h1 h2) (bn.a1 _ (List.mem_of_getElem? h1))
  refine⟨bn.aG,bn.aq,by rw[List.length_set];exact bn.O,fun i x w h1 h2=> ?_,fun x hx=> ?_⟩
  ·replace h1:((iG p n f).O.set n (mz p (iG p n f) n))[i]?=some x:=h1
   rw[List.getElem?_set] at h1
   split at h1
   ·rename_i e;subst e
    split at h1
    ·rename_i ad
     cases h1
     have hw:=bn.O
     rw[(key ad).1,jt (by omega)]
     rw[List.getElem?_eq_getElem (by omega)] at h2
     cases h2;rfl
    ·cases h1
   ·exact bn.ak i x w h1 h2
  ·rcases List.mem_or_eq_of_mem_set hx with hx | rfl
   ·exact bn.a1 x hx
   ·by_cases ad:n<(iG p n f).O.length
    ·exact(key ad).2
    ·rw[List.set_eq_of_length_le (by omega)] at hx
     exact bn.a1 _ hx
theorem vg (p:aV) (f:Frame): ∀n,(iG p n f).O.length=f.O.length
 | 0=>rfl
 | n+1=>by show((iG p n f).O.set n _).length=_;rw[List.length_set];exact vg p f n
theorem RP {p:aV} {f g:Frame} {i:Int} (h1:f.aG=g.aG) (h2:f.aq=g.aq):hD p f i=hD p g i:=by
 unfold hD kC fo
 rw[h1,h2]
def jy (s:List Int) (f:Frame) (b:List Bool) (v:Nat):List Bool:=List.zipWith (fun b x=>b || fo f x) (b.take v) (s.take v)++b.drop v
theorem Lf {s:List Int} {f:Frame} {b:List Bool} {v:Nat} (ao:b.length=s.length) (hv:v≤s.length):(jy s f b v).length=b.length:=by
 unfold jy
 rw[List.length_append,List.length_zipWith,List.length_take,List.length_take,List.length_drop];omega
theorem Us (s:List Int) (f:Frame) (b:List Bool):jy s f b 0=b:=by simp[jy]
theorem Uu {s:List Int} {f:Frame} {b:List Bool} {v:Nat} (ao:b.length=s.length) (hv:s.length≤v):jy s f b v=List.zipWith (fun b x=>b || fo f x) b s:=by
 unfold jy
 rw[List.take_of_length_le (by omega),List.take_of_length_le hv,List.drop_of_length_le (by omega),List.append_nil]
theorem Ut {s:List Int} {f:Frame} {b:List Bool} {v:Nat} (ao:b.length=s.length) (hv:v<s.length):nth (jy s f b v) v=b[v]:=by
 rw[jt (by rw[Lf ao (by omega)];omega)]
 unfold jy
 rw[List.getElem_append_right (by rw[List.length_zipWith,List.length_take,List.length_take];omega)]
 simp only[List.length_zipWith,List.length_take,List.getElem_drop]
 congr 1;omega
theorem Uv {s:List Int} {f:Frame} {b:List Bool} {v:Nat} (ao:b.length=s.length) (hv:v<s.length):(jy s f b v).set v (b[v] || fo f s[v])=jy s f b (v+1):=by
 unfold jy
 have hlen:(List.zipWith (fun b x=>b || fo f x) (b.take v) (s.take v)).length=v:=by rw[List.length_zipWith,List.length_take,List.length_take];omega
 rw[List.set_append_right _ _ (by omega),hlen,Nat.sub_self,List.take_succ_eq_append_getElem (by omega),List.take_succ_eq_append_getElem hv,List.zipWith_append (by rw[List.length_take,List.length_take];omega),List.append_assoc]
 congr 1
 rw[List.drop_eq_getElem_cons (by omega:v<b.length)]
 rfl
def mS (s:List Int) (f:Frame) (ak:List Bool) (g:Int):Bool:=
 decide (g<(s.length:Int))&&(nth ak g&&((!(nth f.aG (nth s g)))&&((g==IntKind.i64.wrap ((s.length:Int) - 1)) || nth ak (IntKind.i64.wrap (g+1)))))
theorem Nh {s:List Int} {f:Frame} {ak:List Bool} {g:Nat} (hs:s.length≤1048576) (aB:g≤s.length):
  mS s f ak g=true↔g<s.length∧ak.getD g false=true∧fo f (s.getD g 0)=false∧(g+1=s.length∨ak.getD (g+1) false=true):=by
 unfold mS
 rw[ji (by omega) (by omega),ji (by omega) (by omega)]
 have ax:nth ak (g:Int)=ak.getD g false:=rfl
 have e2:nth ak ((g:Int)+1)=ak.getD (g+1) false:=rfl
 have dl:nth s (g:Int)=s.getD g 0:=rfl
 rw[ax,e2,dl]
 simp only[Bool.and_eq_true,Bool.or_eq_true,decide_eq_true_eq,Bool.not_eq_true',beq_iff_eq]
 constructor
 ·rintro⟨h1,h2,ay,bg⟩;exact⟨by omega,h2,ay,bg.imp (fun h=>by omega) _root_.id⟩
 ·rintro⟨h1,h2,ay,bg⟩;exact⟨by omega,h2,ay,bg.imp (fun h=>by omega) _root_.id⟩
def wx (s:List Int) (f:Frame) (ak:List Bool) (g0 g:Int):Prop:=0≤g∧g≤s.length∧jH s f ak s.length g0.toNat=jH s f ak (s.length - g.toNat) g.toNat
theorem Gw {s:List Int} {f:Frame} {ak:List Bool} {n g:Nat} (h: ¬(g<s.length∧ak.getD g false=true∧fo f (s.getD g 0)=false∧(g+1=s.length∨ak.getD (g+1) false=true))):jH s f ak n g=g:=by
 cases n with
 | zero=>rfl
 | succ n=>unfold jH;rw[if_neg h]
theorem Nk {s:List Int} {f:Frame} {ak:List Bool}: ∀(n m g:Nat),s.length≤n+g→s.length≤m+g→jH s f ak n g=jH s f ak m g
 | 0,m,g,h1,h2=>by
  rw[Gw (n:=m) fun h=>by omega];rfl
 | n+1,0,g,h1,h2=>by rw[Gw (n:=n+1) fun h=>by omega];rfl
 | n+1,m+1,g,h1,h2=>by
  unfold jH
  split
  ·exact Nk n m (g+1) (by omega) (by omega)
  ·rfl
theorem Ni {s:List Int} {f:Frame} {ak:List Bool} {g:Int} (au:0≤g) (h1:g≤s.length):wx s f ak g g:=⟨au,h1,Nk _ _ _ (by omega) (by omega)⟩
theorem Nj {s:List Int} {f:Frame} {ak:List Bool} {g0 g:Int} (hs:s.length≤1048576) (h:wx s f ak g0 g) (hc:mS s f ak g=true):wx s f ak g0 (IntKind.i64.wrap (g+1))∧g<s.length:=by
 obtain⟨au,h1,h2⟩:=h
 obtain⟨k,rfl⟩:=Int.eq_ofNat_of_zero_le au
 have hc:=(Nh hs (by omega)).1 hc
 rw[ji (by omega) (by omega)]
 refine⟨⟨by omega,by omega,?_⟩,by omega⟩
 rw[h2]
 simp only[Int.toNat_natCast]
 rw[show((k:Int)+1).toNat=k+1 by omega,show s.length - k=(s.length - (k+1))+1 by omega]
 conv=>lhs;unfold jH
 rw[if_pos hc]
theorem Gv {s:List Int} {f:Frame} {ak:List Bool} {g0 g:Int} (hs:s.length≤1048576) (h:wx s f ak g0 g) (hc:mS s f ak g=false):(jH s f ak s.length g0.toNat:Int)=g:=by
 obtain⟨au,h1,h2⟩:=h
 obtain⟨k,rfl⟩:=Int.eq_ofNat_of_zero_le au
 rw[h2]
 simp only[Int.toNat_natCast]
 rw[Gw fun bm=>by rw[(Nh hs (by omega)).2 bm] at hc;cases hc]
def JM (p:aV) (f:Frame) (bs:List (List Bool)) (ids:List Nat) (v:Int) (ws:List aC):Prop:=
 cj f.O.length (fun _=>false) v∧n4 ws ids bs∧(∀i j k:Nat,ids[i]?=some k→ids[j]?=some k→i=j)∧view ws ids bs=(iG p v.toNat f).O∧ ∀b∈bs,b.length≤1048576
def di (p:aV) (f:Frame) (v:Int):Frame:=iG p v.toNat f
def cG (p:aV) (v:Int):List Int:=(nth p.O v).ah
def hp (p:aV) (f:Frame) (v:Int):aC:=
 let G:=di p f v
 let h:=nth G.O v
 if h.aK≠4∧fo G (nth (cG p v) 0)=true then{h with aK:=4,cx:=0} else h
def fU (p:aV) (f:Frame) (v:Int):aC:=
 let h:=hp p f v
 if h.aK=1∨h.aK=2 then(if hD p (di p f v) v=true then{h with aK:=2,cn:=true} else{h with aK:=1}) else h
def pS (p:aV) (f:Frame) (v:Int):List Bool:=List.zipWith (fun b x=>b || fo (di p f v) x) (fU p f v).ak (cG p v)
theorem Ub {p:aV} {f:Frame} {v:Int} (au:0≤v):mz p (di p f v) v.toNat=if(nth (di p f v).O v).aK=0 then nth (di p f v).O v else if(fU p f v).aK=4 then m1 (cG p v) (di p f v) (fU p f v) else fU p f v:=by
 unfold mz fU hp cG
 rw[ov au,ov au,Int.toNat_of_nonneg au]
theorem s7 {p:aV} {f:Frame} {v:Int}:(hp p f v).ak=(nth (di p f v).O v).ak∧(hp p f v).a1=(nth (di p f v).O v).a1:=by
 unfold hp;simp only;split<;>exact⟨rfl,rfl⟩
theorem Dy {p:aV} {f:Frame} {v:Int}:(fU p f v).ak=(nth (di p f v).O v).ak∧(fU p f v).a1=(nth (di p f v).O v).a1:=by
 rw[←s7.1,←s7.2]
 unfold fU;simp only;split
 ·split<;>exact⟨rfl,rfl⟩
 ·exact⟨rfl,rfl⟩
theorem vf {p:aV} {f:Frame} {v:Int} {h:aC} {ws:List aC} {ids:List Nat} {bs:List (List Bool)} (ad:(f.O.length:Int)≤4611686018427387904) (aR:cj f.O.length (fun _=>false) v) (hv:decide (v<(f.O.length:Int))=true)
  (F:c7 (di p f v).O ids v h ws bs) (bm:h=mz p (di p f v) v.toNat):JM p f bs ids (IntKind.i64.wrap (v+1)) ws∧cB f.O.length (IntKind.i64.wrap (v+1))<cB f.O.length v:=by
 have aQ:=df ad aR hv rfl
 refine⟨⟨aQ.1,F.ok,F.kt,?_,F.len⟩,aQ.2⟩
 have au:=aR.1
 have hv:v<(f.O.length:Int):=by simpa using hv
 rw[nh ad au hv,show(v+1).toNat=v.toNat+1 by omega,F.iN,bm]
 rfl
def Oj (j:Int) (k:Bool) (o:List Bool) (q:List dy) (w:List aC) (i:List Nat) (b:List (List Bool)):Prop:=jj w i b∧0≤j∧j<w.length
def zK (j:Int) (k:Bool) (o:List Bool) (q:List dy) (w:List aC) (i:List Nat) (b:List (List Bool)) (hn:List Bool) (Ap:List dy) (w':List aC) (iz:List Nat) (bH:List (List Bool)):Prop:=
 jj w' iz bH∧view w' iz bH=(view w i b).set j.toNat (uu (nth (view w i b) j).ak.length)
def cV (k:Bool) (o:List Bool) (q:List dy) (w:List aC) (i:List Nat) (b:List (List Bool)):Frame:=⟨k,o,q,view w i b⟩
def RE (s:Way) (j:Int) (k:Bool) (o:List Bool) (q:List dy) (w:List aC) (i:List Nat) (b:List (List Bool)):Prop:=
 jj w i b∧0≤j∧j<w.length∧s.ah.length≤1048576∧(∀x∈s.ah,0≤x∧x<o.length)∧(nth (view w i b) j).ak.length=s.ah.length∧0≤(nth (view w i b) j).a1∧(nth (view w i b) j).a1≤s.ah.length
def Ai (s:Way) (j:Int) (k:Bool) (o:List Bool) (q:List dy) (w:List aC) (i:List Nat) (b:List (List Bool)) (hn:List Bool) (Ap:List dy) (w':List aC) (iz:List Nat) (bH:List (List Bool)):Prop:=
 jj w' iz bH∧view w' iz bH=(view w i b).set j.toNat (m1 s.ah (cV k o q w i b) (nth (view w i b) j))
def SF (p:aV) (k:Bool) (o:List Bool) (q:List dy) (w:List aC) (i:List Nat) (b:List (List Bool)):Prop:=jj w i b∧xN p (cV k o q w i b)
def DY (p:aV) (k:Bool) (o:List Bool) (q:List dy) (w:List aC) (i:List Nat) (b:List (List Bool)) (hn:List Bool) (Ap:List dy) (w':List aC) (iz:List Nat) (bH:List (List Bool)):Prop:=
 jj w' iz bH∧view w' iz bH=(ir p (cV k o q w i b)).O
def SC (f g:Frame):Prop:=f.O.length=g.O.length∧nW f∧nW g∧ ∀(i:Nat) (x y:aC),f.O[i]?=some x→g.O[i]?=some y→x.ak.length=y.ak.length
def nV (f g:Frame):Bool:=decide (f.O=g.O)
def NK (p:aV) (f:Frame) (i:Int):Prop:=vK p∧nW f∧f.O.length=p.O.length∧0≤i∧i<p.O.length
def gT (p:aV) (f:Frame) (i:Int):Bool:=
 let h:=nth f.O i
 let n:=(nth p.O i).ah.length
 cc h.aK 0 4&&decide (h.ak.length=n)&&cc h.a1 0 ((n:Int) - 1)&&(decide (h.aK=4) || (decide (h.a1=0)&&h.ak.all (fun b=> !b)))&&(h.ak.take h.a1.toNat).all (fun b=>b)&&
 (if h.aK=3 then h.cn&&cc h.cx 1 p.cY else decide (h.cx=0)&&(decide (h.aK≠0) || !h.cn)&&(decide (h.aK≠2) || h.cn))
def E2 (p:aV) (f:Frame):Bool:=(List.range f.O.length).all fun i=>(List.range f.O.length).all fun k=>decide (i=k) || !sh p i k || decide ((nth f.O i).aK=0) || decide ((nth f.O k).aK=0)
def hN (p:aV) (f:Frame):Bool:=
 gY p&&f.ok&&decide ((f.aG.length:Int)=p.ah)&&decide (f.aq.length=p.bf.length)&&decide (f.O.length=p.O.length)&&
 f.aq.all (fun x=>cc x.cJ 1 2&&cc x.bp 0 2)&&(List.range f.O.length).all (fun i=>gT p f i)&&E2 p f&&nV f (ir p f)
def qW (p:aV) (f:Frame):Prop:=nW f
theorem wC {xs:List Bool} {b:Bool}:j6 xs b=true↔b∈xs:=by unfold j6;simp
theorem aae (xs:List Bool) (x:Bool):(decide (ru xs x ≥ 0))=j6 xs x:=by
 unfold ru
 cases h:first xs (fun y=>x==y) with
 | none=>
  unfold first at h
  rw[List.findIdx?_eq_none_iff] at h
  have:j6 xs x=false:=by
   rw[←Bool.not_eq_true,wC]
   intro hm
   have:=h x hm
   simp at this
  rw[this];rfl
 | some i=>
  unfold first at h
  rw[List.findIdx?_eq_some_iff_getElem] at h
  obtain⟨hi,hx,_⟩:=h
  have:j6 xs x=true:=by
   rw[wC]
   have hx:x=xs[i]:=by simpa using hx
   rw[hx];exact List.getElem_mem hi
  rw[this]
  show decide ((i:Int) ≥ 0)=true
  simp
def vc (a b:Frame):Bool:=eqv a.aG b.aG&&eqv a.aq b.aq&&eqv a.O b.O
def wj (a b:List aC) (_:Unit):Bool:=eqv a b
def qn (f:Frame) (l:cR):Bool:=((nth f.aq l.bd).cJ !=l.bG) || ((nth f.aq l.bd).bp !=l.bG)
def RO (p:aV) (f:Frame) (i:Int):Prop:= ∀l∈bS (nth p.O i),qn f l=false
theorem Jf (p:aV) (f:Frame) (i:Int):hD p f i=((bS (nth p.O i)).all (fun l=> !qn f l)&& !kC f (nth p.O i).ah&& !kC f (nth p.O i).cK):=by
 have U: ∀l:cR,decide (nth f.aq l.bd=⟨l.bG,l.bG⟩)= !qn f l:=fun l=>by
  unfold qn
  rcases nth f.aq l.bd with⟨x,y⟩
  rw[Bool.eq_iff_iff];simp
 unfold hD
 simp only[U]
theorem Lc {α:Type} {x y:α} {v:Int} (au:0≤v) (h1:v.toNat<[x,y].length):v=0∨v=1:=by simp at h1;omega
theorem jj.yQ {w:List aC} {i:List Nat} {b:List (List Bool)} {j:Int} (F:jj w i b) (h:j.toNat<w.length):c7 (view w i b) i j (nth (view w i b) j) w b:=c7.start F.ok F.kt h rfl F.len
section
variable {V:List aC} {ids cZ:List Nat} {v:Int} {h x:aC} {ws n0:List aC} {bs sj:List (List Bool)}
theorem c7.G (F:c7 V ids v h ws bs):jj ws ids bs:=⟨F.ok,F.kt,F.len⟩
theorem c7.Ae (F:c7 V ids v h ws bs):nth (view ws ids bs) v=h:=by
 rw[h7 (by rw[jz F.ok];exact F.lt)]
 simp only[F.iN,List.getElem_set_self]
theorem c7.again (F:c7 V ids v h ws bs) (G:jj n0 cZ sj) (e:view n0 cZ sj=(view ws ids bs).set v.toNat x):c7 V cZ v x n0 sj where
 ok:=G.ok
 kt:=G.kt
 lt:=by
  have:=congrArg List.length e
  rw[jz G.ok,List.length_set,jz F.ok] at this
  have:=F.lt;omega
 iN:=by rw[e,F.iN,List.set_set]
 len:=G.len
end
theorem aex {s:List Int} {f g:Frame} {h:aC} (e:f.aG=g.aG):m1 s f h=m1 s g h:=by
 have ar:fo f=fo g:=by funext x;unfold fo;rw[e]
 have aB: ∀(ak:List Bool) (n q:Nat),jH s f ak n q=jH s g ak n q:=fun ak n=>by
  induction n with
  | zero=>intro q;rfl
  | succ n bn=>intro q;unfold jH;rw[ar,bn]
 unfold m1
 simp only[ar,aB]
def m0 (s:List Int) (f:Frame) (h:aC):List Bool:=List.zipWith (fun b x=>b || fo f x) h.ak s
theorem RD (s:List Int) (f:Frame) (h:aC):m1 s f h=if jH s f (m0 s f h) s.length h.a1.toNat=s.length then uu s.length else{h with ak:=m0 s f h,a1:=jH s f (m0 s f h) s.length h.a1.toNat}:=rfl
def aey (s:List Int) (f:Frame) (V:List aC) (ids:List Nat) (j:Int) (ws:List aC) (bs:List (List Bool)) (k:Int):Prop:=
 cj s.length (fun _=>false) k∧c7 V ids j {nth V j with ak:=jy s f (nth V j).ak k.toNat} ws bs
def aez (s:List Int) (f:Frame) (V:List aC) (ids:List Nat) (j:Int) (bs:List (List Bool)) (ws:List aC):Prop:=
 ∃g,wx s f (m0 s f (nth V j)) (nth V j).a1 g∧c7 V ids j {nth V j with ak:=m0 s f (nth V j),a1:=g} ws bs
theorem ahH {s:List Int} {f:Frame} {ak:List Bool} {g:Int} (hs:s.length≤1048576) (h:decide (g<(s.length:Int))=true):
  ((!(nth ak g)) || ((nth f.aG (nth s g)) || ((decide (g<(IntKind.i64.wrap ((s.length:Int) - 1))))&&(!(nth ak (IntKind.i64.wrap (g+1)))))))= !mS s f ak g:=by
 unfold mS
 rw[h,Bool.true_and,ji (n:=(s.length:Int) - 1) (by omega) (by omega)]
 have:(g==(s.length:Int) - 1)= !decide (g<(s.length:Int) - 1):=by
  have h:g<(s.length:Int):=by simpa using h
  rw[Bool.eq_iff_iff];simp;omega
 rw[this]
 cases nth ak g<;>cases nth f.aG (nth s g)<;>cases decide (g<(s.length:Int) - 1)<;>cases nth ak (IntKind.i64.wrap (g+1))<;>rfl
def oV:List (Nat×TV)→Bool
 | []=>true
 | (k,_)::r=>match Nat.ble 1000010 k&&Nat.blt k 1000000000000 with
  | true=>oV r
  | false=>false
theorem By {l:List (Nat×TV)} (h:oV l=true) {k:Nat} (hk:k<1000010∨1000000000000≤k): ∀v,(k,v) ∉ l:=by
 induction l with
 | nil=>intro v hv;cases hv
 | cons p r bn=>
  obtain⟨a,w⟩:=p
  unfold oV at h
  split at h
  ·rename_i ap
   rw[Bool.and_eq_true,Nat.blt_eq] at ap
   intro v hv
   rcases List.mem_cons.1 hv with e | hv
   ·cases e;have:=Nat.le_of_ble_eq_true ap.1;have:=ap.2;omega
   ·exact bn h v hv
  ·cases h
def TS.add (s:TS) (l:List (Nat×TV)) (vs:List (Nat×Nat)) (aT:Nat):TS:=⟨l++s.T,s.B,vs,aT⟩
theorem TS.ig (s:TS) (l:List (Nat×TV)) (vs:List (Nat×Nat)) (aT k:Nat):(s.add l vs aT).get k=gF l k (s.get k):=by
 unfold TS.get TS.add;exact uO ..
theorem yN {n:Nat} {s:TS} {l:List (Nat×TV)} {vs:List (Nat×Nat)} {aT:Nat} (ad:n≤1000000) (h:oV l=true):(s.add l vs aT).tT n=s.tT n:=by
 show(List.range n).map _=(List.range n).map _
 refine List.map_congr_left fun t a_=> ?_
 have a_:t<n:=List.mem_range.1 a_
 rw[TS.ig,sP (By h (.inl (by omega)))]
theorem Di {s s':TS} (e:s'.get de=s.get de):iE s'=iE s:=by unfold iE;rw[e]
theorem KU [FZ] {n:Nat} {s s':TS} (hb:s'.aT=s.aT) (e: ∀b,s'.get (br b)=s.get (br b)) (bT:s'.get de=s.get de):(s'.al n).H=(s.al n).H:=by
 show s'.fV++gM s'=s.fV++gM s
 unfold TS.fV gM
 rw[Di bT,hb]
 simp only[e]
theorem yM [FZ] {n:Nat} {s:TS} {l:List (Nat×TV)} {vs:List (Nat×Nat)} (h:oV l=true):((s.add l vs s.aT).al n).H=(s.al n).H:=
 KU rfl (fun b=>by rw[TS.ig,sP (By h (.inr (by unfold br;omega)))]) (by rw[TS.ig,sP (By h (.inl (by unfold de;omega)))])
theorem yO [FZ] {s:TS} {l:List (Nat×TV)} {vs:List (Nat×Nat)} {aT:Nat} (h:oV l=true) (f:Fits s):Fits (s.add l vs aT):=
 f.congr fun k _ h2=>by rw[TS.ig,sP (By h (.inl h2))]
def tL (v:Nat):Nat→List TV→List (Nat×TV)
 | _,[]=>[]
 | c,a::r=>(ja v c,a)::tL v (c+1) r
def TS.gr (s:TS) (b aT:Nat) (v:TV):TS:=s.add [(br b,v)] s.vs aT
theorem E8 (s:TS) {b aT:Nat} {v:TV} {k:Nat} (h:k<1000000000000):(s.gr b aT v).get k=s.get k:=by
 unfold TS.gr
 rw[TS.ig,gN,if_neg (by unfold br;omega)];rfl
theorem pU {n:Nat} {s:TS} {b aT:Nat} {v:TV} (ad:n≤1000000):(s.gr b aT v).tT n=s.tT n:=by
 show(List.range n).map _=(List.range n).map _
 refine List.map_congr_left fun t a_=> ?_
 have a_:t<n:=List.mem_range.1 a_
 rw[E8 s (by omega)]
theorem pV [FZ] {s:TS} {b aT:Nat} {v:TV} (f:Fits s):Fits (s.gr b aT v):=f.congr fun k _ h2=>E8 s (by omega)
theorem L2 {s:TS} {b aT:Nat} {v:TV}:iE (s.gr b aT v)=iE s:=Di (E8 s (by unfold de;omega))
theorem L1 (s:TS) (b aT:Nat) (v:TV) (bH:Nat):(s.gr b aT v).get (br bH)=if b=bH then v else s.get (br bH):=by
 unfold TS.gr
 rw[TS.ig,gN]
 by_cases h:b=bH
 ·subst h;rw[if_pos rfl,if_pos rfl]
 ·rw[if_neg h,if_neg (by unfold br;omega)];rfl
theorem vV [FZ] {n:Nat} {s:TS} {b:Nat} {v:TV} (h:b<s.aT):((s.gr b s.aT v).al n).H=(s.al n).H.set b v.eJ:=by
 show(s.gr b s.aT v).fV++gM (s.gr b s.aT v)=(s.fV++gM s).set b v.eJ
 rw[List.set_append_left _ _ (by rw[mA];exact h)]
 have e2:gM (s.gr b s.aT v)=gM s:=by unfold gM;rw[L2]
 rw[e2]
 congr 1
 apply List.ext_getElem?
 intro i
 rw[pJ,List.getElem?_set,pJ,mA,L1]
 show(if i<s.aT then _ else _)=_
 by_cases hi:b=i
 ·subst hi;simp[h]
 ·simp[hi]
theorem BB [FZ] {n:Nat} {s:TS} {v:TV} (dK:iE s=true):((s.gr s.aT (s.aT+1) v).al n).H=(s.al n).H++[v.eJ]:=by
 show(s.gr s.aT (s.aT+1) v).fV++gM (s.gr s.aT (s.aT+1) v)=(s.fV++gM s)++[v.eJ]
 unfold gM
 rw[L2,dK]
 show(s.gr s.aT (s.aT+1) v).fV++[]=(s.fV++[])++[v.eJ]
 rw[List.append_nil,List.append_nil]
 apply List.ext_getElem?
 intro i
 rw[pJ,L1]
 show(if i<s.aT+1 then _ else _)=_
 rcases Nat.lt_trichotomy i s.aT with h | h | h
 ·rw[if_pos (by omega),if_neg (by omega),List.getElem?_append_left (by rw[mA];exact h),pJ,if_pos h]
 ·subst h
  rw[if_pos (by omega),if_pos rfl,List.getElem?_append_right (by rw[mA];exact Nat.le_refl _),mA];simp
 ·rw[if_neg (by omega),List.getElem?_eq_none (by rw[List.length_append,mA];simp;omega)]
def vq (P:Program) (t:TypeId) (v:AV):Bool:=(P.info? t).isSome&&Nat.beq (eM v).length (P.cellsOf t)&&(eM v).all jg
theorem Eh {P:Program} {t:TypeId} {v:AV} (h:vq P t v=true):(P.info? t).isSome=true∧(eM v).length=P.cellsOf t∧(eM v).all jg=true:=by
 simp only[vq,Bool.and_eq_true] at h
 exact⟨h.1.1,Nat.eq_of_beq_eq_true h.1.2,h.2⟩
def KV (P:Program) (n:Nat) (t:TypeId) (b g:Nat) (i:Int) (m c:Nat) (v:TV) (s:TS) (K:TS→aw):aw:=match xk v with
 | false=> .no
 | true=>qO s b g fun e xs e0 h=>yY s e.bR ((iQ true e (s0 e xs i)).take c++pW v++(iQ true e (s0 e xs i)).drop (c+(pW v).length)) fun dQ _=>
  let y:=e.mk dQ
  let s':=s.gr b s.aT (.blk g e (xs.set i.toNat y) e0 (by rw[List.length_set];exact h))
  .eq e0 m (.eq (vq P t v.bb) true (.eq (Nat.ble (c+(eM v.bb).length) e.jQ) true (.eq (gf (ca true e (s0 e xs i)) c (eM v.bb)) (ca true e y) (.eq s'.b4 s.b4 (.p (i.toNat<m) (K s'))))))
def C_ (P:Program) (t:TypeId):Option (List AV×Nat):=match ix P t with
 | some e=>(match mD P e with
  | some z=>(match Nat.beq z.length (P.cellsOf e)&&z.all jg with
   | true=>some (z.map lS,P.bytesOf e)
   | false=>none)
  | none=>none)
 | none=>none
theorem Q1 {P:Program} {t:TypeId} {UI:List AV} {B:Nat} (h:C_ P t=some (UI,B)): ∃e z,ix P t=some e∧mD P e=some z∧z.length=P.cellsOf e∧z.all jg=true∧UI=z.map lS∧B=P.bytesOf e:=by
 unfold C_ at h
 split at h
 ·rename_i e he
  split at h
  ·rename_i z av
   split at h
   ·rename_i hc
    simp only[Bool.and_eq_true] at hc
    cases h
    exact⟨e,z,he,av,Nat.eq_of_beq_eq_true hc.1,hc.2,rfl,rfl⟩
   ·cases h
  ·cases h
 ·cases h
def pY (P:Program) (t:TypeId):Nat:=match ix P t with
 | some e=>P.bytesOf e
 | none=>0
def X7 (e:aH) (c:List TV):e.T:=match e.isS with
 | true=>e.mk (o4 e.bR c)
 | false=>Gr e (c.getD 0 .u)
def IY (P:Program) (n:Nat) (t:TypeId) (e:aH) (l c:TV) (s:TS) (K:TV→TS→aw):aw:=match l with
 | .i _ l=>(match c with
  | .i _ c=>
   let aA:=X7 e (match ix P t with
    | some nd=>A7 P nd
    | none=>[])
   let xs:=List.replicate l.toNat aA
   let s':=s.gr s.aT (s.aT+1) (.blk 0 e xs xs.length rfl)
   .eq (C_ P t) (some (ca true e aA,pY P t)) (.eq l c (.eq s'.b4 s.b4 (.eq (iE s) true (.p (0≤l∧(pY P t:Int)*l≤140737488355328∧l≤4611686018427387904) (K (.ref s.aT 0 xs.length false) s')))))
  | _=> .no)
 | _=> .no
def Bt (P:Program) (t t2:TypeId) (x:AV):Option (Nat×Nat):=match ix P t with
 | some e=>(match mD P e with
  | some z=>(match Nat.beq z.length (P.cellsOf e)&&Nat.blt 0 z.length&&tG P e t2 x with
   | true=>some (z.length,P.bytesOf e)
   | false=>none)
  | none=>none)
 | none=>none
theorem LO {P:Program} {t t2:TypeId} {x:AV} {m B:Nat} (h:Bt P t t2 x=some (m,B)): ∃e z,ix P t=some e∧mD P e=some z∧(z.length=P.cellsOf e∧0<z.length∧tG P e t2 x=true)∧m=z.length∧B=P.bytesOf e:=by
 unfold Bt at h
 split at h
 ·rename_i e he
  split at h
  ·rename_i z av
   split at h
   ·rename_i hc
    simp only[Bool.and_eq_true] at hc
    cases h
    exact⟨e,z,he,av,⟨Nat.eq_of_beq_eq_true hc.1.1,by rw[←Nat.blt_eq];exact hc.1.2,hc.2⟩,rfl,rfl⟩
   ·cases h
  ·cases h
 ·cases h
def aH.flat:aH→Bool
 | .int | .u64 | .u8 | .bool | .str | .bG | .mQ | .ep | .fault=>true
 | _=>false
theorem Xp {e:aH} (h:e.flat=true) (x:e.T):ca false e x=ca true e x:=by cases e<;>first | rfl | cases h
theorem afh (e:aH) (x:e.T):(ca false e x).map oB=ca true e x:=by
 rw[←mN,←mN]
 have key: ∀(es:List aH) (y:ct es),(ii false es y).map oB=ii true es y:=by
  intro es
  induction es with
  | nil=>intro y;rfl
  | cons e r bn=>
   intro y
   show oB (iS false e y.1)::(ii false r y.2).map oB=_
   rw[bn,ii]
   congr 1
   cases e<;>rfl
 exact key _ _
theorem Sh {e:aH} {fr:Bool} (h:(fr || e.flat)=true) (xs:List e.T):lO fr (xs.map (ca false e))=xs.map (ca true e):=by
 cases fr with
 | true=>
  show(xs.map (ca false e)).map (fun row=>row.map oB)=_
  rw[List.map_map]
  exact List.map_congr_left fun x _=>afh e x
 | false=>exact List.map_congr_left fun x _=>Xp h x
def EX (P:Program) (n:Nat) (t t2:TypeId) (v x:TV) (s:TS) (K:TV→TS→aw):aw:=match x with
 | .l e ys iT fr=>(match(fr || e.flat)&&e.oy with
  | false=> .no
  | true=>(match v with
   | .nil full _=>(match full with
    | true=>
     let s':=s.gr s.aT (s.aT+1) (.blk 0 e ys ys.length rfl)
     .eq (Bt P t t2 (TV.l e ys iT fr).bb) (some (e.jQ,pY P t)) (.eq s'.b4 s.b4 (.eq (iE s) true (.p (ys.length*pY P t≤140737488355328∧ys.length≤4611686018427387904) (K (.ref s.aT 0 ys.length false) s'))))
    | false=> .no)
   | .ref b g m _=>qO s b g fun bT xs e0 h=>if he:e=bT then
     let hX:=xs++k8 he ys
     let s':=s.gr b s.aT (.blk (g+1) bT hX hX.length rfl)
     .eq e0 m (.eq (Bt P t t2 (TV.l e ys iT fr).bb) (some (e.jQ,pY P t)) (.eq s'.b4 s.b4 (.p ((xs.length+ys.length)*pY P t≤140737488355328∧xs.length+ys.length≤4611686018427387904) (K (.ref b (g+1) hX.length false) s'))))
    else .no
   | _=> .no))
 | _=> .no
section
variable {P:Program} (cf:gA P) (s:TS)
def za (o:Oper) (v:TV) (l:List (Nat×TV)) (vs:List (Nat×Nat)) (K:TV→TS→aw):aw:=match oV l with
 | true=> .eq (fun H Q=>jE P [] o (fun x=>(cm cf.n s x).bb) s.b4 H Q) (fun H Q=>Q v.bb (s.add l vs s.aT).b4 H) (K v (s.add l vs s.aT))
 | false=> .no
end
section
variable {P:Program} {cf:gA P} {s:TS} {R:Exit→TS→Prop}
variable {K:TV→TS→aw} {Kp:AV→List (Nat×List AV)→List Blk→Prop}
theorem Dn {b:Bool} {x:Prop} (h:b=true) (k:x):eo b x:=by subst h;exact k
end
section
variable {P:Program} {cf:gA P} {s:TS} {R:Exit→TS→Prop}
variable {K:TV→TS→aw} {Kp:AV→List (Nat×List AV)→List Blk→Prop}
theorem VO {t:TypeId} {m:Nat} {parts:List (Nat×AV)} {L:List (Nat×List AV)} {H:List Blk} {d:Option Nat} (h:v8 P t m parts fun r=>Kp r L H):tK P (tP [] d) (vd []) t m parts L H Kp:=by
 obtain⟨e,he,h⟩:=e5 h
 obtain⟨z,av,h⟩:=e5 h
 refine dF he (dF av ?_)
 split at h
 ·rename_i hc
  rw[if_pos hc]
  obtain⟨cells,hf,h⟩:=e5 h
  refine dF hf ?_
  split at h
  ·rename_i hb
   have:tP [] d=false:=by cases d<;>rfl
   rw[this]
   show if cells.all iP=true then _ else _
   rw[if_pos hb];exact h
  ·exact h.elim
 ·exact h.elim
end
section
variable {P:Program} {cf:gA P} {s:TS} {R:Exit→TS→Prop}
variable {K:TV→TS→aw} {Kp:AV→List (Nat×List AV)→List Blk→Prop}
theorem Sf {o:Oper} {bo:Operand→AV} {L:List (Nat×List AV)} {H:List Blk} (h:jp P o bo L H fun r=>Kp r L H) (hc: ∀c,o.op≠ .call c) (hb: ∀t m ps,o.op≠ .buildSlice t m ps):jE P [] o bo L H Kp:=by
 have h':=B2 h
 obtain⟨dst,op,ty,pos,after,guard⟩:=o
 cases op<;>first | exact h' | exact h'.elim | exact absurd rfl (hc _) | exact absurd rfl (hb _ _ _)
end
section
variable {P:Program} {cf:gA P} {s:TS} {R:Exit→TS→Prop}
variable {K:TV→TS→aw} {Kp:AV→List (Nat×List AV)→List Blk→Prop}
theorem Jr {o:Oper} {c:Call} {bo:Operand→AV} {L:List (Nat×List AV)} {H:List Blk} (ar:o.op= .call c) (h:jp P o bo L H fun r=>Kp r L H):jE P [] o bo L H Kp:=by
 have h':=B2 h
 obtain⟨dst,op,ty,pos,after,guard⟩:=o
 cases ar
 obtain⟨callee,args,argTypes⟩:=c
 cases callee with
 | builtin b=>
  cases b with
  | len=>exact h'
  | _=>exact h'.elim
 | value f=>
  have h':k7 (bo f) fun g caps=>oa P g (args.toList.map bo++caps) L H fun r=>Kp r L H:=h'
  show k7 (bo f) fun g caps=>kK P g (args.toList.map bo++caps) L H Kp
  cases hf:bo f with
  | fn g caps=>rw[hf] at h';exact .inl h'
  | _=>rw[hf] at h';exact h'.elim
 | _=>exact h'.elim
end
section
variable {P:Program} {cf:gA P} {s:TS} {R:Exit→TS→Prop}
variable {K:TV→TS→aw} {Kp:AV→List (Nat×List AV)→List Blk→Prop}
theorem afc {o:Oper} {t:TypeId} {m:Nat} {ps:Array (Nat×Operand)} {bo:Operand→AV} {L:List (Nat×List AV)} {H:List Blk} (ar:o.op= .buildSlice t m ps) (h:jp P o bo L H fun r=>Kp r L H):jE P [] o bo L H Kp:=by
 have h':=B2 h
 obtain⟨dst,op,ty,pos,after,guard⟩:=o
 cases ar
 obtain⟨h1,h2⟩:=pu (show eo (ps.toList.all fun p=>en (bo p.2)) (v8 P t m (ps.toList.map fun p=>(p.1,bo p.2)) fun r=>Kp r L H) from h')
 show eo (ps.toList.all fun p=>en (bo p.2)) (tK P (tP [] dst) (vd []) t m (ps.toList.map fun p=>(p.1,bo p.2)) L H Kp)
 rw[h1];exact VO h2
end
section
variable [Z:FZ] {P:Program} {cf:gA P} {s:TS} {R:Exit→TS→Prop}
def vP (cf:gA P) (s:TS) (R:Exit→TS→Prop) (K:TV→TS→aw) (Kp:nZ Prop):Prop:=
 ∀v s' (Z':FZ),(K v s').den R→ @Fits Z' s'→s'.tT cf.n=s.tT cf.n→Kp v.bb s'.b4 (@TS.al Z' cf.n s').H
variable {K:TV→TS→aw} {Kp:AV→List (Nat×List AV)→List Blk→Prop}
theorem ahC (ad:cf.n≤1000000) {t:TypeId} {b g m c:Nat} {i:Int} {v:TV} {K:TS→aw} {Kp:List (Nat×List AV)→List Blk→Prop} (av:Fits s) (hK: ∀s' (Z':FZ),(K s').den R→ @Fits Z' s'→s'.tT cf.n=s.tT cf.n→Kp s'.b4 (@TS.al Z' cf.n s').H) (h:(KV P cf.n t b g i m c v s K).den R):
  eo (en v.bb) (ln P t (.ptr b g i.toNat c) v.bb (s.al cf.n).L (s.al cf.n).H Kp):=by
 unfold KV at h
 split at h
 ·exact h.elim
 ·rename_i hv
  obtain⟨e,xs,e0,hm,h,hb,an⟩:=vW (n:=cf.n) h
  obtain⟨dQ,o,h,_⟩:=BM av (n:=cf.n) h
  obtain⟨h1,h2,ay,bg,cW,e1,h⟩:=h
  refine Dn (Dl hv) ?_
  have aN:i.toNat<xs.length:=by omega
  have hs:=Eh h2
  unfold ln
  rw[if_pos hs]
  refine dF an ⟨rfl,dF (I3 aN true) ⟨?_,?_⟩⟩
  ·rw[tN];exact Nat.le_of_ble_eq_true ay
  ·have:=hK _ Z h (pV av) (pU ad)
   rw[vV hb,cW] at this
   rw[bg]
   have ax: ∀y:e.T,(xs.map (ca true e)).set i.toNat (ca true e y)=(xs.set i.toNat y).map (ca true e):=fun y=>by rw[List.map_set]
   rw[ax];exact this
theorem adQ (ad:cf.n≤1000000) (av:Fits s) {t:TypeId} {e:aH} {l c:TV} (hK:vP cf s R K Kp) (h:(IY P cf.n t e l c s K).den R):xf P t l.bb c.bb (s.al cf.n).L (s.al cf.n).H Kp:=by
 unfold IY at h
 split at h
 ·split at h
  ·obtain⟨h1,h2,ay,dK,bg,h⟩:=h
   rename_i C8 xb l ob abz c
   subst h2
   obtain⟨nd,z,q1,q2,q3,q4,cP,cF⟩:=Q1 h1
   refine dF q1 (dF q2 ?_)
   rw[if_pos ⟨q3,q4⟩]
   refine⟨bg.1,Int.le_refl _,by rw[←cF];exact bg.2.1,bg.2.2,?_⟩
   have:=hK _ _ Z h (pV av) (pU ad)
   rw[BB dK,ay] at this
   rw[Ej dK,←cP]
   have av:z.length=e.jQ:=by
    have:=congrArg List.length cP
    rw[List.length_map,tN] at this;exact this.symm
   rw[av]
   have ao: ∀aA:e.T,(List.replicate l.toNat aA).length=l.toNat:=fun aA=>List.length_replicate
   show Kp (.ref s.aT 0 0 l.toNat false) _ ((s.al cf.n).H++[⟨0,e.jQ,List.replicate l.toNat (ca true e _)⟩])
   rw[←List.map_replicate]
   have this:Kp (.ref s.aT 0 0 (List.replicate l.toNat _).length false) (s.al cf.n).L ((s.al cf.n).H++[⟨0,e.jQ,(List.replicate l.toNat _).map (ca true e)⟩]):=this
   rw[ao] at this
   exact this
  ·exact h.elim
 ·exact h.elim
theorem Vs (ad:cf.n≤1000000) (av:Fits s) {t t2:TypeId} {v x:TV} (hK:vP cf s R K Kp) (h:(EX P cf.n t t2 v x s K).den R):en v.bb=true∧en x.bb=true∧tF P t t2 v.bb x.bb (s.al cf.n).L (s.al cf.n).H Kp:=by
 unfold EX at h
 split at h
 ·rename_i e ys iT fr
  split at h
  ·exact h.elim
  ·rename_i hc
   simp only[Bool.and_eq_true] at hc
   have eK: ∀(hX:List e.T) (k:Nat),e.jQ=k→tc k (hX.map (ca true e)):=fun hX k hk row ai=>by
    obtain⟨y,_,rfl⟩:=List.mem_map.1 ai
    refine⟨by rw[tN,hk],fun a ap=>List.all_eq_true.1 (W2 (fr:=true) hc.2 y) a ap⟩
   have cX: ∀{nd},ix P t=some nd→pY P t=P.bytesOf nd:=fun h=>by unfold pY;rw[h]
   split at h
   ·split at h
    ·rename_i full aiA
     obtain⟨h1,h2,dK,ay,h⟩:=h
     obtain⟨nd,z,q1,q2,q3,q4,cP⟩:=LO h1
     refine⟨rfl,rfl,dF q1 (dF q2 ?_)⟩
     rw[if_pos q3]
     show _∧_
     have hx:lO fr (List.map (ca false e) ys)=ys.map (ca true e):=Sh hc.1 ys
     rw[hx]
     refine⟨eK ys _ q4,rfl,(fun row h=>by cases h),?_,?_,(fun h=>absurd rfl h),?_⟩
     ·rw[List.length_map,←cX q1];simpa using ay.1
     ·rw[List.length_map];simpa using ay.2
     ·have:=hK _ _ Z h (pV av) (pU ad)
      rw[BB dK,h2] at this
      rw[Ej dK,←q4,List.length_map]
      simp only[List.length_nil,Nat.zero_add,List.nil_append]
      exact this
    ·exact h.elim
   ·rename_i b g m c8
    obtain⟨bT,xs,e0,hm,h,hb,an⟩:=vW (n:=cf.n) h
    split at h
    ·rename_i he
     subst he
     obtain⟨h1,h2,ay,bg,tQ⟩:=h
     subst h1
     obtain⟨nd,z,q1,q2,q3,q4,cP⟩:=LO h2
     refine⟨rfl,rfl,dF q1 (dF q2 ?_)⟩
     rw[if_pos q3]
     show _∧_
     have hx:lO fr (List.map (ca false e) ys)=ys.map (ca true e):=Sh hc.1 ys
     rw[hx]
     refine⟨eK ys _ q4,rfl,dF an ⟨rfl,q4,by rw[List.length_map];exact hm,?_,?_,?_⟩⟩
     ·rw[List.length_map,←hm,←cX q1];exact bg.1
     ·rw[List.length_map,←hm];exact bg.2
     ·have:=hK _ _ Z tQ (pV av) (pU ad)
      rw[vV hb,ay] at this
      rw[←q4,List.length_map,←hm,←List.map_append,←List.length_append]
      exact this
    ·exact h.elim
   ·exact h.elim
 ·exact h.elim
theorem Gx (ad:cf.n≤1000000) (av:Fits s) {o:Oper} {v:TV} {l:List (Nat×TV)} {vs:List (Nat×Nat)} (hK:vP cf s R K Kp) (h:(za cf s o v l vs K).den R):jE P [] o (bY (s.al cf.n).T) (s.al cf.n).L (s.al cf.n).H Kp:=by
 unfold za at h
 split at h
 ·rename_i hb
  obtain⟨e,h⟩:=h
  rw[ku,show(fun x=>(cm cf.n s x).bb)=(fun x=>(cm cf.n s x).bb) from rfl]
  have e:=congrFun (congrFun e (s.al cf.n).H) Kp
  have e:jE P [] o (fun x=>(cm cf.n s x).bb) (s.al cf.n).L (s.al cf.n).H Kp=_:=e
  rw[e]
  have:=hK _ _ Z h (yO hb av) (yN ad hb)
  rw[yM hb] at this;exact this
 ·exact h.elim
end
end Go.Proofs.YtejmihecgodhnaaGreat.Fw
