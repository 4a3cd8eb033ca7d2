/- The machine, part A: kinds of values, values told by their kinds, trees of conditions. -/
import Derived.Test.YtglpfccgmfhkdaaM2
set_option linter.unusedVariables false
namespace Go.Proofs.Ytglpfccgmfhkdaa.Fw
open Go
inductive bk where
 | int | u64 | u8 | bool | str | bJ | ee | c7 | k8 | dS | held | frame | done | fault | stays | fe | unit | nat
 | l (e:bk)
 | ptr (e:bk)
 | gr (f:Nat) (e:bk)
 deriving DecidableEq,Inhabited
@[reducible] def bk.T:bk→Type
 | .int=>Int
 | .u64=>Int
 | .u8=>UInt8
 | .bool=>Bool
 | .str=>ByteArray
 | .bJ=>b5
 | .ee=>Way
 | .c7=>aG
 | .k8=>Event
 | .dS=>b8
 | .held=>ab
 | .frame=>Frame
 | .done=>wc
 | .fault=>gP
 | .stays=>zc
 | .fe=>wb
 | .unit=>Unit
 | .nat=>Nat
 | .l e=>List e.T
 | .ptr e=>e.T
 | .gr _ e=>e.T
@[reducible] def bk.qK:(e:bk)→Inhabited e.T
 | .int=>inferInstanceAs (Inhabited Int)
 | .u64=>inferInstanceAs (Inhabited Int)
 | .u8=>inferInstanceAs (Inhabited UInt8)
 | .bool=>inferInstanceAs (Inhabited Bool)
 | .str=>inferInstanceAs (Inhabited ByteArray)
 | .bJ=>inferInstanceAs (Inhabited b5)
 | .ee=>inferInstanceAs (Inhabited Way)
 | .c7=>inferInstanceAs (Inhabited aG)
 | .k8=>inferInstanceAs (Inhabited Event)
 | .dS=>inferInstanceAs (Inhabited b8)
 | .held=>inferInstanceAs (Inhabited ab)
 | .frame=>inferInstanceAs (Inhabited Frame)
 | .done=>inferInstanceAs (Inhabited wc)
 | .fault=>inferInstanceAs (Inhabited gP)
 | .stays=>inferInstanceAs (Inhabited zc)
 | .fe=>inferInstanceAs (Inhabited wb)
 | .unit=>inferInstanceAs (Inhabited Unit)
 | .nat=>inferInstanceAs (Inhabited Nat)
 | .l e=>inferInstanceAs (Inhabited (List e.T))
 | .ptr e=>e.qK
 | .gr _ e=>e.qK
def pC (e:bk) (xs:List e.T) (i:Int):e.T:= @nth e.T e.qK xs i
def cg:List bk→Type
 | []=>Unit
 | e::r=>e.T×cg r
def bk.iL:bk→List bk
 | .bJ=>[.int,.int]
 | .ee=>[.l .int,.l .bJ,.l .bJ,.l .int,.l .int]
 | .c7=>[.int,.l .int,.l .ee,.l (.l .bool),.int]
 | .k8=>[.int,.int,.int]
 | .dS=>[.int,.int]
 | .held=>[.int,.int,.l .bool,.bool,.int]
 | .frame=>[.bool,.l .bool,.l .dS,.l .held]
 | .done=>[.int,.bool,.l .bool,.l .dS,.l .held]
 | .fault=>[.int,.int]
 | .stays=>[.l .int,.l .int,.l .int]
 | .fe=>[.l .u8,.int,.u64]
 | e=>[e]
def bk.isS:bk→Bool
 | .bJ | .ee | .c7 | .k8 | .dS | .held | .frame | .done | .fault | .stays | .fe=>true
 | _=>false
def bk.mk:(e:bk)→cg e.iL→e.T
 | .bJ,(a,b,_)=>⟨a,b⟩
 | .ee,(a,b,c,d,e,_)=>⟨a,b,c,d,e⟩
 | .c7,(a,b,c,d,e,_)=>⟨a,b,c,d,e⟩
 | .k8,(a,b,c,_)=>⟨a,b,c⟩
 | .dS,(a,b,_)=>⟨a,b⟩
 | .held,(a,b,c,d,e,_)=>⟨a,b,c,d,e⟩
 | .frame,(a,b,c,d,_)=>⟨a,b,c,d⟩
 | .done,(a,b,c,d,e,_)=>⟨a,⟨b,c,d,e⟩⟩
 | .fault,(a,b,_)=>⟨a,b⟩
 | .stays,(a,b,c,_)=>⟨a,b,c⟩
 | .fe,(a,b,c,_)=>⟨a,b,c⟩
 | .int,(a,_)=>a
 | .u64,(a,_)=>a
 | .u8,(a,_)=>a
 | .bool,(a,_)=>a
 | .str,(a,_)=>a
 | .unit,(a,_)=>a
 | .nat,(a,_)=>a
 | .l _,(a,_)=>a
 | .ptr _,(a,_)=>a
 | .gr _ _,(a,_)=>a
def bk.un:(e:bk)→e.T→cg e.iL
 | .bJ,x=>(x.br,x.bJ,())
 | .ee,x=>(x.ah,x.aQ,x.bI,x.bV,x.c9,())
 | .c7,x=>(x.ah,x.bD,x.M,x.bA,x.dV,())
 | .k8,x=>(x.op,x.MH,x.bJ,())
 | .dS,x=>(x.b1,x.aQ,())
 | .held,x=>(x.au,x.aa,x.U,x.an,x.ao,())
 | .frame,x=>(x.ok,x.aA,x.av,x.M,())
 | .done,x=>(x.code,x.frame.ok,x.frame.aA,x.frame.av,x.frame.M,())
 | .fault,x=>(x.code,x.pos,())
 | .stays,x=>(x.M,x.ah,x.av,())
 | .fe,x=>(x.code,x.pos,x.K5,())
 | .int,x=>(x,())
 | .u64,x=>(x,())
 | .u8,x=>(x,())
 | .bool,x=>(x,())
 | .str,x=>(x,())
 | .unit,x=>(x,())
 | .nat,x=>(x,())
 | .l _,x=>(x,())
 | .ptr _,x=>(x,())
 | .gr _ _,x=>(x,())
theorem bk.MM (e:bk) (x:cg e.iL):e.un (e.mk x)=x:=by cases e<;>rfl
def cb (fr:Bool):(e:bk)→e.T→List AV
 | .int,x=>ca x
 | .u64,x=>[.int .u64 x]
 | .u8,x=>wW x
 | .bool,x=>aT x
 | .str,x=>z6 x
 | .bJ,x=>dh x
 | .ee,x=>dI fr x
 | .c7,x=>bW fr x
 | .k8,x=>zX x
 | .dS,x=>bn x
 | .held,x=>cl fr x
 | .frame,x=>ck fr x
 | .done,x=>zW fr x
 | .fault,x=>zY x
 | .stays,x=>O5 fr x
 | .fe,x=>O4 fr x
 | .l e,x=>[.a8 (x.map (cb false e)) false fr]
 | .unit,_ | .nat,_ | .ptr _,_ | .gr _ _,_=>[.undef]
def lT (fr:Bool):(e:bk)→e.T→AV
 | .int,x=> .int .i64 x
 | .u64,x=> .int .u64 x
 | .u8,x=> .int .u8 x.toNat
 | .bool,x=> .bool x
 | .str,x=> .str x
 | .l e,x=> .a8 (x.map (cb false e)) false fr
 | _,_=> .undef
def jt (fr:Bool):(es:List bk)→cg es→List AV
 | [],_=>[]
 | e::r,x=>lT fr e x.1::jt fr r x.2
theorem nn (fr:Bool) (e:bk) (x:e.T):jt fr e.iL (e.un x)=cb fr e x:=by
 cases e<;>first | rfl | (simp only[bk.iL,bk.un,jt,lT,cb];rfl)
def bk.jA:bk→Nat
 | .bJ=>2
 | .ee=>5
 | .c7=>5
 | .k8=>3
 | .dS=>2
 | .held=>5
 | .frame=>4
 | .done=>5
 | .fault=>2
 | .stays=>3
 | .fe=>3
 | _=>1
theorem qc (fr:Bool) (e:bk) (x:e.T):(cb fr e x).length=e.jA:=by cases e<;>rfl
def bk.l3:bk→Bool
 | .unit | .nat | .ptr _ | .gr _ _=>false
 | _=>true
theorem O_ {fr:Bool} {e:bk} (h:e.l3=true) (x:e.T):(cb fr e x).all hA=true:=by cases e<;>first | rfl | cases h
inductive dd where
 | t | f
 | v (b:Bool)
 | at(i:Nat) (b:Bool)
 | n (x:dd)
 | bh (x y:dd)
 | or (x y:dd)
 | ite (c x y:dd)
 | se (x y:dd)
 | ne (x y:dd)
 deriving Inhabited
def dd.den:dd→Bool
 | .t=>true
 | .f=>false
 | .v b=>b
 | .at _ b=>b
 | .n x=> !x.den
 | .bh x y=>x.den&&y.den
 | .or x y=>x.den || y.den
 | .ite c x y=>bif c.den then x.den else y.den
 | .se x y=>x.den==y.den
 | .ne x y=>x.den !=y.den
def dd.not:dd→dd
 | .t=> .f
 | .f=> .t
 | x=> .n x
def dd.qY (b x y:dd):dd:=match x with
 | .t=>(match y with
  | .t=> .t
  | .f=>b
  | y=> .or b y)
 | .f=>(match y with
  | .f=> .f
  | .t=> .n b
  | y=> .bh (.n b) y)
 | x=>(match y with
  | .f=> .bh b x
  | .t=> .or (.n b) x
  | y=> .ite b x y)
theorem dd.vf (b x y:dd):(dd.qY b x y).den=bif b.den then x.den else y.den:=by
 cases x<;>cases y<;>simp only[dd.qY,dd.den]<;>cases b.den<;>simp
inductive TV where
 | u
 | i (k:IntKind) (n:Int)
 | b (x:dd)
 | s (x:ByteArray)
 | l (e:bk) (xs:List e.T) (full fr:Bool)
 | nil (full fr:Bool)
 | ref (b g n:Nat) (full:Bool)
 | ptr (b g:Nat) (i:Int) (n col:Nat)
 | lp (t col:Nat)
 | cD (e:bk) (x:e.T) (col:Nat)
 | agg (c:List TV)
 | tup (c:List TV)
 | fn (f:FuncId) (c:List TV)
 | o (a:AV)
 | blk (g:Nat) (e:bk) (xs:List e.T) (n:Nat) (h:xs.length=n)
 | eb (g:Nat) (c:List TV)
 | ia (g m:Nat) (ids:List Nat)
 | fp (V:List ab) (ids:List Nat) (n:Nat) (h:V.length=n)
 | new (id:Nat) (xs:List Bool)
 | sl (w:Int) (ids:List Nat) (m n:Nat)
 | sj (w:Int) (ids:List Nat) (m:Nat) (j:Int)
 | u9 (id m n:Nat)
 deriving Inhabited
class FZ where
 ws:List ab
 bs:List (List Bool)
mutual
def TV.be:TV→AV
 | .u=> .undef
 | .i k n=> .int k n
 | .b x=> .bool x.den
 | .s x=> .str x
 | .l e xs full fr=> .a8 (xs.map (cb false e)) full fr
 | .nil full fr=> .a8 [] full fr
 | .ref b g n full=> .ref b g 0 n full
 | .ptr b g i _ c=> .ptr b g i.toNat c
 | .lp t c=> .dZ t c
 | .cD e x c=> .cD (cb false e x) c
 | .agg c=> .agg (b9 c)
 | .tup c=> .tup (b9 c)
 | .fn f c=> .fn f (b9 c)
 | .o a=>a
 | .blk _ _ _ _ _=> .undef
 | .eb _ _=> .undef
 | .ia _ _ _=> .undef
 | .fp _ _ _ _=> .undef
 | .new _ _=> .undef
 | .sl w ids m k=> .ref (nth ids w+m) 0 0 k false
 | .sj w ids m j=> .ptr (nth ids w+m) 0 j.toNat 0
 | .u9 id m k=> .ref (id+m) 0 0 k false
def b9:List TV→List AV
 | []=>[]
 | x::r=>x.be::b9 r
end
theorem k0 (l:List TV):b9 l=l.map TV.be:=by
 induction l with
 | nil=>rfl
 | cons x r bx=>rw[b9,bx];rfl
def TV.dN [Z:FZ]:TV→Blk
 | .blk g e xs _ _=>⟨g,e.jA,xs.map (cb true e)⟩
 | .eb g c=>⟨g,c.length,[b9 c]⟩
 | .ia g m ids=>⟨g,5,bd m Z.ws ids⟩
 | _=>⟨0,0,[]⟩
def vU (fr:Bool):(e:bk)→e.T→TV
 | .int,x=> .i .i64 x
 | .u64,x=> .i .u64 x
 | .u8,x=> .i .u8 x.toNat
 | .bool,x=> .b (.v x)
 | .str,x=> .s x
 | .l e,x=> .l e x false fr
 | _,_=> .u
def yV (fr:Bool):(es:List bk)→cg es→List TV
 | [],_=>[]
 | e::r,x=>vU fr e x.1::yV fr r x.2
theorem DQ (fr:Bool) (e:bk) (x:e.T):(vU fr e x).be=lT fr e x:=by cases e<;>rfl
theorem MI (fr:Bool): ∀(es:List bk) (x:cg es),b9 (yV fr es x)=jt fr es x
 | [],_=>rfl
 | e::r,x=>by rw[yV,b9,jt,DQ,MI fr r]
def hj (fr:Bool) (e:bk) (x:e.T):List TV:=yV fr e.iL (e.un x)
theorem wL (fr:Bool) (e:bk) (x:e.T):b9 (hj fr e x)=cb fr e x:=by rw[hj,MI,nn]
structure TS where
 T:List (Nat×TV)
 B:List (Nat×TV)
 vs:List (Nat×Nat)
 aU:Nat
 deriving Inhabited
def fy:List (Nat×TV)→Nat→TV→TV
 | [],_,d=>d
 | (k,v)::r,t,d=>match Nat.beq k t with
  | true=>v
  | false=>fy r t d
def jP (v c:Nat):Nat:=1000010+(1000*v+c)
def cM:Nat:=1000000
def eH:Nat:=1000001
def bB (b:Nat):Nat:=1000000000000+b
def TS.get (s:TS) (k:Nat):TV:=fy s.T k (fy s.B k .u)
def TS.put (s:TS) (k:Nat) (v:TV):TS:=⟨(k,v)::s.T,s.B,s.vs,s.aU⟩
def gb (s:TS) (v:Nat):Nat→Nat→List TV
 | _,0=>[]
 | c,m+1=>s.get (jP v c)::gb s v (c+1) m
def TS.tT (n:Nat) (s:TS):List AV:=(List.range n).map fun t=>(s.get t).be
def TS.bN (s:TS):List (Nat×List AV):=s.vs.map fun p=>(p.1,b9 (gb s p.1 0 p.2))
def gX (s:TS):Bool:=match s.get cM with
 | .fp _ _ _ _=>false
 | _=>true
def fC [Z:FZ] (s:TS):List Blk:=match gX s with
 | true=>[]
 | false=>Z.bs.map bz
def TS.eW [FZ] (s:TS):List Blk:=(List.range s.aU).map fun b=>(s.get (bB b)).dN
def TS.aq [FZ] (n:Nat) (s:TS):St:=⟨s.tT n,s.bN,s.eW++fC s⟩
def Fits [Z:FZ] (s:TS):Prop:=
 (∀V ids n h,s.get cM= .fp V ids n h→ie Z.ws ids Z.bs∧view Z.ws ids Z.bs=V∧ ∀id xs,s.get eH= .new id xs→id<Z.bs.length∧Z.bs.getD id []=xs∧ ∀j:Nat,ids[j]?≠some id)
theorem Fits.congr [FZ] {s s':TS} (h:Fits s) (e: ∀k,1000000≤k→k<1000010→s'.get k=s.get k):Fits s':=fun V ids n h' jL=>by
 rw[e cM (by unfold cM;omega) (by unfold cM;omega)] at jL
 obtain⟨h1,h2,bj⟩:=h V ids n h' jL
 refine⟨h1,h2,fun id xs hi=>bj id xs ?_⟩
 rw[←hi,e eH (by unfold eH;omega) (by unfold eH;omega)]
theorem Fits.none [FZ] {s:TS} (h:gX s=true):Fits s:=fun V ids n h' jL=>by
 unfold gX at h;rw[jL] at h;cases h
theorem fH (k:Nat) (v:TV) (r:List (Nat×TV)) (t:Nat) (d:TV):fy ((k,v)::r) t d=if k=t then v else fy r t d:=by
 show(match Nat.beq k t with
  | true=>v
  | false=>fy r t d)=_
 by_cases h:k=t
 ·subst h;rw[Nat.beq_refl,if_pos rfl]
 ·rw[if_neg h]
  cases hb:Nat.beq k t with
  | true=>exact absurd (Nat.eq_of_beq_eq_true hb) h
  | false=>rfl
theorem qQ (A B:List (Nat×TV)) (t:Nat) (d:TV):fy (A++B) t d=fy A t (fy B t d):=by
 induction A with
 | nil=>rfl
 | cons p r bx=>obtain⟨k,v⟩:=p;rw[List.cons_append,fH,fH,bx]
theorem px {A:List (Nat×TV)} {t:Nat} {d:TV} (h: ∀v,(t,v) ∉ A):fy A t d=d:=by
 induction A with
 | nil=>rfl
 | cons p r bx=>
  obtain⟨k,v⟩:=p
  rw[fH,if_neg,bx fun w hw=>h w (List.mem_cons_of_mem _ hw)]
  rintro rfl;exact h v (List.mem_cons_self ..)
theorem TS.AC (s:TS) (k:Nat) (v:TV) (t:Nat):(s.put k v).get t=if k=t then v else s.get t:=fH ..
inductive aD:Type 1 where
 | iw (ex:Exit) (s:TS)
 | fY
 | no
 | p (φ:Prop) (t:aD)
 | hI (φ:Prop) (t:aD)
 | gK (b:dd) (s:TS) (x y:aD)
 | two (x y:aD)
 | fS (x:aD) (dl:List Prop) (b:dd) (y:aD)
 | all (α:Type) (f:α→aD)
 | eq {α:Type} (a b:α) (t:aD)
def nl:List Prop→Prop
 | []=>True
 | φ::r=>match r with
  | []=>φ
  | r=>φ∧nl r
theorem EQ: ∀{l:List Prop},(∀φ∈l,φ)→nl l
 | [],_=>trivial
 | [φ],h=>h φ (by simp)
 | φ::ψ::r,h=>⟨h φ (by simp),EQ (l:=ψ::r) fun x hx=>h x (List.mem_cons_of_mem _ hx)⟩
def sg (dl:List Prop):dd→List Prop
 | .t=>dl
 | b=>dl++[b.den=true]
def ud (dl:List Prop) (b:dd):Prop:=nl (sg dl b)
theorem Pm {dl:List Prop} {b:dd} (h: ∀φ∈dl,φ) (hb:b.den=true):ud dl b:=by
 unfold ud
 refine EQ fun φ dB=> ?_
 unfold sg at dB
 split at dB
 ·exact h φ dB
 ·rcases List.mem_append.1 dB with q | q
  ·exact h φ q
  ·rw[List.mem_singleton.1 q];exact hb
def aD.den:aD→(Exit→TS→Prop)→Prop
 | .iw ex s,R=>R ex s
 | .fY,_=>True
 | .no,_=>False
 | .p φ t,R=>φ∧t.den R
 | .hI φ t,R=>φ→t.den R
 | .gK b _ x y,R=>(b.den=true→x.den R)∧(b.den=false→y.den R)
 | .two x y,R=>x.den R∧y.den R
 | .fS x dl b y,R=>x.den R∧(ud dl b→y.den R)
 | .all _ f,R=> ∀a,(f a).den R
 | .eq a b t,R=>a=b∧t.den R
def aD.bind:aD→(Exit→TS→aD)→aD
 | .iw ex s,K=>K ex s
 | .fY,_=> .fY
 | .no,_=> .no
 | .p φ t,K=> .p φ (t.bind K)
 | .hI φ t,K=> .hI φ (t.bind K)
 | .gK b s x y,K=> .gK b s (x.bind K) (y.bind K)
 | .two x y,K=> .two (x.bind K) (y.bind K)
 | .fS x dl b y,K=> .fS (x.bind K) dl b (y.bind K)
 | .all α f,K=> .all α fun a=>(f a).bind K
 | .eq a b t,K=> .eq a b (t.bind K)
theorem aD.NR (t:aD) (K:Exit→TS→aD) (R:Exit→TS→Prop):(t.bind K).den R=t.den fun ex s=>(K ex s).den R:=by
 induction t with
 | iw ex s=>rfl
 | fY=>rfl
 | no=>rfl
 | p φ t bx=>simp only[aD.bind,aD.den,bx]
 | hI φ t bx=>simp only[aD.bind,aD.den,bx]
 | gK b s x y gg fQ=>simp only[aD.bind,aD.den,gg,fQ]
 | two x y gg fQ=>simp only[aD.bind,aD.den,gg,fQ]
 | fS x dl b y gg fQ=>simp only[aD.bind,aD.den,gg,fQ]
 | all α f bx=>simp only[aD.bind,aD.den,bx]
 | eq a b t bx=>simp only[aD.bind,aD.den,bx]
theorem aD.n7 {t:aD} {R tL:Exit→TS→Prop} (h:t.den R) (k: ∀ex s,R ex s→tL ex s):t.den tL:=by
 induction t with
 | iw ex s=>exact k _ _ h
 | fY=>trivial
 | no=>exact h
 | p φ t bx=>exact⟨h.1,bx h.2⟩
 | hI φ t bx=>exact fun q=>bx (h q)
 | gK b s x y gg fQ=>exact⟨fun q=>gg (h.1 q),fun q=>fQ (h.2 q)⟩
 | two x y gg fQ=>exact⟨gg h.1,fQ h.2⟩
 | fS x dl b y gg fQ=>exact⟨gg h.1,fun q=>fQ (h.2 q)⟩
 | all α f bx=>exact fun a=>bx a (h a)
 | eq a b t bx=>exact⟨h.1,bx h.2⟩
inductive eD:Type 1 where
 | fY
 | p (φ:Prop)
 | and (a b:eD)
 | hI (φ:Prop) (c:eD)
 | all (α:Type) (f:α→eD)
def eD.and' (a b:eD):eD:=match a with
 | .fY=>b
 | a=>match b with
  | .fY=>a
  | b=> .and a b
def eD.sJ (φ:Prop) (c:eD):eD:=match c with
 | .fY=> .fY
 | c=> .hI φ c
def eD.den:eD→Prop
 | .fY=>True
 | .p φ=>φ
 | .and a b=>a.den∧b.den
 | .hI φ c=>φ→c.den
 | .all _ f=> ∀a,(f a).den
theorem eD.ww (a b:eD):(eD.and' a b).den↔a.den∧b.den:=by
 cases a<;>cases b<;>simp[eD.and',eD.den]
theorem eD.xR (φ:Prop) (c:eD):(eD.sJ φ c).den↔(φ→c.den):=by
 cases c<;>simp[eD.sJ,eD.den]
def eD.fact (dl:List Prop) (b:dd) (c:eD):eD:=match sg dl b with
 | []=>c
 | φ::r=> .sJ (nl (φ::r)) c
theorem eD.Pn (dl:List Prop) (b:dd) (c:eD):(eD.fact dl b c).den↔(ud dl b→c.den):=by
 unfold eD.fact ud
 split
 ·rename_i h;rw[h];simp[nl]
 ·rename_i h;rw[h];exact eD.xR _ _
def aD.lR:aD→eD
 | .iw _ _=> .fY
 | .fY=> .fY
 | .no=> .p False
 | .p φ t=> .and' (.p φ) t.lR
 | .hI φ t=> .sJ φ t.lR
 | .gK b _ x y=> .and' (.sJ (b.den=true) x.lR) (.sJ (b.den=false) y.lR)
 | .two x y=> .and' x.lR y.lR
 | .fS x dl b y=> .and' x.lR (.fact dl b y.lR)
 | .all α f=> .all α fun a=>(f a).lR
 | .eq _ _ t=>t.lR
inductive n1:Type 1 where
 | u
 | v {α:Type} (a:α) (t:n1)
 | n (a b:n1)
 | f {α:Type} (g:α→n1)
def aD.lhs:aD→n1
 | .iw _ _ | .fY | .no=> .u
 | .p _ t | .hI _ t=>t.lhs
 | .gK _ _ x y | .two x y | .fS x _ _ y=> .n x.lhs y.lhs
 | .all _ f=> .f fun a=>(f a).lhs
 | .eq a _ t=> .v a t.lhs
def aD.rhs:aD→n1
 | .iw _ _ | .fY | .no=> .u
 | .p _ t | .hI _ t=>t.rhs
 | .gK _ _ x y | .two x y | .fS x _ _ y=> .n x.rhs y.rhs
 | .all _ f=> .f fun a=>(f a).rhs
 | .eq _ b t=> .v b t.rhs
theorem aD.full {t:aD} (h:t.lR.den) (e:t.lhs=t.rhs):t.den fun _ _=>True:=by
 induction t with
 | iw ex s=>trivial
 | fY=>trivial
 | no=>exact h
 | p φ t bx=>
  have h:=(eD.ww _ _).1 h
  exact⟨h.1,bx h.2 e⟩
 | hI φ t bx=>exact fun q=>bx ((eD.xR _ _).1 h q) e
 | gK b s x y gg fQ=>
  have h:=(eD.ww _ _).1 h
  injection e with bi e2
  exact⟨fun q=>gg ((eD.xR _ _).1 h.1 q) bi,fun q=>fQ ((eD.xR _ _).1 h.2 q) e2⟩
 | two x y gg fQ=>
  have h:=(eD.ww _ _).1 h
  injection e with bi e2
  exact⟨gg h.1 bi,fQ h.2 e2⟩
 | fS x dl b y gg fQ=>
  have h:=(eD.ww _ _).1 h
  injection e with bi e2
  exact⟨gg h.1 bi,fun q=>fQ ((eD.Pn _ _ _).1 h.2 q) e2⟩
 | all α f bx=>
  injection e with _ e
  exact fun a=>bx a (h a) (congrFun e a)
 | eq a b t bx=>
  injection e with _ bi e2
  exact⟨bi,bx h e2⟩
def qZ (b:dd) (x y:TV):TV:=match x with
 | .i k n=>(match y with
  | .i iv m=>if k=iv then .i k (bif b.den then n else m) else .u
  | _=> .u)
 | .b x=>(match y with
  | .b y=> .b (dd.qY b x y)
  | _=> .u)
 | .s x=>(match y with
  | .s y=> .s (bif b.den then x else y)
  | _=> .u)
 | _=> .u
def dd.ln:dd→dd→Bool
 | .at i _,.at j _=>Nat.beq i j
 | .t,.t=>true
 | .f,.f=>true
 | .n x,.n y=>x.ln y
 | .bh x y,.bh z w=>x.ln z&&y.ln w
 | .or x y,.or z w=>x.ln z&&y.ln w
 | .ite c x y,.ite d z w=>c.ln d&&x.ln z&&y.ln w
 | .se x y,.se z w=>x.ln z&&y.ln w
 | .ne x y,.ne z w=>x.ln z&&y.ln w
 | _,_=>false
def B6 (x y:TV):Bool:=match x with
 | .b x=>(match y with
  | .b y=>x.ln y
  | _=>false)
 | _=>false
def x3 (b:dd) (x y:TV):TV:=match B6 x y with
 | true=>x
 | false=>qZ b x y
def qN (s s':TS):List (Nat×TV)→List (List (Nat×TV)×List (Nat×TV))
 | []=>[]
 | p::r=>match B6 (s.get p.1) (s'.get p.1) with
  | true=>([(p.1,s.get p.1)],[(p.1,s'.get p.1)])::qN s s' r
  | false=>qN s s' r
inductive n4 where
 | bad
 | none
 | some (s:TS) (hy:List (List (Nat×TV)×List (Nat×TV)))
def jq {e cH:bk} (h:cH=e) (xs:List cH.T):List e.T:=h▸xs
def Az:(e:bk)→TV→e.T
 | .int,.i _ m=>m
 | .u64,.i _ m=>m
 | .bool,.b x=>x.den
 | .str,.s x=>x
 | .l e,.l cH xs _ _=>if h:cH=e then jq h xs else[]
 | e,_=>e.qK.default
def ms:(es:List bk)→List TV→cg es
 | [],_=>()
 | e::r,v::vs=>(Az e v,ms r vs)
 | e::r,[]=>(e.qK.default,ms r [])
def nI (c:List TV):wb:=bk.mk .fe (ms bk.fe.iL c)
def xV:TV→Bool
 | .eb _ _=>true
 | _=>false
def sY (s s':TS):List (Nat×TV)→Bool
 | []=>true
 | (k,_)::r=>match Nat.blt k 1000000 with
  | true=>sY s s' r
  | false=>match xV (s.get k)&&xV (s'.get k)&&Nat.ble 1000010 k with
   | true=>sY s s' r
   | false=>false
def VQ (b:dd) (x y:TV):TV:=match x with
 | .eb g c=>(match y with
  | .eb _ ci=> .eb g (hj false .fe (bif b.den then nI c else nI ci))
  | _=> .u)
 | _=> .u
def oB (b:dd) (k:Nat) (x y:TV):TV:=match Nat.blt k 1000000 with
 | true=>x3 b x y
 | false=>VQ b x y
def WT (x y:TV):List (List (Nat×TV)×List (Nat×TV)):=match x with
 | .eb g c=>(match y with
  | .eb cC ci=>[([(g,.agg c)],[(cC,.agg (hj false .fe (nI c)))]),([(0,.agg ci)],[(0,.agg (hj false .fe (nI ci)))])]
  | _=>[])
 | _=>[]
def ra (s s':TS):List (Nat×TV)→List (List (Nat×TV)×List (Nat×TV))
 | []=>[]
 | p::r=>match Nat.blt p.1 1000000 with
  | true=>ra s s' r
  | false=>WT (s.get p.1) (s'.get p.1)++ra s s' r
def w0:List (Nat×Nat)→List (Nat×Nat)→Bool
 | [],[]=>true
 | (a,b)::r,(c,d)::q=>Nat.beq a c&&Nat.beq b d&&w0 r q
 | _,_=>false
def n4.gK (b:dd) (dt:TS) (x y:n4):n4:=match x with
 | .bad=> .bad
 | .none=>(match y with
  | .bad=> .bad
  | .none=> .none
  | .some s q=> .some ⟨s.T++dt.T,dt.B,s.vs,s.aU⟩ ((s.B,dt.T++dt.B)::q))
 | .some s q=>(match y with
  | .bad=> .bad
  | .none=> .some ⟨s.T++dt.T,dt.B,s.vs,s.aU⟩ ((s.B,dt.T++dt.B)::q)
  | .some s' vn=>match sY s s' (s.T++s'.T)&&w0 s.vs s'.vs&&Nat.beq s.aU s'.aU with
   | true=> .some ⟨(s.T++s'.T).map (fun p=>(p.1,oB b p.1 (s.get p.1) (s'.get p.1)))++dt.T,dt.B,s.vs,s.aU⟩ ((s.B,dt.T++dt.B)::(s'.B,dt.T++dt.B)::(q++(vn++(qN s s' (s.T++s'.T)++ra s s' (s.T++s'.T)))))
   | false=> .bad)
def aD.ke:aD→n4
 | .iw ex s=>(match ex with
  | .normal=> .some s []
  | _=> .none)
 | .fY | .no=> .none
 | .p _ t | .hI _ t | .eq _ _ t=>t.ke
 | .gK b s x y=>n4.gK b s x.ke y.ke
 | .two _ _ | .all _ _=> .bad
 | .fS x _ _ y=>(match x.ke with
  | .none=>y.ke
  | _=> .bad)
def aD.iZ:aD→dd
 | .iw ex _=>(match ex with
  | .normal=> .t
  | _=> .f)
 | .fY | .no=> .f
 | .p _ t | .hI _ t | .eq _ _ t=>t.iZ
 | .gK b _ x y=>dd.qY b x.iZ y.iZ
 | .two _ _ | .all _ _=> .t
 | .fS _ _ b y=>(match b with
  | .t=>y.iZ
  | b=>dd.qY b y.iZ .f)
def aD.facts:aD→List Prop
 | .iw _ _ | .fY | .no | .two _ _ | .all _ _=>[]
 | .p _ t | .eq _ _ t=>t.facts
 | .hI φ t=>φ::t.facts
 | .gK _ _ x y=>(match x.iZ with
  | .f=>y.facts
  | _=>match y.iZ with
   | .f=>x.facts
   | _=>[])
 | .fS _ dl _ y=>dl++y.facts
def Ec (x y:TV):Prop:= ∃g c ci,x= .eb g c∧y= .eb g ci∧b9 ci=b9 c
structure TS.eZ (s S:TS):Prop where
 vs:S.vs=s.vs
 aU:S.aU=s.aU
 get: ∀k,S.get k=s.get k∨(k<1000000∧((S.get k).be=(s.get k).be∨(S.get k).be= .undef))∨(1000010≤k∧Ec (s.get k) (S.get k))
theorem TS.eZ.refl (s:TS):s.eZ s:=⟨rfl,rfl,fun _=> .inl rfl⟩
theorem TS.eZ.trans {a b c:TS} (h:a.eZ b) (k:b.eZ c):a.eZ c:=⟨k.vs.trans h.vs,k.aU.trans h.aU,fun t=>by
 rcases k.get t with e | ⟨aE,e⟩ | ⟨aE,e⟩
 ·rw[e];exact h.get t
 ·refine .inr (.inl ⟨aE,?_⟩)
  rcases e with e | e
  ·rcases h.get t with q | ⟨_,q⟩ | ⟨hb,_⟩
   ·rw[e,q];exact .inl rfl
   ·rw[e];exact q
   ·omega
  ·exact .inr e
 ·refine .inr (.inr ⟨aE,?_⟩)
  rcases h.get t with q | ⟨hb,_⟩ | ⟨_,q⟩
  ·rw[←q];exact e
  ·omega
  ·obtain⟨g,x,y,bi,e2,cE⟩:=e
   obtain⟨cC,y0,ZZ,f1,f2,f3⟩:=q
   rw[bi] at f2
   cases f2
   exact⟨g,y0,y,f1,e2,cE.trans f3⟩⟩
theorem VW {s s':TS} {l:List (Nat×TV)} (h:sY s s' l=true) {k:Nat} {v:TV} (hm:(k,v)∈l) (hk: ¬k<1000000):1000010≤k∧(∃g c,s.get k= .eb g c)∧ ∃g c,s'.get k= .eb g c:=by
 induction l with
 | nil=>cases hm
 | cons p r bx=>
  obtain⟨a,w⟩:=p
  unfold sY at h
  split at h
  ·rename_i aL
   rcases List.mem_cons.1 hm with e | hm
   ·cases e;exact absurd (by rw[←Nat.blt_eq];exact aL) hk
   ·exact bx h hm
  ·split at h
   ·rename_i hc
    rcases List.mem_cons.1 hm with e | hm
    ·cases e
     simp only[Bool.and_eq_true] at hc
     have KJ: ∀x:TV,xV x=true→ ∃g c,x= .eb g c:=fun x hx=>by
      unfold xV at hx
      split at hx
      ·exact⟨_,_,rfl⟩
      ·cases hx
     exact⟨Nat.le_of_ble_eq_true hc.2,KJ _ hc.1.1,KJ _ hc.1.2⟩
    ·exact bx h hm
   ·cases h
theorem KH {s s':TS}: ∀{l:List (Nat×TV)},(∀p∈ra s s' l,p.1=p.2)→ ∀k v,(k,v)∈l→ ¬k<1000000→ ∀(g:Nat) (c:List TV) (cC:Nat) (ci:List TV),s.get k= .eb g c→s'.get k= .eb cC ci→g=cC∧c=hj false .fe (nI c)∧ci=hj false .fe (nI ci)
 | [],_,k,v,h,_=>by cases h
 | p::r,ag,k,v,h,hk=>fun g c cC ci bi e2=>by
  unfold ra at ag
  rcases List.mem_cons.1 h with e | h
  ·cases e
   have hb:Nat.blt k 1000000=false:=by
    cases hb:Nat.blt k 1000000 with
    | true=>rw[Nat.blt_eq] at hb;exact absurd hb hk
    | false=>rfl
   simp only[hb,bi,e2] at ag
   have q1:=ag _ (List.mem_append_left _ (List.mem_cons_self ..))
   have q2:=ag _ (List.mem_append_left _ (List.mem_cons_of_mem _ (List.mem_cons_self ..)))
   injection q1 with J _
   injection q2 with a2 _
   have hg:=(Prod.mk.inj J)
   have b7:=(Prod.mk.inj a2)
   exact⟨hg.1,TV.agg.inj hg.2,TV.agg.inj b7.2⟩
  ·refine KH (fun q hm=>ag q ?_) k v h hk g c cC ci bi e2
   split
   ·exact hm
   ·exact List.mem_append_right _ hm
theorem E9: ∀{l m:List (Nat×Nat)},w0 l m=true→l=m
 | [],[],_=>rfl
 | [],_::_,h=>by cases h
 | _::_,[],h=>by cases h
 | (a,b)::r,(c,d)::q,h=>by
  simp only[w0,Bool.and_eq_true] at h
  rw[Nat.eq_of_beq_eq_true h.1.1,Nat.eq_of_beq_eq_true h.1.2,E9 h.2]
theorem Wi {b:dd} {x y:TV} (h:b.den=true):(qZ b x y).be=x.be∨(qZ b x y).be= .undef:=by
 unfold qZ
 split
 ·split
  ·split
   ·left;simp[TV.be,h]
   ·exact .inr rfl
  ·exact .inr rfl
 ·split
  ·left;simp[TV.be,dd.vf,h]
  ·exact .inr rfl
 ·split
  ·left;simp[TV.be,h]
  ·exact .inr rfl
 ·exact .inr rfl
theorem Wh {b:dd} {x y:TV} (h:b.den=false):(qZ b x y).be=y.be∨(qZ b x y).be= .undef:=by
 unfold qZ
 split
 ·split
  ·split
   ·rename_i e;left;subst e;simp[TV.be,h]
   ·exact .inr rfl
  ·exact .inr rfl
 ·split
  ·left;simp[TV.be,dd.vf,h]
  ·exact .inr rfl
 ·split
  ·left;simp[TV.be,h]
  ·exact .inr rfl
 ·exact .inr rfl
theorem WX {s dt:TS} (h:s.B=dt.T++dt.B) (vs:List (Nat×Nat)) (aU k:Nat):TS.get ⟨s.T++dt.T,dt.B,vs,aU⟩ k=s.get k:=by
 unfold TS.get
 simp only
 rw[h,qQ,qQ]
theorem Vw {l:List (Nat×TV)} {f:Nat→TV} {k:Nat} {d:TV}:((∃v,(k,v)∈l)∧fy (l.map fun p=>(p.1,f p.1)) k d=f k)∨((∀v,(k,v) ∉ l)∧fy (l.map fun p=>(p.1,f p.1)) k d=d):=by
 induction l with
 | nil=>exact .inr ⟨(fun v h=>by cases h),rfl⟩
 | cons p r bx=>
  obtain⟨a,w⟩:=p
  rw[List.map_cons,fH]
  by_cases e:a=k
  ·subst e;exact .inl ⟨⟨w,List.mem_cons_self ..⟩,if_pos rfl⟩
  ·rw[if_neg e]
   rcases bx with⟨⟨v,q⟩,h⟩ | ⟨q,h⟩
   ·exact .inl ⟨⟨v,List.mem_cons_of_mem _ q⟩,h⟩
   ·refine .inr ⟨fun v hv=> ?_,h⟩
    rcases List.mem_cons.1 hv with hv | hv
    ·cases hv;exact e rfl
    ·exact q v hv
theorem Jm {s s':TS}: ∀{l:List (Nat×TV)},(∀p∈qN s s' l,p.1=p.2)→ ∀k v,(k,v)∈l→B6 (s.get k) (s'.get k)=true→s.get k=s'.get k
 | [],_,k,v,h,_=>by cases h
 | p::r,ag,k,v,h,aE=>by
  unfold qN at ag
  rcases List.mem_cons.1 h with e | h
  ·cases e
   rw[aE] at ag
   have:=ag _ (List.mem_cons_self ..)
   injection this with bi _
   exact(Prod.mk.inj bi).2
  ·refine Jm (fun q hm=>ag q ?_) k v h aE
   split
   ·exact List.mem_cons_of_mem _ hm
   ·exact hm
theorem VI {b:dd} {dt s s':TS} (h1:s.B=dt.T++dt.B) (h2:s'.B=dt.T++dt.B) (cY:sY s s' (s.T++s'.T)=true) (hv:s.vs=s'.vs) (ap:s.aU=s'.aU) (ag: ∀p∈qN s s' (s.T++s'.T)++ra s s' (s.T++s'.T),p.1=p.2):
  let S:TS:=⟨(s.T++s'.T).map (fun p=>(p.1,oB b p.1 (s.get p.1) (s'.get p.1)))++dt.T,dt.B,s.vs,s.aU⟩
  (b.den=true→s.eZ S)∧(b.den=false→s'.eZ S):=by
 intro S
 have Ba: ∀p∈qN s s' (s.T++s'.T),p.1=p.2:=fun p ak=>ag p (List.mem_append_left _ ak)
 have jz: ∀p∈ra s s' (s.T++s'.T),p.1=p.2:=fun p ak=>ag p (List.mem_append_right _ ak)
 have fx: ∀k,((∃v,(k,v)∈s.T++s'.T)∧S.get k=oB b k (s.get k) (s'.get k))∨((∀v,(k,v) ∉ s.T++s'.T)∧S.get k=fy dt.T k (fy dt.B k .u)):=fun k=>by
  have e:S.get k=fy (List.map (fun p=>(p.1,(fun k=>oB b k (s.get k) (s'.get k)) p.1)) (s.T++s'.T)) k (fy dt.T k (fy dt.B k .u)):=by
   show fy (_++dt.T) k _=_
   rw[qQ]
  rw[e];exact Vw (f:=fun k=>oB b k (s.get k) (s'.get k))
 have base: ∀(x:TS),x.B=dt.T++dt.B→ ∀k,(∀v,(k,v) ∉ x.T)→x.get k=fy dt.T k (fy dt.B k .u):=fun x hx k hk=>by
  unfold TS.get;rw[px hk,hx,qQ]
 have Lr: ∀k,k<1000000→oB b k (s.get k) (s'.get k)=x3 b (s.get k) (s'.get k):=fun k hk=>by
  unfold oB;rw[show Nat.blt k 1000000=true by rw[Nat.blt_eq];exact hk]
 have Ex: ∀k v,(k,v)∈s.T++s'.T→ ¬k<1000000→1000010≤k∧ ∃g c ci,s.get k= .eb g c∧s'.get k= .eb g ci∧c=hj false .fe (nI c)∧ci=hj false .fe (nI ci)∧oB b k (s.get k) (s'.get k)= .eb g (hj false .fe (bif b.den then nI c else nI ci)):=fun k v hm hk=>by
  obtain⟨cj,⟨g,c,bi⟩,cC,ci,e2⟩:=VW cY hm hk
  obtain⟨dr,dT,fh⟩:=KH jz k v hm hk _ _ _ _ bi e2
  subst dr
  refine⟨cj,g,c,ci,bi,e2,dT,fh,?_⟩
  unfold oB
  have hb:Nat.blt k 1000000=false:=by
   cases hb:Nat.blt k 1000000 with
   | true=>rw[Nat.blt_eq] at hb;exact absurd hb hk
   | false=>rfl
  rw[hb,bi,e2];rfl
 refine⟨fun hb=>⟨rfl,rfl,fun k=> ?_⟩,fun hb=>⟨hv,ap,fun k=> ?_⟩⟩
 ·rcases fx k with⟨⟨v,q⟩,h⟩ | ⟨q,h⟩
  ·by_cases hk:k<1000000
   ·rw[h,Lr k hk];refine .inr (.inl ⟨hk,?_⟩)
    unfold x3
    split
    ·exact .inl rfl
    ·exact Wi hb
   ·obtain⟨cj,g,c,ci,bi,e2,dT,fh,cE⟩:=Ex k v q hk
    refine .inr (.inr ⟨cj,g,c,_,bi,h.trans cE,?_⟩)
    rw[hb];exact congrArg b9 dT.symm
  ·rw[h];exact .inl (base s h1 k fun v hv=>q v (List.mem_append_left _ hv)).symm
 ·rcases fx k with⟨⟨v,q⟩,h⟩ | ⟨q,h⟩
  ·by_cases hk:k<1000000
   ·rw[h,Lr k hk];refine .inr (.inl ⟨hk,?_⟩)
    unfold x3
    split
    ·rename_i aE;rw[Jm Ba k v q aE];exact .inl rfl
    ·exact Wh hb
   ·obtain⟨cj,g,c,ci,bi,e2,dT,fh,cE⟩:=Ex k v q hk
    refine .inr (.inr ⟨cj,g,ci,_,e2,h.trans cE,?_⟩)
    rw[hb];exact congrArg b9 fh.symm
  ·rw[h];exact .inl (base s' h2 k fun v hv=>q v (List.mem_append_right _ hv)).symm
theorem aD.Jx: ∀{t:aD} {R:Exit→TS→Prop},t.ke= .none→t.den R→t.den fun ex s=>R ex s∧ex≠ .normal:=by
 intro t
 induction t with
 | iw ex s=>
  intro R h d
  refine⟨d,?_⟩
  rintro rfl;cases h
 | fY=>intros;trivial
 | no=>intro R h d;exact d
 | p φ t bx=>intro R h d;exact⟨d.1,bx h d.2⟩
 | hI φ t bx=>intro R h d;exact fun q=>bx h (d q)
 | eq a b t bx=>intro R h d;exact⟨d.1,bx h d.2⟩
 | two x y gg fQ=>intro R h;cases h
 | all α f bx=>intro R h;cases h
 | fS x dl b y gg fQ=>
  intro R h d
  unfold aD.ke at h
  split at h
  ·rename_i hx;exact⟨gg hx d.1,fun q=>fQ h (d.2 q)⟩
  ·cases h
 | gK b s x y gg fQ=>
  intro R h d
  have h:n4.gK b s x.ke y.ke= .none:=h
  unfold n4.gK at h
  split at h
  ·cases h
  ·rename_i hx
   split at h
   ·cases h
   ·rename_i bm;exact⟨fun q=>gg hx (d.1 q),fun q=>fQ bm (d.2 q)⟩
   ·cases h
  ·split at h
   ·cases h
   ·cases h
   ·split at h<;>cases h
theorem aD.VL: ∀{t:aD} {R:Exit→TS→Prop} {S:TS} {hy:List (List (Nat×TV)×List (Nat×TV))},t.ke= .some S hy→(∀p∈hy,p.1=p.2)→t.den R→
  t.den fun ex s=>R ex s∧(ex= .normal→s.eZ S∧t.iZ.den=true∧ ∀φ∈t.facts,φ):=by
 intro t
 induction t with
 | iw ex s=>
  intro R S hy h ag d
  refine⟨d,?_⟩
  rintro rfl
  cases h
  exact⟨.refl s,rfl,fun φ h=>by cases h⟩
 | fY=>intros;trivial
 | no=>intro R S hy h ag d;exact d
 | p φ t bx=>intro R S hy h ag d;exact⟨d.1,bx h ag d.2⟩
 | hI φ t bx=>
  intro R S hy h ag d q
  refine aD.n7 (bx h ag (d q)) fun ex s hs=>⟨hs.1,fun e=>⟨(hs.2 e).1,(hs.2 e).2.1,fun ψ Bq=> ?_⟩⟩
  rcases List.mem_cons.1 Bq with rfl | Bq
  ·exact q
  ·exact(hs.2 e).2.2 ψ Bq
 | eq a b t bx=>intro R S hy h ag d;exact⟨d.1,bx h ag d.2⟩
 | two x y gg fQ=>intro R S hy h;cases h
 | all α f bx=>intro R S hy h;cases h
 | fS x dl b y gg fQ=>
  intro R S hy h ag d
  unfold aD.ke at h
  split at h
  ·rename_i hx
   refine⟨aD.n7 (aD.Jx hx d.1) fun ex s hs=>⟨hs.1,fun e=>absurd e hs.2⟩,fun q=>aD.n7 (fQ h ag (d.2 q)) fun ex s hs=>⟨hs.1,fun e=> ?_⟩⟩
   obtain⟨h1,h2,aJ⟩:=hs.2 e
   have ds: ∀(l:List Prop),nl l→ ∀φ∈l,φ:=by
    intro l
    induction l with
    | nil=>intro _ φ dB;cases dB
    | cons a r bx=>
     intro hc φ dB
     cases r with
     | nil=>rw[List.mem_singleton.1 dB];exact hc
     | cons gB yt=>
      have hc:a∧nl (gB::yt):=hc
      rcases List.mem_cons.1 dB with rfl | dB
      ·exact hc.1
      ·exact bx hc.2 φ dB
   have ds:=ds _ q
   refine⟨h1,?_,fun φ dB=> ?_⟩
   ·unfold aD.iZ
    split
    ·exact h2
    ·rename_i b2
     have hb:b.den=true:=ds _ (by
      unfold sg
      split
      ·exact absurd rfl b2
      ·simp)
     rw[dd.vf,hb,h2];rfl
   ·rcases List.mem_append.1 dB with dB | dB
    ·have hm: ∀b:dd,φ∈sg dl b:=fun b=>by
      unfold sg
      split
      ·exact dB
      ·exact List.mem_append_left _ dB
     exact ds φ (hm b)
    ·exact aJ φ dB
  ·cases h
 | gK b dt x y gg fQ=>
  intro R S hy h ag d
  have h:n4.gK b dt x.ke y.ke= .some S hy:=h
  have JJ: ∀{z:aD} {R:Exit→TS→Prop},z.ke= .none→z.den R→z.den fun ex s=>R ex s∧(ex= .normal→False):=fun aH O2=>aD.Jx aH O2
  have FL:b.den=true→x.iZ.den=true→(dd.qY b x.iZ y.iZ).den=true:=fun h1 h2=>by rw[dd.vf,h1,h2];rfl
  have FM:b.den=false→y.iZ.den=true→(dd.qY b x.iZ y.iZ).den=true:=fun h1 h2=>by rw[dd.vf,h1,h2];rfl
  have FW:x.iZ.den=true→(∀φ∈x.facts,φ)→ ∀φ∈(aD.gK b dt x y).facts,φ:=fun h1 h2 φ dB=>by
   unfold aD.facts at dB
   split at dB
   ·rename_i e;rw[e] at h1;cases h1
   ·split at dB
    ·exact h2 φ dB
    ·cases dB
  have FX:y.iZ.den=true→(∀φ∈y.facts,φ)→ ∀φ∈(aD.gK b dt x y).facts,φ:=fun h1 h2 φ dB=>by
   unfold aD.facts at dB
   split at dB
   ·exact h2 φ dB
   ·split at dB
    ·rename_i e;rw[e] at h1;cases h1
    ·cases dB
  have eb: ∀{s:TS},s.B=dt.T++dt.B→s.eZ ⟨s.T++dt.T,dt.B,s.vs,s.aU⟩:=fun cV=>⟨rfl,rfl,fun k=> .inl (WX cV _ _ k)⟩
  unfold n4.gK at h
  split at h
  ·cases h
  ·rename_i hx
   split at h
   ·cases h
   ·cases h
   ·rename_i s q bm
    cases h
    have cV:=ag _ (List.mem_cons_self ..)
    refine⟨fun hb=>aD.n7 (JJ hx (d.1 hb)) fun ex z aH=>⟨aH.1,fun e=>(aH.2 e).elim⟩,fun hb=>aD.n7 (fQ bm (fun p ak=>ag p (List.mem_cons_of_mem _ ak)) (d.2 hb)) fun ex z aH=>⟨aH.1,fun e=> ?_⟩⟩
    obtain⟨h1,h2,aJ⟩:=aH.2 e
    exact⟨h1.trans (eb cV),FM hb h2,FX h2 aJ⟩
  ·rename_i s q hx
   split at h
   ·cases h
   ·rename_i bm
    cases h
    have cV:=ag _ (List.mem_cons_self ..)
    refine⟨fun hb=>aD.n7 (gg hx (fun p ak=>ag p (List.mem_cons_of_mem _ ak)) (d.1 hb)) fun ex z aH=>⟨aH.1,fun e=> ?_⟩,fun hb=>aD.n7 (JJ bm (d.2 hb)) fun ex z aH=>⟨aH.1,fun e=>(aH.2 e).elim⟩⟩
    obtain⟨h1,h2,aJ⟩:=aH.2 e
    exact⟨h1.trans (eb cV),FL hb h2,FW h2 aJ⟩
   ·rename_i s' vn bm
    split at h
    ·rename_i hc
     cases h
     simp only[Bool.and_eq_true] at hc
     obtain⟨⟨c1,c3⟩,c4⟩:=hc
     have eN:=ag _ (List.mem_cons_self ..)
     have QM:=ag _ (List.mem_cons_of_mem _ (List.mem_cons_self ..))
     obtain⟨aY,bu⟩:=VI (b:=b) eN QM c1 (E9 c3) (Nat.eq_of_beq_eq_true c4) (fun p ak=>ag p (List.mem_cons_of_mem _ (List.mem_cons_of_mem _ (List.mem_append_right _ (List.mem_append_right _ ak)))))
     refine⟨fun hb=>aD.n7 (gg hx (fun p ak=>ag p (List.mem_cons_of_mem _ (List.mem_cons_of_mem _ (List.mem_append_left _ ak)))) (d.1 hb)) fun ex z aH=>⟨aH.1,fun e=> ?_⟩,
      fun hb=>aD.n7 (fQ bm (fun p ak=>ag p (List.mem_cons_of_mem _ (List.mem_cons_of_mem _ (List.mem_append_right _ (List.mem_append_left _ ak))))) (d.2 hb)) fun ex z aH=>⟨aH.1,fun e=> ?_⟩⟩
     ·obtain⟨h1,h2,aJ⟩:=aH.2 e
      exact⟨h1.trans (aY hb),FL hb h2,FW h2 aJ⟩
     ·obtain⟨h1,h2,aJ⟩:=aH.2 e
      exact⟨h1.trans (bu hb),FM hb h2,FX h2 aJ⟩
    ·cases h
def iy:List (Nat×Nat)→Nat→Option Nat
 | [],_=>none
 | (k,m)::r,t=>match Nat.beq k t with
  | true=>some m
  | false=>iy r t
section
variable [FZ] {n:Nat} {s:TS}
theorem vO (t:Nat):(s.aq n).T.getD t .undef=if t<n then(s.get t).be else .undef:=by
 show((List.range n).map fun t=>(s.get t).be).getD t .undef=_
 rw[List.getD_eq_getElem?_getD,List.getElem?_map]
 by_cases h:t<n
 ·rw[List.getElem?_range h,if_pos h];rfl
 ·rw[List.getElem?_eq_none (by simpa using h),if_neg h];rfl
theorem ry (v:Nat):dm (s.aq n).L v=(iy s.vs v).map fun m=>b9 (gb s v 0 m):=by
 show dm (s.vs.map fun p=>(p.1,b9 (gb s p.1 0 p.2))) v=_
 induction s.vs with
 | nil=>rfl
 | cons p r bx=>
  obtain⟨k,m⟩:=p
  rw[List.map_cons]
  unfold dm iy
  by_cases h:v=k
  ·subst h;simp
  ·have:Nat.beq k v=false:=by
    cases hb:Nat.beq k v with
    | true=>exact absurd (Nat.eq_of_beq_eq_true hb).symm h
    | false=>rfl
   simp only[h,if_false,this];exact bx
theorem m6 (b:Nat):s.eW[b]?=if b<s.aU then some (s.get (bB b)).dN else none:=by
 show((List.range s.aU).map fun b=>(s.get (bB b)).dN)[b]?=_
 rw[List.getElem?_map]
 by_cases h:b<s.aU
 ·rw[List.getElem?_range h,if_pos h];rfl
 ·rw[List.getElem?_eq_none (by simpa using h),if_neg h];rfl
theorem ko:s.eW.length=s.aU:=by show((List.range s.aU).map _).length=_;simp
theorem oR {b:Nat} (h:b<s.aU):(s.aq n).H[b]?=some (s.get (bB b)).dN:=by
 show(s.eW++fC s)[b]?=_
 rw[List.getElem?_append_left (by rw[ko];exact h),m6,if_pos h]
theorem yQ (h:gX s=true):(s.aq n).H.length=s.aU:=by
 show(s.eW++fC s).length=_
 unfold fC;rw[h];simp[ko]
end
def wS:Value→TV
 | .int k n=> .i k n
 | .bool b=> .b (match b with
  | true=> .t
  | false=> .f)
 | .string x=> .s x
 | .slice none 0 0=> .nil true true
 | .pointer none=> .o .eI
 | .nilIface=> .o .eU
 | _=> .u
theorem OO (v:Value):(wS v).be=lS v:=by
 unfold wS lS
 split
 ·rfl
 ·rename_i b;cases b<;>rfl
 ·rfl
 ·rfl
 ·rfl
 ·rfl
 ·rename_i h1 h2 aJ bj cP eg
  split
  ·exact absurd rfl (h1 _ _)
  ·exact absurd rfl (h2 _)
  ·exact absurd rfl (aJ _)
  ·exact absurd rfl bj
  ·exact absurd rfl cP
  ·exact absurd rfl eg
  ·rfl
def b0 (n:Nat) (s:TS):Operand→TV
 | .tmp t=>(match Nat.blt t n with
  | true=>s.get t
  | false=> .u)
 | .const v=>wS v
 | .func f=> .fn f []
 | .global _=> .u
theorem iN [FZ] (n:Nat) (s:TS):bL (s.aq n).T=fun x=>(b0 n s x).be:=by
 funext x
 cases x with
 | tmp t=>
  show(s.aq n).T.getD t .undef=_
  rw[vO]
  unfold b0
  by_cases h:t<n
  ·have hb:Nat.blt t n=true:=by rw[Nat.blt_eq];exact h
   simp only[if_pos h,hb]
  ·have hb:Nat.blt t n=false:=by
    cases hb:Nat.blt t n with
    | true=>rw[Nat.blt_eq] at hb;exact absurd hb h
    | false=>rfl
   simp only[if_neg h,hb];rfl
 | const v=>exact(OO v).symm
 | func f=>rfl
 | global g=>rfl
def FE (x:dd) (K:dd→aD):aD:=match x with
 | .t=>K .t
 | .f=>K .f
 | .v p=>K (.v p)
 | .at i p=>K (.at i p)
 | .n p=>K (.n p)
 | .bh p q=>K (.bh p q)
 | .or p q=>K (.or p q)
 | .ite p q r=>K (.ite p q r)
 | .se p q=>K (.se p q)
 | .ne p q=>K (.ne p q)
theorem Qa (x:dd) (K:dd→aD):FE x K=K x:=by cases x<;>rfl
def mr (v:TV) (K:TV→aD):aD:=match v with
 | .u=>K .u
 | .i k m=>K (.i k m)
 | .b x=>FE x fun x=>K (.b x)
 | .s x=>K (.s x)
 | .l e xs f r=>K (.l e xs f r)
 | .nil f r=>K (.nil f r)
 | .ref p g m f=>K (.ref p g m f)
 | .ptr p g j m c=>K (.ptr p g j m c)
 | .lp t c=>K (.lp t c)
 | .cD e x c=>K (.cD e x c)
 | .agg c=>K (.agg c)
 | .tup c=>K (.tup c)
 | .fn f c=>K (.fn f c)
 | .o a=>K (.o a)
 | .blk g e xs m h=>K (.blk g e xs m h)
 | .eb g c=>K (.eb g c)
 | .ia g m ids=>K (.ia g m ids)
 | .fp V ids n h=>K (.fp V ids n h)
 | .new id xs=>K (.new id xs)
 | .sl w ids m n=>K (.sl w ids m n)
 | .sj w ids m j=>K (.sj w ids m j)
 | .u9 id m n=>K (.u9 id m n)
theorem nr (v:TV) (K:TV→aD):mr v K=K v:=by
 cases v with
 | b x=>exact Qa x fun x=>K (.b x)
 | _=>rfl
def k6:(e:bk)→e.T→AV
 | .ptr e,x=> .cD (cb false e x) 0
 | .gr f .unit,_=> .fn f []
 | .gr f e,x=> .fn f [k6 e x]
 | e,x=>match e.isS with
  | true=> .agg (cb false e x)
  | false=>lT false e x
def k7:(es:List bk)→cg es→List AV
 | [],_=>[]
 | e::r,x=>k6 e x.1::k7 r x.2
def sc (e:bk) (x:e.T):AV:=match e.isS with
 | true=> .agg (cb true e x)
 | false=>lT true e x
def mn:(es:List bk)→cg es→List AV
 | [],_=>[]
 | e::r,x=>sc e x.1::mn r x.2
def o3:(es:List bk)→cg es→AV
 | [e],x=>sc e x.1
 | es,x=> .tup (mn es x)
def yw (e:bk) (x:e.T):TV:=match e.isS with
 | true=> .agg (hj true e x)
 | false=>vU true e x
def yx:(es:List bk)→cg es→List TV
 | [],_=>[]
 | e::r,x=>yw e x.1::yx r x.2
def yy:(es:List bk)→cg es→TV
 | [e],x=>yw e x.1
 | es,x=> .tup (yx es x)
theorem KR (e:bk) (x:e.T):(yw e x).be=sc e x:=by
 unfold yw sc
 cases e.isS with
 | true=>show AV.agg (b9 _)=_;rw[wL]
 | false=>exact DQ true e x
theorem KS: ∀(es:List bk) (x:cg es),b9 (yx es x)=mn es x
 | [],_=>rfl
 | e::r,x=>by rw[yx,b9,mn,KR,KS r]
theorem CP (es:List bk) (x:cg es):(yy es x).be=o3 es x:=by
 match es,x with
 | [],x=>rfl
 | [e],x=>exact KR e x.1
 | e::cH::r,x=>show AV.tup (b9 _)=_;rw[KS];rfl
structure cd (P:Program) where
 f:FuncId
 ps:List bk
 rs:List bk
 pre:Option (cg ps→Prop)
 fn:cg ps→cg rs
 ok: ∀x,(match pre with
  | none=>True
  | some p=>p x)→bf P f (k7 ps x) (o3 rs (fn x))
def Ot {e cH:bk} (h:cH=e) (x:cH.T):e.T:=h▸x
def wR (a7:IntKind) (v:TV) (K:Int→List Prop→aD):aD:=match v with
 | .i k n=>if k=a7 then K n [] else .no
 | _=> .no
def zK (v:TV) (K:Bool→List Prop→aD):aD:=match v with
 | .b x=>K x.den []
 | _=> .no
def zO (v:TV) (K:ByteArray→List Prop→aD):aD:=match v with
 | .s x=>K x []
 | _=> .no
def zJ (e:bk) (g n:Nat) (v:TV) (K:List e.T→List Prop→aD):aD:=match v with
 | .blk cC cH xs lq _=>if h:cH=e then .eq cC g (.eq lq n (K (jq h xs) [xs.length≤4611686018427387904])) else .no
 | _=> .no
def zP (s:TS) (e:bk) (g n:Nat) (v:TV) (K:List e.T→List Prop→aD):aD:=match v with
 | .ia cC m ids=>(match s.get cM with
  | .fp V cB bC _=>if h:bk.held=e then .eq cB ids (.eq cC 0 (.eq g 0 (.eq n bC (.eq m s.aU (K (jq h V) [V.length≤4611686018427387904]))))) else .no
  | _=> .no)
 | v=>zJ e g n v K
def zM (s:TS) (e:bk) (v:TV) (K:List e.T→List Prop→aD):aD:=match v with
 | .l cH xs _ _=>if h:cH=e then K (jq h xs) [] else .no
 | .nil _ _=>K [] []
 | .ref b g n _=>(match Nat.blt b s.aU with
  | true=>zP s e g n (s.get (bB b)) K
  | false=> .no)
 | _=> .no
def k2 (s:TS):(e:bk)→TV→(e.T→List Prop→aD)→aD
 | .int,v,K=>wR .i64 v K
 | .u64,v,K=>wR .u64 v K
 | .bool,v,K=>zK v K
 | .str,v,K=>zO v K
 | .l e,v,K=>zM s e v K
 | _,_,_=> .no
def t_ (s:TS):(es:List bk)→List TV→(cg es→List Prop→aD)→aD
 | [],[],K=>K () []
 | e::r,v::vs,K=>k2 s e v fun x o=>t_ s r vs fun y jQ=>K (x,y) (o++jQ)
 | _,_,_=> .no
def k3 (s:TS) (e:bk) (v:TV) (K:e.T→List Prop→aD):aD:=match e.isS with
 | true=>(match v with
  | .agg c=>t_ s e.iL c fun x o=>K (e.mk x) o
  | _=> .no)
 | false=>k2 s e v K
def zN (s:TS) (e:bk) (v:TV) (K:e.T→List Prop→aD):aD:=match v with
 | .lp t c=>(match Nat.beq c 0 with
  | true=>(match iy s.vs t with
   | some m=>t_ s e.iL (gb s t 0 m) fun x o=>K (e.mk x) o
   | none=> .no)
  | false=> .no)
 | .cD cH x c=>(match Nat.beq c 0 with
  | true=>if h:cH=e then K (Ot h x) [] else .no
  | false=> .no)
 | _=> .no
def zL (f:Nat) (v:TV) (K:Unit→List Prop→aD):aD:=match v with
 | .fn g c=>(match Nat.beq f g with
  | true=>(match c with
   | []=>K () []
   | _=> .no)
  | false=> .no)
 | _=> .no
def wQ (f:Nat) (v:TV) (K:TV→aD):aD:=match v with
 | .fn g c=>(match Nat.beq f g with
  | true=>(match c with
   | [w]=>K w
   | _=> .no)
  | false=> .no)
 | _=> .no
def conv (s:TS):(e:bk)→TV→(e.T→List Prop→aD)→aD
 | .ptr e,v,K=>zN s e v K
 | .gr f .unit,v,K=>zL f v K
 | .gr f e,v,K=>wQ f v fun w=>match e.isS with
  | true=> .no
  | false=>conv s e w K
 | .bJ,v,K=>k3 s .bJ v K
 | .ee,v,K=>k3 s .ee v K
 | .c7,v,K=>k3 s .c7 v K
 | .k8,v,K=>k3 s .k8 v K
 | .dS,v,K=>k3 s .dS v K
 | .held,v,K=>k3 s .held v K
 | .frame,v,K=>k3 s .frame v K
 | .done,v,K=>k3 s .done v K
 | .fault,v,K=>k3 s .fault v K
 | .stays,v,K=>k3 s .stays v K
 | .fe,v,K=>k3 s .fe v K
 | .int,v,K=>k2 s .int v K
 | .u64,v,K=>k2 s .u64 v K
 | .u8,v,K=>k2 s .u8 v K
 | .bool,v,K=>k2 s .bool v K
 | .str,v,K=>k2 s .str v K
 | .unit,v,K=>k2 s .unit v K
 | .nat,v,K=>k2 s .nat v K
 | .l e,v,K=>k2 s (.l e) v K
def zD (s:TS):(es:List bk)→List TV→(cg es→List Prop→aD)→aD
 | [],[],K=>K () []
 | e::r,v::vs,K=>conv s e v fun x o=>zD s r vs fun y jQ=>K (x,y) (o++jQ)
 | _,_,_=> .no
section
variable {n:Nat} {s:TS} {R:Exit→TS→Prop}
theorem Ow {L:List (Nat×List AV)} {H:List Blk} (e:bk) (x:e.T):lI L H (cb true e x) (cb false e x):=by
 rw[←nn,←nn]
 have key: ∀(es:List bk) (y:cg es),lI L H (jt true es y) (jt false es y):=by
  intro es
  induction es with
  | nil=>intro y;exact .nil
  | cons e r bx=>
   intro y
   refine .cons ?_ (bx y.2)
   cases e<;>first | exact .int _ _ | exact .bool _ | exact .str _ | exact fi | exact .undef _
 exact key _ _
end
section
variable {n:Nat} {s:TS} {R:Exit→TS→Prop}
theorem EY {k:IntKind} {v:TV} {K:Int→List Prop→aD} (h:(wR k v K).den R): ∃m,v= .i k m∧(K m []).den R:=by
 unfold wR at h
 split at h
 ·split at h
  ·rename_i e;subst e;exact⟨_,rfl,h⟩
  ·exact h.elim
 ·exact h.elim
end
section
variable {n:Nat} {s:TS} {R:Exit→TS→Prop}
theorem OI {v:TV} {K:Bool→List Prop→aD} (h:(zK v K).den R): ∃x,v= .b x∧(K x.den []).den R:=by
 unfold zK at h
 split at h
 ·exact⟨_,rfl,h⟩
 ·exact h.elim
end
section
variable {n:Nat} {s:TS} {R:Exit→TS→Prop}
theorem ON {v:TV} {K:ByteArray→List Prop→aD} (h:(zO v K).den R): ∃x,v= .s x∧(K x []).den R:=by
 unfold zO at h
 split at h
 ·exact⟨_,rfl,h⟩
 ·exact h.elim
end
section
variable {n:Nat} {s:TS} {R:Exit→TS→Prop}
theorem OH {e:bk} {g m:Nat} {v:TV} {K:List e.T→List Prop→aD} (h:(zJ e g m v K).den R): ∃xs,∃hx:xs.length=m,v= .blk g e xs m hx∧(K xs [xs.length≤4611686018427387904]).den R:=by
 unfold zJ at h
 split at h
 ·rename_i cC cH xs lq hx
  split at h
  ·rename_i bH
   subst bH
   obtain⟨h1,h2,h⟩:=h
   subst h1;subst h2
   exact⟨xs,hx,rfl,h⟩
  ·exact h.elim
 ·exact h.elim
end
section
variable {n:Nat} {s:TS} {R:Exit→TS→Prop}
theorem Yk {L:List (Nat×List AV)} {H:List Blk} {a b:AV} (h:dE L H a b) (hb: ∀l,b≠ .agg l):eE L H a b:=by
 rcases h with⟨l,l',_,e,_⟩ | h
 ·exact absurd e (hb l')
 ·exact h
end
section
variable {n:Nat} {s:TS} {R:Exit→TS→Prop}
theorem O7 (fr:Bool) (e:bk) (x:e.T): ∀l,lT fr e x≠ .agg l:=by
 intro l h;cases e<;>cases h
end
section
variable {n:Nat} {s:TS} {R:Exit→TS→Prop}
theorem OJ {f:Nat} {v:TV} {K:Unit→List Prop→aD} (h:(zL f v K).den R):v= .fn f []∧(K () []).den R:=by
 unfold zL at h
 split at h
 ·split at h
  ·rename_i hf
   obtain rfl:=Nat.eq_of_beq_eq_true hf
   split at h
   ·exact⟨rfl,h⟩
   ·exact h.elim
  ·exact h.elim
 ·exact h.elim
end
section
variable {n:Nat} {s:TS} {R:Exit→TS→Prop}
theorem OK {f:Nat} {v:TV} {K:TV→aD} (h:(wQ f v K).den R): ∃w,v= .fn f [w]∧(K w).den R:=by
 unfold wQ at h
 split at h
 ·split at h
  ·rename_i hf
   obtain rfl:=Nat.eq_of_beq_eq_true hf
   split at h
   ·exact⟨_,rfl,h⟩
   ·exact h.elim
  ·exact h.elim
 ·exact h.elim
end
section
variable {n:Nat} {s:TS} {R:Exit→TS→Prop}
theorem Pa {e:bk} (h:e.isS=false) (x:e.T): ∀l,k6 e x≠ .agg l:=by
 intro l
 cases e with
 | gr f e=>cases e<;>(intro h;cases h)
 | ptr e=>intro h;cases h
 | _=>first | (cases h;done) | exact O7 false _ x l
end
section
variable [FZ] {n:Nat} {s:TS} {R:Exit→TS→Prop}
theorem n8 {V:List ab} {ids:List Nat} {bC:Nat} {hv:V.length=bC} (hk:s.get cM= .fp V ids bC hv):(s.aq n).H=s.eW++List.map bz ‹FZ›.bs:=by
 show s.eW++fC s=_
 unfold fC gX
 rw[hk]
theorem Fm {V:List ab} {ids:List Nat} {bC:Nat} {hv:V.length=bC} (hk:s.get cM= .fp V ids bC hv) {id:Nat} {k:Blk} (h:(List.map bz ‹FZ›.bs)[id]?=some k):(s.aq n).H[id+s.aU]?=some k:=by
 rw[n8 hk,List.getElem?_append_right (by rw[ko];omega),ko,Nat.add_sub_cancel];exact h
variable (aH:Fits s)
include aH in
theorem OP {e:bk} {b g m:Nat} {cS:Bool} {K:List e.T→List Prop→aD} (hb:b<s.aU) (h:(zP s e g m (s.get (bB b)) K).den R): ∃x o,(K x o).den R∧((∀φ∈o,φ)→eE (s.aq n).L (s.aq n).H (.ref b g 0 m cS) (.a8 (List.map (cb false e) x) false false)):=by
 unfold zP at h
 split at h
 ·rename_i cC fU ids aI
  split at h
  ·rename_i V cB bC ir hk
   split at h
   ·rename_i he
    subst he
    obtain⟨h1,h2,aJ,bj,cP,h⟩:=h
    subst h1;subst h2;subst aJ;subst bj;subst cP;subst ir
    refine⟨_,_,h,fun aB=> ?_⟩
    have aE:=aB _ (List.mem_singleton.2 rfl)
    obtain⟨q1,q2,q3⟩:=aH V cB _ _ hk
    have mF:V.length= ‹FZ›.ws.length:=by rw[←q2];exact h9 q1.ok
    have:=yD (L:=(s.aq n).L) (H:=(s.aq n).H) (b:=b) (s:=s.aU) (n:=V.length) (full:=cS) (ws:= ‹FZ›.ws) (ids:=cB) (bs:= ‹FZ›.bs) mF (by rw[oR hb,aI];rfl) (fun id k hG=>Fm hk hG) q1.ok (by omega) (fun x hx=>by have:=q1.len x hx;omega)
    rw[q2] at this
    exact this
   ·exact h.elim
  ·exact h.elim
 ·obtain⟨xs,hx,aI,h'⟩:=OH h
  subst hx
  refine⟨_,_,h',fun aB=> ?_⟩
  have aE:=aB _ (List.mem_singleton.2 rfl)
  exact K3 (eT:=cb true e) (by rw[oR hb,aI];rfl) (fun x=>Ow e x) aE
include aH in
theorem OL {e:bk} {v:TV} {K:List e.T→List Prop→aD} (h:(zM s e v K).den R): ∃x o,(K x o).den R∧((∀φ∈o,φ)→eE (s.aq n).L (s.aq n).H v.be (.a8 (List.map (cb false e) x) false false)):=by
 unfold zM at h
 split at h
 ·split at h
  ·rename_i bH;subst bH;exact⟨_,_,h,fun _=>fi⟩
  ·exact h.elim
 ·exact⟨_,_,h,fun _=>by rw[List.map_nil];exact fi⟩
 ·rename_i b g eS cS
  split at h
  ·rename_i hb
   exact OP aH (by rw[←Nat.blt_eq];exact hb) h
  ·exact h.elim
 ·exact h.elim
include aH in
theorem zC {e:bk} {v:TV} {K:e.T→List Prop→aD} (h:(k2 s e v K).den R): ∃x o,(K x o).den R∧((∀φ∈o,φ)→eE (s.aq n).L (s.aq n).H v.be (lT false e x)):=by
 cases e with
 | int=>obtain⟨m,rfl,h⟩:=EY h;exact⟨m,_,h,fun _=> .int _ _⟩
 | u64=>obtain⟨m,rfl,h⟩:=EY h;exact⟨m,_,h,fun _=> .int _ _⟩
 | bool=>obtain⟨x,rfl,h⟩:=OI h;exact⟨_,_,h,fun _=> .bool _⟩
 | str=>obtain⟨x,rfl,h⟩:=ON h;exact⟨_,_,h,fun _=> .str _⟩
 | l e=>exact OL aH h
 | _=>exact h.elim
include aH in
theorem wO: ∀{es:List bk} {vs:List TV} {K:cg es→List Prop→aD},(t_ s es vs K).den R→ ∃x o,(K x o).den R∧((∀φ∈o,φ)→aK (eE (s.aq n).L (s.aq n).H) (b9 vs) (jt false es x))
 | [],[],K,h=>⟨(),[],h,fun _=>aK.nil⟩
 | e::r,v::vs,K,h=>by
  obtain⟨x,o,h,cY⟩:=zC aH (n:=n) (show(k2 s e v _).den R from h)
  obtain⟨y,jQ,h,fT⟩:=wO h
  exact⟨(x,y),o++jQ,h,fun aB=>aK.cons (cY fun φ dB=>aB φ (List.mem_append_left _ dB)) (fT fun φ dB=>aB φ (List.mem_append_right _ dB))⟩
 | [],_::_,K,h=>h.elim
 | _::_,[],K,h=>h.elim
include aH in
theorem OE {e:bk} {v:TV} {K:e.T→List Prop→aD} (h:(k3 s e v K).den R): ∃x o,(K x o).den R∧((∀φ∈o,φ)→dE (s.aq n).L (s.aq n).H v.be (match e.isS with
  | true=> .agg (cb false e x)
  | false=>lT false e x)):=by
 unfold k3 at h
 cases lf:e.isS with
 | true=>
  rw[lf] at h
  simp only at h
  split at h
  ·rename_i c
   obtain⟨x,o,h,k⟩:=wO aH (n:=n) h
   refine⟨_,o,h,fun aB=> ?_⟩
   show dE _ _ (.agg (b9 c)) (.agg (cb false e (e.mk x)))
   rw[←nn,bk.MM]
   exact dE.agg (k aB)
  ·exact h.elim
 | false=>
  rw[lf] at h
  obtain⟨x,o,h,k⟩:=zC aH (n:=n) (show(k2 s e v K).den R from h)
  exact⟨x,o,h,fun aB=> .inr (k aB)⟩
include aH in
theorem OM {e:bk} {v:TV} {K:e.T→List Prop→aD} (h:(zN s e v K).den R): ∃x o,(K x o).den R∧((∀φ∈o,φ)→dE (s.aq n).L (s.aq n).H v.be (.cD (cb false e x) 0)):=by
 unfold zN at h
 split at h
 ·rename_i t c
  split at h
  ·rename_i hc
   obtain rfl:=Nat.eq_of_beq_eq_true hc
   split at h
   ·rename_i m hm
    obtain⟨x,o,h,k⟩:=wO aH (n:=n) h
    refine⟨_,o,h,fun aB=> .inr ?_⟩
    have k:=k aB
    show eE _ _ (.dZ t 0) (.cD (cb false e (e.mk x)) 0)
    rw[←nn,bk.MM]
    exact .dZ (cells:=b9 (gb s t 0 m)) (by rw[ry,hm];rfl) k.1 k.2
   ·exact h.elim
  ·exact h.elim
 ·rename_i cH x c
  split at h
  ·rename_i hc
   obtain rfl:=Nat.eq_of_beq_eq_true hc
   split at h
   ·rename_i bH;subst bH;exact⟨_,_,h,fun _=> .inr (.cD _ _)⟩
   ·exact h.elim
  ·exact h.elim
 ·exact h.elim
include aH in
theorem zE: ∀{e:bk} {v:TV} {K:e.T→List Prop→aD},(conv s e v K).den R→ ∃x o,(K x o).den R∧((∀φ∈o,φ)→dE (s.aq n).L (s.aq n).H v.be (k6 e x)):=by
 intro e
 induction e with
 | ptr e bx=>intro v K h;exact OM aH h
 | gr f e bx=>
  intro v K h
  have key:(∀x,k6 (.gr f e) x= .fn f [k6 e x])→(wQ f v fun w=>match e.isS with
   | true=> .no
   | false=>conv s e w K).den R→ ∃x o,(K x o).den R∧((∀φ∈o,φ)→dE (s.aq n).L (s.aq n).H v.be (k6 (.gr f e) x)):=by
   intro he h
   obtain⟨w,rfl,h'⟩:=OK h
   cases lf:e.isS with
   | true=>rw[lf] at h';exact h'.elim
   | false=>
    rw[lf] at h'
    obtain⟨x,o,h2,k⟩:=bx h'
    refine⟨x,o,h2,fun aB=> .inr ?_⟩
    rw[he]
    refine eE.fn (caps:=[w.be]) rfl fun j a b h1 h2=> ?_
    cases j with
    | zero=>cases h1;cases h2;exact Yk (k aB) (Pa lf x)
    | succ j=>cases h1
  cases e with
  | unit=>
   obtain⟨rfl,h'⟩:=OJ h
   exact⟨(),[],h',fun _=> .inr (eE.fn (caps:=[]) rfl fun j a b h1 _=>by cases h1)⟩
  | _=>exact key (fun x=>rfl) h
 | _=>
  intro v K h
  first
  | exact OE aH (n:=n) h
  | (obtain⟨x,o,h,k⟩:=zC aH (n:=n) h;exact⟨x,o,h,fun aB=> .inr (k aB)⟩)
include aH in
theorem ES: ∀{es:List bk} {vs:List TV} {K:cg es→List Prop→aD},(zD s es vs K).den R→ ∃x o,(K x o).den R∧((∀φ∈o,φ)→aK (dE (s.aq n).L (s.aq n).H) (b9 vs) (k7 es x))
 | [],[],K,h=>⟨(),[],h,fun _=>aK.nil⟩
 | e::r,v::vs,K,h=>by
  obtain⟨x,o,h,cY⟩:=zE aH (n:=n) (show(conv s e v _).den R from h)
  obtain⟨y,jQ,h,fT⟩:=ES h
  exact⟨(x,y),o++jQ,h,fun aB=>aK.cons (cY fun φ dB=>aB φ (List.mem_append_left _ dB)) (fT fun φ dB=>aB φ (List.mem_append_right _ dB))⟩
 | [],_::_,K,h=>h.elim
 | _::_,[],K,h=>h.elim
end
def yb (l:List Prop) (t:aD):aD:=match l with
 | []=>t
 | l=> .p (nl l) t
theorem ER: ∀{l:List Prop},nl l→ ∀φ∈l,φ
 | [],_,φ,h=>by cases h
 | [a],hc,φ,h=>by rw[List.mem_singleton.1 h];exact hc
 | a::b::r,hc,φ,h=>by
  have hc:a∧nl (b::r):=hc
  rcases List.mem_cons.1 h with rfl | h
  ·exact hc.1
  ·exact ER hc.2 φ h
theorem JX {l:List Prop} {t:aD} {R:Exit→TS→Prop} (h:(yb l t).den R):(∀φ∈l,φ)∧t.den R:=by
 unfold yb at h
 split at h
 ·exact⟨(fun φ h=>by cases h),h⟩
 ·exact⟨ER h.1,h.2⟩
def xc {P:Program}:List (cd P)→FuncId→(cd P→aD)→aD
 | [],_,_=> .no
 | c::r,f,K=>match Nat.beq c.f f with
  | true=>K c
  | false=>xc r f K
def sX:TV→Bool
 | .tup _=>false
 | .o a=>dC a
 | _=>true
theorem x8 {v:TV} (h:sX v=true):dC v.be=true:=by cases v<;>first | rfl | exact h | cases h
def Cy {P:Program} (c:cd P) (x:cg c.ps):List Prop:=match c.pre with
 | none=>[]
 | some p=>[p x]
def zt {P:Program} (m7:List (cd P)) (f:FuncId) (args:List TV) (s:TS) (K:TV→aD):aD:=match args.all sX with
 | false=> .no
 | true=>xc m7 f fun c=>zD s c.ps args fun x o=>yb (o++Cy c x) (K (yy c.rs (c.fn x)))
theorem Fx {P:Program} {f:FuncId} {K:cd P→aD} {R:Exit→TS→Prop}: ∀{m7:List (cd P)},(xc m7 f K).den R→ ∃c,c.f=f∧(K c).den R
 | [],h=>h.elim
 | c::r,h=>by
  unfold xc at h
  split at h
  ·rename_i hf;exact⟨c,Nat.eq_of_beq_eq_true hf,h⟩
  ·exact Fx h
theorem Oo [FZ] {P:Program} {m7:List (cd P)} {f:FuncId} {args:List TV} {s:TS} {K:TV→aD} {R:Exit→TS→Prop} {n:Nat} {Kp:AV→Prop} (aH:Fits s) (hK: ∀v,(K v).den R→Kp v.be) (h:(zt m7 f args s K).den R):
  lQ P f (b9 args) (s.aq n).L (s.aq n).H Kp:=by
 unfold zt at h
 split at h
 ·exact h.elim
 ·rename_i ap
  obtain⟨c,rfl,h1⟩:=Fx h
  obtain⟨x,o,h2,k⟩:=ES aH (n:=n) h1
  obtain⟨aB,aJ⟩:=JX h2
  refine⟨?_,_,_,k fun φ dB=>aB φ (List.mem_append_left _ dB),c.ok x ?_,?_⟩
  ·rw[List.all_eq_true] at ap ⊢
   intro a aL
   rw[k0] at aL
   obtain⟨v,hv,rfl⟩:=List.mem_map.1 aL
   exact x8 (ap v hv)
  ·have ak: ∀φ∈Cy c x,φ:=fun φ dB=>aB φ (List.mem_append_right _ dB)
   unfold Cy at ak
   revert ak
   cases c.pre with
   | none=>intro _;trivial
   | some p=>intro ak;exact ak _ (List.mem_singleton.2 rfl)
  ·rw[←CP];exact hK _ aJ
inductive wh:Type 1 where
 | no
 | v (x:TV)
 | c (φ:Prop) (x:TV)
 | c2 (φ ψ:Prop) (x:TV)
def oa (F:List Blk→(AV→Prop)→Prop) (K:TV→aD):wh→aD
 | .no=> .no
 | .v x=> .eq F (fun _ Q=>Q x.be) (mr x K)
 | .c φ x=> .eq F (fun _ Q=>φ∧Q x.be) (.p φ (mr x K))
 | .c2 φ ψ x=> .eq F (fun _ Q=>φ∧ψ∧Q x.be) (.p (φ∧ψ) (mr x K))
theorem pa {F:List Blk→(AV→Prop)→Prop} (H:List Blk) {K:TV→aD} {g:wh} {R:Exit→TS→Prop} {Kp:AV→Prop} (hK: ∀v,(K v).den R→Kp v.be) (h:(oa F K g).den R):F H Kp:=by
 cases g with
 | no=>exact h.elim
 | v x=>obtain⟨e,h⟩:=h;rw[nr] at h;rw[e];exact hK _ h
 | c φ x=>obtain⟨e,h1,h⟩:=h;rw[nr] at h;rw[e];exact⟨h1,hK _ h⟩
 | c2 φ ψ x=>obtain⟨e,h1,h⟩:=h;rw[nr] at h;rw[e];exact⟨h1.1,h1.2,hK _ h⟩
def nk:TV→List TV
 | .agg c=>c
 | v=>[v]
def rC (P:Program) (t:TypeId) (cells:List TV) (c:Nat):TV:=match sL P t with
 | true=> .agg ((cells.drop c).take (P.cellsOf t))
 | false=>cells.getD c .u
def Qp (op:BinOp) (x y:TV):wh:=match x with
 | .i k a=>(match y with
  | .i _ b=>(match op with
   | .add=> .v (.i k (k.wrap (a+b)))
   | .sub=> .v (.i k (k.wrap (a - b)))
   | .mul=> .v (.i k (k.wrap (a*b)))
   | .quo=> .c (b≠0) (.i k (k.wrap (a.tdiv b)))
   | .rem=> .c (b≠0) (.i k (a.tmod b))
   | .and=> .v (.i k (k.wrap (BitVec.ofInt k.bits a&&&BitVec.ofInt k.bits b).toNat))
   | .shl=> .c (0≤b) (.i k (k.wrap (a*2 ^ (min b.toNat k.bits))))
   | .shr=> .c (0≤b) (.i k (a.fdiv (2 ^ (min b.toNat k.bits))))
   | .eql=> .v (.b (.v (a==b)))
   | .neq=> .v (.b (.v (a !=b)))
   | .lss=> .v (.b (.v (decide (a<b))))
   | .leq=> .v (.b (.v (decide (a≤b))))
   | .gtr=> .v (.b (.v (decide (a>b))))
   | .geq=> .v (.b (.v (decide (a ≥ b))))
   | _=> .no)
  | _=> .no)
 | .b p=>(match y with
  | .b q=>(match op with
   | .eql=> .v (.b (.se p q))
   | .neq=> .v (.b (.ne p q))
   | _=> .no)
  | _=> .no)
 | .s p=>(match y with
  | .s q=>(match op with
   | .add=> .c (p.size+q.size≤9223372036854775807) (.s (p++q))
   | .eql=> .v (.b (.v (p.toList==q.toList)))
   | .neq=> .v (.b (.v (!(p.toList==q.toList))))
   | _=> .no)
  | _=> .no)
 | .agg l=>(match y with
  | .agg m=>(match l,m with
   | [.i _ a,.i _ b],[.i _ c,.i _ d]=>(match op with
    | .eql=> .v (.b (.v (a==c&&b==d)))
    | .neq=> .v (.b (.v (!(a==c&&b==d))))
    | _=> .no)
   | _,_=> .no)
  | _=> .no)
 | _=> .no
def v_ (P:Program) (t:TypeId):List TV:=match(P.info? t).bind (·.zero) with
 | some z=>z.cells.toList.map wS
 | none=>[]
def Fp (pl:List (Nat×Nat)) (cells:List TV):List (Nat×TV)→List TV
 | []=>cells
 | (i,v)::r=>match pl[i]? with
  | some p=>Fp pl (cells.take p.1++nk v++cells.drop (p.1+(nk v).length)) r
  | none=>cells
def Qi (e:bk) (v:TV):e.T:=match e.isS with
 | true=>e.mk (ms e.iL (nk v))
 | false=>Az e v
def Qc:TV→Bool
 | .l _ _ _ fr=>fr
 | .nil _ fr=>fr
 | .agg c=>c.all fun v=>match v with
  | .l _ _ _ fr=>fr
  | .nil _ fr=>fr
  | _=>true
 | _=>true
def Jo (e:bk) (xs:List e.T) (l:List TV):TV:=match l with
 | []=> .nil true true
 | l=> .l e xs true (l.all Qc)
def xY (s:TS) (e:bk):List TV→(List e.T→aD)→aD
 | [],K=>K []
 | v::r,K=>conv s e v fun x _=>xY s e r fun xs=>K (x::xs)
theorem B8 [FZ] {n:Nat} {s:TS} {e:bk} {R:Exit→TS→Prop} (aH:Fits s): ∀{l:List TV} {K:List e.T→aD},(xY s e l K).den R→ ∃xs,(K xs).den R
 | [],K,h=>⟨_,h⟩
 | v::r,K,h=>by
  obtain⟨x,o,h,_⟩:=zE aH (n:=n) (show(conv s e v _).den R from h)
  obtain⟨xs,h⟩:=B8 (n:=n) aH h
  exact⟨_,h⟩
def sQ:List (Nat×bk)→Nat→(bk→aD)→aD
 | [],_,_=> .no
 | (k,e)::r,t,K=>match Nat.beq k t with
  | true=>K e
  | false=>sQ r t K
structure fO (P:Program) where
 n:Nat
 z7:List (Nat×bk)
 m7:List (cd P)
section
variable {P:Program} (cf:fO P) (s:TS)
def gs (P:Program) (n:Nat) (s:TS) (op:Op):wh:=match op with
 | .nilCheck x=> .v (b0 n s x)
 | .load t a=>(match b0 n s a with
  | .lp v c=>(match iy s.vs v with
   | some m=> .v (rC P t (gb s v 0 m) c)
   | none=> .no)
  | .cD e x c=> .v (rC P t (hj false e x) c)
  | _=> .no)
 | .fieldAddr t x f=>(match w6 P t f with
  | some fd=>(match b0 n s x with
   | .lp v c=> .v (.lp v (c+fd.offset))
   | .cD e x c=> .v (.cD e x (c+fd.offset))
   | .ptr b g i m c=> .v (.ptr b g i m (c+fd.offset))
   | _=> .no)
  | none=> .no)
 | .unOp op _ x=>(match b0 n s x with
  | .b z=>(match op with
   | .not=> .v (.b z.not)
   | _=> .no)
  | .i k m=>(match op with
   | .neg=> .v (.i k (k.wrap (0 - m)))
   | _=> .no)
  | _=> .no)
 | .convert _ d x=>(match b0 n s x with
  | .i _ m=>(match sK P d with
   | some k=> .v (.i k (k.wrap m))
   | none=> .no)
  | _=> .no)
 | .binOp op _ x y _=>Qp op (b0 n s x) (b0 n s y)
 | .build t ps=>(match Ct P t with
  | some pl=> .v (.agg (Fp pl (v_ P t) (ps.toList.map fun p=>(p.1,b0 n s p.2))))
  | none=> .no)
 | .index _ x i=>(match b0 n s x with
  | .s z=>(match b0 n s i with
   | .i _ m=> .c2 (0≤m) (m<z.size) (.i .u8 (z.data.getD m.toNat 0).toNat)
   | _=> .no)
  | _=> .no)
 | .extract x i=>(match b0 n s x with
  | .tup l=> .v (l.getD i .u)
  | _=> .no)
 | .makeFunc fn _ caps=>(match fn with
  | .func f=> .v (.fn f (caps.toList.map (b0 n s)))
  | _=> .no)
 | _=> .no
def pt (P:Program) (t:TypeId):Option Nat:=match gU P t with
 | some e=>(match(P.info? e).isSome with
  | true=>some (P.cellsOf e)
  | false=>none)
 | none=>none
theorem sI {P:Program} {t:TypeId} {m:Nat} (h:pt P t=some m): ∃e,gU P t=some e∧(P.info? e).isSome=true∧P.cellsOf e=m:=by
 unfold pt at h
 split at h
 ·rename_i e he
  split at h
  ·rename_i hi;exact⟨e,he,hi,Option.some.inj h⟩
  ·cases h
 ·cases h
def n6 (s:TS) (b g:Nat) (K:(e:bk)→(xs:List e.T)→(m:Nat)→xs.length=m→aD):aD:=match Nat.blt b s.aU with
 | true=>(match s.get (bB b) with
  | .blk cC e xs m h=> .eq cC g (K e xs m h)
  | _=> .no)
 | false=> .no
theorem r1 [FZ] {n:Nat} {s:TS} {b g:Nat} {K:(e:bk)→(xs:List e.T)→(m:Nat)→xs.length=m→aD} {R:Exit→TS→Prop} (h:(n6 s b g K).den R):
  ∃e xs m hm,(K e xs m hm).den R∧b<s.aU∧(s.aq n).H[b]?=some ⟨g,e.jA,xs.map (cb true e)⟩:=by
 unfold n6 at h
 split at h
 ·rename_i hb
  have hb:b<s.aU:=by rw[←Nat.blt_eq];exact hb
  split at h
  ·rename_i cC e xs m hm aI
   obtain⟨h1,h⟩:=h
   subst h1
   exact⟨e,xs,m,hm,h,hb,by rw[oR hb,aI];rfl⟩
  ·exact h.elim
 ·exact h.elim
def wN (V:List ab) (ids:List Nat) (m:Nat) (i:Int):List TV:=[.i .i64 (nth V i).au,.i .i64 (nth V i).aa,.sl i ids m (nth V i).U.length,.b (.v (nth V i).an),.i .i64 (nth V i).ao]
theorem yY {ws:List ab} {ids:List Nat} {bs:List (List Bool)} {i:Int} (ok:kV ws ids bs) (h:i.toNat<(view ws ids bs).length):nth (view ws ids bs) i={nth ws i with U:=bs.getD (nth ids i) []}:=by
 have aE:=h9 ok
 have h1:=fg (xs:=ws) (i:=i) (by omega)
 have h2:=fg (xs:=ids) (i:=i) (by have:=ok.len;omega)
 have:=tB (bs:=bs) h1 h2
 rw[fg h] at this
 exact Option.some.inj this
theorem W7 [Z:FZ] {V:List ab} {ids:List Nat} {m:Nat} {i:Int} (G:ie Z.ws ids Z.bs) (e:view Z.ws ids Z.bs=V) (h:i.toNat<V.length):(bd m Z.ws ids)[i.toNat]?=some (b9 (wN V ids m i)):=by
 subst e
 have aE:=h9 G.ok
 have Ro:=G.ok.len
 rw[dU Ro (by omega)]
 have hb:=G.ok.U i.toNat _ _ (fg (xs:=Z.ws) (i:=i) (by omega)) (fg (xs:=ids) (i:=i) (by omega))
 unfold wN
 rw[yY G.ok h]
 show some (ju m (nth Z.ws i) (nth ids i))=some _
 unfold ju
 rw[hb];rfl
def Bt (P:Program) (t:TypeId) (b g m:Nat) (i:Int) (s:TS) (v:TV) (K:TV→aD):aD:=match v with
 | .ia cC _ _=>(match Nat.blt b s.aU with
  | true=> .eq cC g (.eq (pt P t) (some 5) (.p (0≤i∧i.toNat<m) (K (.ptr b g i m 0))))
  | false=> .no)
 | _=>n6 s b g fun e _ _ _=> .eq (pt P t) (some e.jA) (.p (0≤i∧i.toNat<m) (K (.ptr b g i m 0)))
def Bu (P:Program) (t:TypeId) (w:Int) (ids:List Nat) (m k:Nat) (i:Int) (s:TS) (K:TV→aD):aD:=match s.get cM with
 | .fp V cB _ _=> .eq cB ids (.eq m s.aU (.eq (pt P t) (some 1) (.p (w.toNat<V.length∧0≤i∧i.toNat<k) (K (.sj w ids m i)))))
 | _=> .no
def Bv (P:Program) (t:TypeId) (x i:TV) (s:TS) (K:TV→aD):aD:=match i with
 | .i _ i=>(match x with
  | .l e xs _ _=> .eq (pt P t) (some e.jA) (.p (0≤i∧i.toNat<xs.length) (K (.cD e (pC e xs i) 0)))
  | .ref b g m _=>Bt P t b g m i s (s.get (bB b)) K
  | .sl w ids m k=>Bu P t w ids m k i s K
  | _=> .no)
 | _=> .no
def B3 (P:Program) (t:TypeId) (w:Int) (ids:List Nat) (m:Nat) (j:Int) (s:TS) (K:TV→aD):aD:=match s.get cM with
 | .fp V cB _ _=> .eq cB ids (.eq m s.aU (.p (w.toNat<V.length∧j.toNat<(nth V w).U.length) (oa (fun _ Q=>g_ P t [AV.bool (nth (nth V w).U j)] 0 Q) K (.v (rC P t [.b (.v (nth (nth V w).U j))] 0)))))
 | _=> .no
def B4 (P:Program) (t:TypeId) (b g:Nat) (i:Int) (m c:Nat) (s:TS) (K:TV→aD):aD:=match s.get (bB b) with
 | .ia cC fU ids=>(match Nat.blt b s.aU with
  | true=>(match s.get cM with
   | .fp V cB _ _=> .eq cC g (.eq cB ids (.p (i.toNat<V.length) (oa (fun _ Q=>g_ P t (b9 (wN V ids fU i)) c Q) K (.v (rC P t (wN V ids fU i) c)))))
   | _=> .no)
  | false=> .no)
 | .eb cC aM=>(match Nat.blt b s.aU with
  | true=> .eq cC g (.eq i 0 (oa (fun _ Q=>g_ P t (b9 aM) c Q) K (.v (rC P t aM c))))
  | false=> .no)
 | _=>n6 s b g fun e xs d_ _=> .eq d_ m (.p (i.toNat<m) (oa (fun _ Q=>g_ P t (cb true e (pC e xs i)) c Q) K (.v (rC P t (hj true e (pC e xs i)) c))))
def C8 (P:Program) (t:TypeId) (x:TV) (lo hi:Option TV) (K:TV→aD):aD:=match x with
 | .l e xs _ fr=>(match lo with
  | none=>(match hi with
   | some (.i _ b)=> .eq (pt P t) (some e.jA) (.p (0≤b∧b≤(xs.length:Int)) (K (.l e (xs.take b.toNat) false fr)))
   | _=> .no)
  | some (.i _ a)=>(match hi with
   | none=> .eq (pt P t) (some e.jA) (.p (0≤a∧a≤(xs.length:Int)) (K (.l e (xs.drop a.toNat) false fr)))
   | _=> .no)
  | _=> .no)
 | _=> .no
def B5 (P:Program) (t:TypeId) (x:TV) (K:TV→aD):aD:=match x with
 | .l _ xs _ _=> .eq (hJ P t x.be) true (K (.i .i64 xs.length))
 | .nil _ _=> .eq (hJ P t x.be) true (K (.i .i64 (0:Nat)))
 | .s z=> .eq (hJ P t x.be) true (K (.i .i64 z.size))
 | .ref _ _ m _=> .eq (hJ P t x.be) true (K (.i .i64 m))
 | .sl _ _ _ k=> .eq (hJ P t x.be) true (K (.i .i64 k))
 | _=> .no
def oM (o:Oper) (K:TV→aD):aD:=match o.op with
 | .move x=>mr (b0 cf.n s x) K
 | .assign x=>mr (b0 cf.n s x) K
 | .indexAddr t x i=>Bv P t (b0 cf.n s x) (b0 cf.n s i) s K
 | .load t a=>(match b0 cf.n s a with
  | .ptr b g i m c=>B4 P t b g i m c s K
  | .sj w ids m j=>B3 P t w ids m j s K
  | _=>oa (fun H Q=>hE P o (fun x=>(b0 cf.n s x).be) s.bN H Q) K (gs P cf.n s o.op))
 | .slice t x lo hi mx=>(match mx with
  | none=>C8 P t (b0 cf.n s x) (lo.map (b0 cf.n s)) (hi.map (b0 cf.n s)) K
  | some _=> .no)
 | .call c=>(match c.callee with
  | .builtin b=>(match b with
   | .len=>(match c.args.toList,c.argTypes.toList with
    | [x],[t]=>B5 P t (b0 cf.n s x) K
    | _,_=> .no)
   | _=> .no)
  | .value f=>(match b0 cf.n s f with
   | .fn g caps=>zt cf.m7 g (c.args.toList.map (b0 cf.n s)++caps) s K
   | _=> .no)
  | _=> .no)
 | .buildSlice t m ps=>sQ cf.z7 t fun e=>xY s e (ps.toList.map fun p=>b0 cf.n s p.2) fun xs=>oa (fun H Q=>hE P o (fun x=>(b0 cf.n s x).be) s.bN H Q) K (.v (Jo e xs (ps.toList.map fun p=>b0 cf.n s p.2)))
 | op=>oa (fun H Q=>hE P o (fun x=>(b0 cf.n s x).be) s.bN H Q) K (gs P cf.n s op)
end
theorem Cl {e:bk} {xs:List e.T} {i:Int} (h:i.toNat<xs.length) (fr:Bool):(xs.map (cb fr e))[i.toNat]?=some (cb fr e (pC e xs i)):=by
 rw[List.getElem?_map]
 have:xs[i.toNat]?=some (pC e xs i):=by
  have:= @fg e.T e.qK xs i h
  exact this
 rw[this];rfl
section
variable {P:Program} {cf:fO P} {s:TS} {R:Exit→TS→Prop} {K:TV→aD} {Kp:AV→Prop}
theorem XL {t:TypeId} {x:TV} {lo hi:Option TV} {H:List Blk} (hK: ∀v,(K v).den R→Kp v.be) (h:(C8 P t x lo hi K).den R):rp P t x.be (lo.map TV.be) (hi.map TV.be) H Kp:=by
 unfold C8 at h
 split at h
 ·rename_i e xs cS fr
  have dR: ∀{m:Nat},m=e.jA→ ∀(i:Nat) (row:List AV),(List.map (cb false e) xs)[i]?=some row→row.length=m:=fun hm i row aw=>by
   rw[List.getElem?_map] at aw
   cases hx:xs[i]? with
   | none=>rw[hx] at aw;cases aw
   | some x=>rw[hx] at aw;cases aw;rw[qc,hm]
  split at h
  ·split at h
   ·rename_i k b
    obtain⟨h1,h2,h⟩:=h
    obtain⟨kP,q1,q2,q3⟩:=sI h1
    refine dg q1 ?_
    rw[if_pos q2]
    refine⟨h2.1,Nat.zero_le _,by rw[List.length_map];omega,dR q3,?_⟩
    rw[List.drop_zero,Nat.sub_zero,←List.map_take];exact hK _ h
   ·exact h.elim
  ·split at h
   ·rename_i k a
    obtain⟨h1,h2,h⟩:=h
    obtain⟨kP,q1,q2,q3⟩:=sI h1
    refine dg q1 ?_
    rw[if_pos q2]
    refine⟨h2.1,by rw[List.length_map];omega,Nat.le_refl _,dR q3,?_⟩
    rw[List.take_of_length_le (by rw[List.length_drop];omega),←List.map_drop];exact hK _ h
   ·exact h.elim
  ·exact h.elim
 ·exact h.elim
end
section
variable {P:Program} {cf:fO P} {s:TS} {R:Exit→TS→Prop} {K:TV→aD} {Kp:AV→Prop}
theorem Vi {t:TypeId} {x:TV} (hK: ∀v,(K v).den R→Kp v.be) (h:(B5 P t x K).den R):dD (hJ P t x.be) (ox x.be Kp):=by
 unfold B5 at h
 split at h
 ·obtain⟨h1,h⟩:=h
  rw[h1]
  show Kp (.int .i64 ((List.map _ _).length:Nat))
  rw[List.length_map];exact hK _ h
 ·obtain⟨h1,h⟩:=h;rw[h1];exact hK _ h
 ·obtain⟨h1,h⟩:=h;rw[h1];exact hK _ h
 ·obtain⟨h1,h⟩:=h;rw[h1];exact hK _ h
 ·obtain⟨h1,h⟩:=h;rw[h1];exact hK _ h
 ·exact h.elim
end
section
variable {P:Program} {cf:fO P} {s:TS} {R:Exit→TS→Prop} {K:TV→aD} {Kp:AV→Prop}
theorem B9 {l:List (Nat×bk)} {t:Nat} {K:bk→aD} (h:(sQ l t K).den R): ∃e,(K e).den R:=by
 induction l with
 | nil=>exact h.elim
 | cons p r bx=>
  obtain⟨k,e⟩:=p
  unfold sQ at h
  split at h
  ·exact⟨e,h⟩
  ·exact bx h
end
section
variable [FZ] {P:Program} {cf:fO P} {s:TS} {R:Exit→TS→Prop} {K:TV→aD} {Kp:AV→Prop}
variable (aH:Fits s)
theorem Sh {t:TypeId} {b g m:Nat} {i:Int} {k:IntKind} {cS:Bool} (hK: ∀v,(K v).den R→Kp v.be) (h:(Bt P t b g m i s (s.get (bB b)) K).den R):sH P t (.ref b g 0 m cS) (.int k i) (s.aq cf.n).H Kp:=by
 unfold Bt at h
 split at h
 ·rename_i cC fU ids aI
  split at h
  ·rename_i hb
   have hb:b<s.aU:=by rw[←Nat.blt_eq];exact hb
   obtain⟨h1,h2,aJ,h⟩:=h
   subst h1
   obtain⟨kP,q1,q2,q3⟩:=sI h2
   refine dg q1 ?_
   rw[if_pos q2]
   refine dg (by rw[oR hb,aI]) ⟨rfl,q3.symm,aJ.1,by have:=aJ.2;omega,?_⟩
   rw[Nat.zero_add];exact hK _ h
  ·exact h.elim
 ·obtain⟨e,xs,d_,hm,h,hb,az⟩:=r1 (n:=cf.n) h
  obtain⟨h1,h2,h⟩:=h
  obtain⟨kP,q1,q2,q3⟩:=sI h1
  refine dg q1 ?_
  rw[if_pos q2]
  refine dg az ⟨rfl,q3.symm,h2.1,by have:=h2.2;omega,?_⟩
  rw[Nat.zero_add];exact hK _ h
include aH in
theorem Am {V:List ab} {ids:List Nat} {w:Int} {bC:Nat} {hv:V.length=bC} (hk:s.get cM= .fp V ids bC hv) (hw:w.toNat<V.length):(s.aq cf.n).H[nth ids w+s.aU]?=some (bz (nth V w).U):=by
 obtain⟨G,e,_⟩:=aH V ids _ _ hk
 have aE:=h9 G.ok
 rw[e] at aE
 have hid:=G.ok.lt w.toNat _ (fg (xs:=ids) (i:=w) (by have:=G.ok.len;omega))
 refine Fm hk ?_
 rw[o5 hid,←e,yY G.ok (by rw[e];exact hw)]
include aH in
theorem Sj {t:TypeId} {w:Int} {ids:List Nat} {m c:Nat} {i:Int} {k:IntKind} (hK: ∀v,(K v).den R→Kp v.be) (h:(Bu P t w ids m c i s K).den R):sH P t (.ref (nth ids w+m) 0 0 c false) (.int k i) (s.aq cf.n).H Kp:=by
 unfold Bu at h
 split at h
 ·rename_i V cB bC ir hk
  obtain⟨h1,h2,aJ,bj,h⟩:=h
  subst h1;subst h2
  obtain⟨kP,q1,q2,q3⟩:=sI aJ
  refine dg q1 ?_
  rw[if_pos q2]
  refine dg (Am aH hk bj.1) ⟨rfl,q3.symm,bj.2.1,by have:=bj.2.2;omega,?_⟩
  rw[Nat.zero_add];exact hK _ h
 ·exact h.elim
include aH in
theorem Sm {t:TypeId} {x i:TV} (hK: ∀v,(K v).den R→Kp v.be) (h:(Bv P t x i s K).den R):sH P t x.be i.be (s.aq cf.n).H Kp:=by
 unfold Bv at h
 split at h
 ·split at h
  ·obtain⟨h1,h2,h⟩:=h
   obtain⟨kP,q1,q2,q3⟩:=sI h1
   refine dg q1 ?_
   rw[if_pos q2]
   exact⟨h2.1,dg (Cl h2.2 false) ⟨by rw[qc,q3],hK _ h⟩⟩
  ·exact Sh hK h
  ·exact Sj aH hK h
  ·exact h.elim
 ·exact h.elim
include aH in
theorem U9 {t:TypeId} {w:Int} {ids:List Nat} {m:Nat} {j:Int} (hK: ∀v,(K v).den R→Kp v.be) (h:(B3 P t w ids m j s K).den R):lZ P t (.ptr (nth ids w+m) 0 j.toNat 0) (s.aq cf.n).L (s.aq cf.n).H Kp:=by
 unfold B3 at h
 split at h
 ·rename_i V cB bC ir hk
  obtain⟨h1,h2,aJ,h⟩:=h
  subst h1;subst h2
  exact dg (Am aH hk aJ.1) ⟨rfl,dg (tY aJ.2) (pa [] hK h)⟩
 ·exact h.elim
include aH in
theorem U_ {t:TypeId} {b g m c:Nat} {i:Int} (hK: ∀v,(K v).den R→Kp v.be) (h:(B4 P t b g i m c s K).den R):lZ P t (.ptr b g i.toNat c) (s.aq cf.n).L (s.aq cf.n).H Kp:=by
 unfold B4 at h
 split at h
 ·rename_i cC fU ids aI
  split at h
  ·rename_i hb
   have hb:b<s.aU:=by rw[←Nat.blt_eq];exact hb
   split at h
   ·rename_i V cB bC ir hk
    obtain⟨h1,h2,aJ,h⟩:=h
    subst h1;subst h2
    obtain⟨G,e,_⟩:=aH V cB _ _ hk
    exact dg (by rw[oR hb,aI]) ⟨rfl,dg (W7 G e aJ) (pa [] hK h)⟩
   ·exact h.elim
  ·exact h.elim
 ·rename_i cC aM aI
  split at h
  ·rename_i hb
   have hb:b<s.aU:=by rw[←Nat.blt_eq];exact hb
   obtain⟨h1,h2,h⟩:=h
   subst h1;subst h2
   exact dg (by rw[oR hb,aI]) ⟨rfl,dg (a:=b9 aM) rfl (pa [] hK h)⟩
  ·exact h.elim
 ·obtain⟨e,xs,d_,hm,h,hb,az⟩:=r1 (n:=cf.n) h
  obtain⟨h1,h2,h⟩:=h
  refine dg az ⟨rfl,dg (Cl (by omega) true) ?_⟩
  exact pa [] hK h
include aH in
theorem KK {o:Oper} (hK: ∀v,(K v).den R→Kp v.be) (h:(oM cf s o K).den R):hE P o (bL (s.aq cf.n).T) (s.aq cf.n).L (s.aq cf.n).H Kp:=by
 rw[iN]
 obtain⟨dst,op,ty,pos,after,guard⟩:=o
 unfold oM at h
 split at h
 ·rename_i x ew;cases ew;rw[nr] at h;exact hK _ h
 ·rename_i x ew;cases ew;rw[nr] at h;exact hK _ h
 ·rename_i t x i ew;cases ew;exact Sm aH hK h
 ·rename_i t a ew
  cases ew
  split at h
  ·rename_i b g i m c aL
   show lZ P t (b0 cf.n s a).be _ _ Kp
   rw[aL];exact U_ aH hK h
  ·rename_i w ids m j aL
   show lZ P t (b0 cf.n s a).be _ _ Kp
   rw[aL];exact U9 aH hK h
  ·exact pa (F:=fun H Q=>hE P _ _ _ H Q) _ hK h
 ·rename_i t x lo hi mx ew
  cases ew
  split at h
  ·have:=XL (H:=(s.aq cf.n).H) hK h
   show rp P t _ (lo.map _) (hi.map _) _ Kp
   rw[Option.map_map,Option.map_map] at this
   exact this
  ·exact h.elim
 ·rename_i c ew
  cases ew
  obtain⟨callee,args,argTypes⟩:=c
  split at h
  ·rename_i b hb
   cases hb
   split at h
   ·show(match args.toList,argTypes.toList with
     | [x],[t]=>dD (hJ P t ((fun x=>(b0 cf.n s x).be) x)) (ox ((fun x=>(b0 cf.n s x).be) x) Kp)
     | _,_=>False)
    split at h
    ·rename_i x t h1 h2
     simp only at h1 h2
     simp only[h1,h2];exact Vi hK h
    ·exact h.elim
   ·exact h.elim
  ·rename_i f hf
   cases hf
   show jp (b0 cf.n s f).be fun g caps=>lQ P g (args.toList.map (fun x=>(b0 cf.n s x).be)++caps) _ _ Kp
   split at h
   ·rename_i g caps hc
    rw[hc]
    have:=Oo (n:=cf.n) aH hK h
    rw[k0,List.map_append,List.map_map] at this
    show lQ P g (_++b9 caps) _ _ Kp
    rw[k0];exact this
   ·exact h.elim
  ·exact h.elim
 ·rename_i t m ps ew
  cases ew
  obtain⟨e,h⟩:=B9 h
  obtain⟨xs,h⟩:=B8 (n:=cf.n) aH h
  exact pa (F:=fun H Q=>hE P _ _ _ H Q) _ hK h
 ·exact pa (F:=fun H Q=>hE P _ _ _ H Q) _ hK h
end
theorem je {n:Int} (h1: -9223372036854775808≤n) (h2:n≤9223372036854775807):IntKind.i64.wrap n=n:=by
 rw[IntKind.wrap_i64];omega
def bK (x a b:Int):Bool:=decide (a≤x)&&decide (x≤b)
theorem uS {x a b:Int}:bK x a b=true↔a≤x∧x≤b:=by simp[bK]
theorem hZ {α:Type} [Inhabited α] {xs:List α} {i:Int} (h:i.toNat<xs.length):nth xs i=xs[i.toNat]:=by
 have:=fg h
 rw[List.getElem?_eq_getElem h] at this
 exact(Option.some.inj this).symm
theorem ek {α:Type} [Inhabited α] {xs:List α} {i:Int} (h:i.toNat<xs.length):nth xs i∈xs:=by rw[hZ h];exact List.getElem_mem h
theorem iM {α:Type} [Inhabited α] {xs:List α} {i:Nat} (h:i<xs.length):nth xs (i:Int)=xs[i]:=by rw[hZ (by simpa using h)];simp
def first {α:Type} (xs:List α) (p:α→Bool):Option Nat:=xs.findIdx? p
theorem Pv {α:Type} {xs:List α} {p:α→Bool} (h: ∀x∈xs,p x=false):first xs p=none:=by
 unfold first;rw[List.findIdx?_eq_none_iff];exact h
theorem Pw {α:Type} [Inhabited α] {xs:List α} {p:α→Bool} {i:Int} (h: ∀x∈xs.take i.toNat,p x=false) (hi:i.toNat<xs.length) (ak:p (nth xs i)=true):first xs p=some i.toNat:=by
 unfold first
 rw[List.findIdx?_eq_some_iff_getElem]
 refine⟨hi,by rw[←hZ hi];exact ak,fun j aC=> ?_⟩
 have:=h xs[j] (by rw[List.mem_take_iff_getElem];exact⟨j,by omega,rfl⟩)
 simp[this]
def sZ (o:Option Nat):Int:=match o with
 | some i=>i
 | none=> -1
def kE (xs:List Int) (v:Int):Int:=sZ (first xs (fun x=>v==x))
def fq (xs:List Int) (v:Int):Bool:=xs.contains v
def ot (xs:List Bool) (v:Bool):Int:=sZ (first xs (fun x=>v==x))
def hF (xs:List Bool) (v:Bool):Bool:=xs.contains v
def af {α:Type} (x:α):α:=x
def meets (a b:List Int):Bool:=a.any fun x=>b.contains x
def dup (l:List Int):Bool:= !decide l.Nodup
def b_ (w:Way):List b5:=w.aQ++w.bI
def fG (l:List Int) (n:Int):Bool:=decide (l.length≤30)&&l.all (fun x=>bK x 0 (n - 1))&&decide l.Nodup
def ja (p:aG) (l:List b5):Bool:=decide (l.length≤30)&&l.all (fun x=>bK x.br 0 (p.bD.length - 1)&&bK x.bJ 1 2)&&decide (l.map (·.br)).Nodup
def gj (p:aG) (w:Way):Bool:=
 decide (w.ah≠[])&&fG w.ah p.ah&&fG w.bV p.ah&&fG w.c9 p.ah&&ja p w.aQ&&ja p w.bI&&
 decide ((b_ w).map (·.br)).Nodup&&w.aQ.all (fun x=>w.ah.contains (nth p.bD x.br))&& !meets w.ah w.bV
def oY (p:aG) (i k:Nat):Bool:=nth (nth p.bA i) k
def mf (p:aG) (i k:Nat):Bool:=(oY p i k !=oY p k i) || (decide (i≠k)&& !oY p i k&&meets (nth p.M i).ah (nth p.M k).ah)
def l4 (p:aG):gP:=if p.bA.length=p.M.length then
  match first p.bA (fun b=>decide (b.length≠p.M.length)) with
  | some k=>⟨4,k⟩
  | none=>match first (List.range p.M.length) (fun i=>(List.range p.M.length).any fun k=>mf p i k) with
   | some k=>⟨5,k⟩
   | none=>⟨0,0⟩
 else⟨4,0⟩
def s8 (p:aG):gP:=match first p.M (fun w=> !gj p w) with
 | some k=>⟨3,k⟩
 | none=>l4 p
def s7 (p:aG):gP:=match first p.bD (fun s=> !bK s 0 (p.ah - 1)) with
 | some k=>⟨2,k⟩
 | none=>s8 p
def gh (p:aG):gP:=if bK p.ah 1 60&&bK p.dV 1 300&&decide (p.bD.length≤40)&&decide (p.M.length≤100) then s7 p else⟨1,0⟩
def ft (p:aG):Bool:=decide (gh p=⟨0,0⟩)
def dG (n:Nat) (left:Int):Int:=if left<n then -1 else left - n
def rH (w:Way):Nat:=w.ah.length+w.aQ.length+w.bI.length+w.bV.length+w.c9.length
def vZ (ws:List Way):Nat:=ws.length+(ws.map rH).sum
def rX (bs:List (List Bool)):Nat:=bs.length+(bs.map List.length).sum
def vh (p:aG):Nat:=p.bD.length+vZ p.M+rX p.bA
def sr (ws:List ab):Nat:=ws.length+(ws.map fun h=>h.U.length).sum
def xf (f:Frame):Nat:=f.aA.length+f.av.length+sr f.M
theorem Jh {n:Nat} {left:Int} (aN:0≤left):dG n left<0↔left<n:=by unfold dG;split<;>omega
theorem Jg {n m:Nat} {left:Int} (aN:0≤left):dG (n+m) left=if dG n left<0 then -1 else dG m (dG n left):=by
 unfold dG
 split<;>split<;>(try split)<;>(try split)<;>omega
def bP {α:Type} (a:List α) (left:Int):Int:=dG a.length left
def nV (w:Way) (left:Int):Int:=dG (rH w) left
def m5 (w:List Way) (left:Int):Int:=dG (vZ w) left
def pR (w:List (List Bool)) (left:Int):Int:=dG (rX w) left
def l9 (p:aG) (left:Int):Int:=dG (vh p) left
def nU (h:ab) (left:Int):Int:=dG h.U.length left
def pS (h:List ab) (left:Int):Int:=dG (sr h) left
def rA (f:Frame) (left:Int):Int:=dG (xf f) left
def eo {α:Type} (a:α) (left:Int):Prop:=0≤left∧left≤1048576
def small {α:Type} (a:List α):Prop:=a.length≤1048576
def vM (w:Way):Prop:=rH w≤1048576
def yJ (w:List Way):Prop:=vZ w≤1048576
def yH (w:List (List Bool)):Prop:=rX w≤1048576
def rr (p:aG):Prop:=vh p≤1048576
def eqv {α:Type} [DecidableEq α] (a b:α):Bool:=decide (a=b)
def n0 {α:Type} (a:α):Bool:=true
def D1 {α β:Type} (a:α) (b:β):Bool:=true
def vj (l:List Int) (n:Int):Prop:= -9223372036854775808<n∧n≤9223372036854775807
def Cz (p:aG) (w:Way):Prop:= -9223372036854775808<p.ah∧p.ah≤9223372036854775807
def yg (w:Way):Prop:=w.aQ.length≤1048576∧w.bI.length≤1048576
def nq {α β:Type} (a:List α) (f:α→β) (d:β) (i:Int):List β:=(a.take i.toNat).map f++List.replicate (a.length - i.toNat) d
theorem Ps {α β:Type} (a:List α) (f:α→β) (d:β):nq a f d 0=List.replicate a.length d:=by simp[nq]
theorem Ao {α β:Type} {a:List α} {f:α→β} {d:β} {i:Int} (h:i≤a.length):(nq a f d i).length=a.length:=by
 simp[nq];omega
theorem Pt {α β:Type} [Inhabited α] {a:List α} {f:α→β} {d:β} {i:Int} (aN:0≤i) (h:i.toNat<a.length):(nq a f d i).set i.toNat (f (nth a i))=nq a f d (i+1):=by
 unfold nq
 rw[show(i+1).toNat=i.toNat+1 by omega,List.take_succ_eq_append_getElem h,List.set_append_right _ _ (by simp;omega)]
 have:List.replicate (a.length - i.toNat) d=d::List.replicate (a.length - (i.toNat+1)) d:=by
  rw[←List.replicate_succ];congr 1;omega
 rw[this,hZ h]
 have aE:((a.take i.toNat).map f).length=i.toNat:=by simp;omega
 rw[aE]
 simp[List.map_append]
 rw[←List.map_take,←List.map_take,List.take_succ_eq_append_getElem h,List.map_append]
 simp
theorem Pr {α β:Type} {a:List α} {f:α→β} {d:β} {i:Int} (h:(a.length:Int)≤i):nq a f d i=a.map f:=by
 unfold nq
 rw[List.take_of_length_le (by omega),show a.length - i.toNat=0 by omega]
 simp
def b4 (N:Int) (p:Int→Bool) (v:Int):Prop:=0≤v∧v≤N∧ ∀j:Int,0≤j→j<v→p j=false
def cn (N:Int) (v:Int):Nat:=(N - v).toNat
theorem c6 {N:Int} {p:Int→Bool} (h:0≤N):b4 N p 0:=⟨Int.le_refl _,h,fun j aN h1=>by omega⟩
theorem kT {N v:Int} (ap:N≤4611686018427387904) (aN:0≤v) (hv:v<N):IntKind.i64.wrap (v+1)=v+1:=je (by omega) (by omega)
theorem cX {N v:Int} {p:Int→Bool} (ap:N≤4611686018427387904) (h:b4 N p v) (hv:decide (v<N)=true) (ak:p v=false):b4 N p (IntKind.i64.wrap (v+1))∧cn N (IntKind.i64.wrap (v+1))<cn N v:=by
 obtain⟨aN,h1,h2⟩:=h
 have hv:v<N:=by simpa using hv
 rw[kT ap aN hv]
 refine⟨⟨by omega,by omega,fun j bY dY=> ?_⟩,by unfold cn;omega⟩
 rcases Int.lt_or_eq_of_le (show j≤v by omega) with aE | rfl
 ·exact h2 j bY aE
 ·exact ak
theorem e_ {N v:Int} {p:Int→Bool} (h:b4 N p v) (hv:decide (v<N)=false): ∀j:Int,0≤j→j<N→p j=false:=by
 obtain⟨aN,h1,h2⟩:=h
 have hv: ¬v<N:=by simpa using hv
 exact fun j bY dY=>h2 j bY (by omega)
theorem cq {α:Type} {xs:List α} {v:Int} {p:Int→Bool} (h:b4 xs.length p v) (hv:decide (v<(xs.length:Int))=true):0≤v∧v.toNat<xs.length:=by
 have hv:v<(xs.length:Int):=by simpa using hv
 exact⟨h.1,by have:=h.1;omega⟩
theorem c0 {α:Type} {xs:List α} (h:xs.length≤4611686018427387904):(xs.length:Int)≤4611686018427387904:=by omega
theorem cQ {α:Type} (xs:List α):0≤(xs.length:Int):=by omega
theorem jY {α:Type} [Inhabited α] {xs:List α} {q:α→Bool} (h: ∀j:Int,0≤j→j<xs.length→q (nth xs j)=false): ∀x∈xs,q x=false:=fun x hx=>by
 obtain⟨i,hi,rfl⟩:=List.mem_iff_getElem.1 hx
 have:=h i (by omega) (by omega)
 rwa [iM hi] at this
theorem m8 {α:Type} [Inhabited α] {xs:List α} {q:α→Bool} {v:Int} (h:b4 xs.length (fun j=>q (nth xs j)) v) (hv:decide (v<(xs.length:Int))=true) (ak:q (nth xs v)=true):first xs q=some v.toNat:=by
 have hi:=cq h hv
 refine Pw (fun x hx=> ?_) hi.2 ak
 obtain⟨i,gv,rfl⟩:=List.mem_take_iff_getElem.1 hx
 have:q (nth xs (i:Int))=false:=h.2.2 i (by omega) (by omega)
 rwa [iM (by omega)] at this
theorem m9 {α:Type} [Inhabited α] {xs:List α} {q:α→Bool} {v:Int} (h:b4 xs.length (fun j=>q (nth xs j)) v) (hv:decide (v<(xs.length:Int))=false):first xs q=none:=
 Pv (jY (e_ h hv))
theorem yX {α:Type} [Inhabited α] {xs:List α} {q:α→Bool} {v:Int} (h:b4 xs.length (fun j=>q (nth xs j)) v) (hv:decide (v<(xs.length:Int))=true) (ak:q (nth xs v)=true):xs.any q=true:=by
 rw[List.any_eq_true];exact⟨_,ek (cq h hv).2,ak⟩
theorem vW {α:Type} [Inhabited α] {xs:List α} {q:α→Bool} {v:Int} (h:b4 xs.length (fun j=>q (nth xs j)) v) (hv:decide (v<(xs.length:Int))=false):xs.any q=false:=by
 rw[List.any_eq_false]
 intro x hx
 rw[jY (e_ h hv) x hx];simp
theorem not_eq {b:Bool} (h:(!b)=true):b=false:=by simpa using h
theorem C0 {α:Type} [Inhabited α] {a b:List α} (aE:a.length=b.length) (h: ∀j:Int,0≤j→j<a.length→nth a j=nth b j):a=b:=by
 apply List.ext_getElem aE
 intro i h1 h2
 have:=h i (by omega) (by omega)
 rwa [iM h1,iM h2] at this
theorem np {α:Type} [Inhabited α] [DecidableEq α] {a b:List α} {ne:Int→Bool} (b2: ∀v,ne v=true↔nth a v≠nth b v):
  ((a.length≤4611686018427387904)∧(b.length≤4611686018427387904)→((a.length:Int) !=(b.length:Int))=true→false=eqv a b)∧((a.length≤4611686018427387904)∧(b.length≤4611686018427387904)∧((!((a.length:Int) !=(b.length:Int)))=true)→
   b4 a.length ne 0∧ ∀(v:Int),b4 a.length ne v→(((decide (v<(a.length:Int)))=false→true=eqv a b)∧((decide (v<(a.length:Int)))=true→(((0≤v∧v.toNat<a.length)∧(0≤v∧v.toNat<b.length))∧((ne v)=true→false=eqv a b))∧
    ((!(ne v))=true→b4 a.length ne (IntKind.i64.wrap (v+1))∧cn a.length (IntKind.i64.wrap (v+1))<cn a.length v)))):=by
 refine⟨fun _ h=> ?_,fun⟨h1,h2,aJ⟩=> ?_⟩
 ·have:a≠b:=fun e=>by subst e;simp at h
  simp[eqv,this]
 ·have aE:a.length=b.length:=by have:(a.length:Int)=b.length:=by simpa using aJ
                                omega
  refine⟨c6 (cQ a),fun v aV=>⟨fun hv=> ?_,fun hv=>⟨⟨⟨cq aV hv,by rw[←aE];exact cq aV hv⟩,fun ap=> ?_⟩,fun ap=>cX (c0 h1) aV hv (not_eq ap)⟩⟩⟩
  ·have:a=b:=C0 aE fun j bY dY=>by
    have ag:=e_ aV hv j bY dY
    by_cases he:nth a j=nth b j
    ·exact he
    ·rw[(b2 j).2 he] at ag;cases ag
   simp[eqv,this]
  ·have:a≠b:=fun e=>(b2 v).1 ap (by rw[e])
   simp[eqv,this]
def k9 {α β:Type} (a:List α) (f:α→β) (d:β) (x:List β) (v:Int):Prop:=0≤v∧v≤a.length∧x=nq a f d v
def lU {α β:Type} (a:List α) (x:List β) (v:Int):Nat:=(a.length - v).toNat
theorem w7 {α β:Type} [Inhabited α] {a:List α} {f:α→β} {d:β} {ac:List β} {φ:Int→Prop} (hs:a.length≤4611686018427387904) (aw:a.map f=ac) (dB: ∀v:Int,0≤v→v.toNat<a.length→φ v):
  k9 a f d (List.replicate (a.length:Int).toNat d) 0∧ ∀(x:List β) (v:Int),k9 a f d x v→(((decide (v<(a.length:Int)))=false→x.length≤4611686018427387904∧x=ac)∧((decide (v<(a.length:Int)))=true→((0≤v∧v.toNat<a.length)∧(φ v∧((0≤v∧v.toNat<x.length)∧v.toNat<x.length)))∧
   (k9 a f d (x.set v.toNat (f (nth a v))) (IntKind.i64.wrap (v+1))∧lU a (x.set v.toNat (f (nth a v))) (IntKind.i64.wrap (v+1))<lU a x v))):=by
 refine⟨⟨Int.le_refl _,cQ a,by rw[Ps];simp⟩,fun x v ⟨aN,h1,hx⟩=>⟨fun hv=> ?_,fun hv=> ?_⟩⟩
 ·have hv: ¬v<(a.length:Int):=by simpa using hv
  subst hx
  exact⟨by rw[Ao h1];exact hs,by rw[Pr (by omega)];exact aw⟩
 ·have hv:v<(a.length:Int):=by simpa using hv
  have aR:v.toNat<a.length:=by omega
  subst hx
  refine⟨⟨⟨aN,aR⟩,dB v aN aR,⟨aN,by rw[Ao h1];exact aR⟩,by rw[Ao h1];exact aR⟩,?_⟩
  rw[kT (c0 hs) aN hv]
  exact⟨⟨by omega,by omega,Pt aN aR⟩,by unfold lU;omega⟩
theorem w8 {α β:Type} [Inhabited α] {a:List α} {f:α→β} {d:β} {ac:List β} (hs:a.length≤4611686018427387904) (aw:a.map f=ac):
  k9 a f d (List.replicate (a.length:Int).toNat d) 0∧ ∀(x:List β) (v:Int),k9 a f d x v→(((decide (v<(a.length:Int)))=false→x.length≤4611686018427387904∧x=ac)∧((decide (v<(a.length:Int)))=true→((0≤v∧v.toNat<a.length)∧((0≤v∧v.toNat<x.length)∧v.toNat<x.length))∧
   (k9 a f d (x.set v.toNat (f (nth a v))) (IntKind.i64.wrap (v+1))∧lU a (x.set v.toNat (f (nth a v))) (IntKind.i64.wrap (v+1))<lU a x v))):=by
 obtain⟨h1,h2⟩:=w7 (φ:=fun _=>True) (d:=d) hs aw fun _ _ _=>trivial
 exact⟨h1,fun x v aV=>⟨(h2 x v aV).1,fun hv=>⟨⟨((h2 x v aV).2 hv).1.1,((h2 x v aV).2 hv).1.2.2⟩,((h2 x v aV).2 hv).2⟩⟩⟩
theorem Jj {n:Nat} {left:Int} (aN:0≤left) (h1:left≤1048576) (h: ¬dG n left<0):0≤dG n left∧dG n left≤1048576:=by
 refine⟨by omega,?_⟩
 unfold dG at h ⊢
 split<;>omega
theorem Ji {n m:Nat} {left:Int} (aN:0≤left) (h:dG n left<0):dG (n+m) left= -1:=by
 rw[Jg aN,if_pos h]
theorem oy {n m:Nat} {left:Int} (aN:0≤left) (h: ¬dG n left<0):dG m (dG n left)=dG (n+m) left:=by
 rw[Jg aN,if_neg h]
theorem MX {α:Type} {xs:List α} {left:Int} (ap:xs.length≤4611686018427387904) (h:0≤left∧left≤1048576):IntKind.i64.wrap (left - (xs.length:Int))=left - xs.length:=je (by omega) (by omega)
theorem yS {α:Type} {a:List α} {left:Int} (ak:0≤left∧left≤1048576) (ap:a.length≤4611686018427387904):
  ((decide ((IntKind.i64.wrap (left - (a.length:Int)))<0))=true→(-1)=bP a left)∧((!(decide ((IntKind.i64.wrap (left - (a.length:Int)))<0)))=true→(IntKind.i64.wrap (left - (a.length:Int)))=bP a left):=by
 rw[MX ap ak]
 unfold bP dG
 constructor<;>intro h<;>split<;>simp_all<;>omega
def tw {α:Type} (a:List α) (f:α→Nat) (Vc:Int) (left v:Int):Prop:=0≤v∧v≤a.length∧0≤left∧left≤1048576∧left=dG (a.length+((a.take v.toNat).map f).sum) Vc
def tx {α:Type} (a:List α) (left v:Int):Nat:=(a.length - v).toNat
theorem DK {α:Type} [Inhabited α] {a:List α} {f:α→Nat} {g:α→Int→Int} {left:Int} (aI: ∀x l,g x l=dG (f x) l) (ak:0≤left∧left≤1048576) (ap:a.length≤4611686018427387904):
  ((decide ((IntKind.i64.wrap (left - (a.length:Int)))<0))=true→(-1)=dG (a.length+(a.map f).sum) left)∧((!(decide ((IntKind.i64.wrap (left - (a.length:Int)))<0)))=true→
   tw a f left (IntKind.i64.wrap (left - (a.length:Int))) 0∧ ∀(w:Int) (v:Int),tw a f left w v→(((decide (v<(a.length:Int)))=false→w=dG (a.length+(a.map f).sum) left)∧((decide (v<(a.length:Int)))=true→
    (((0≤v∧v.toNat<a.length)∧(eo (nth a v) w))∧((decide ((g (nth a v) w)<0))=true→(-1)=dG (a.length+(a.map f).sum) left))∧((!(decide ((g (nth a v) w)<0)))=true→tw a f left (g (nth a v) w) (IntKind.i64.wrap (v+1))∧tx a (g (nth a v) w) (IntKind.i64.wrap (v+1))<tx a w v)))):=by
 rw[MX ap ak]
 refine⟨fun h=> ?_,fun h=>⟨⟨Int.le_refl _,cQ a,?_⟩,fun w v ⟨v0,v1,aS,bQ,hw⟩=>⟨fun hv=> ?_,fun hv=> ?_⟩⟩⟩
 ·have h:left - a.length<0:=by simpa using h
  unfold dG;rw[if_pos (by omega)]
 ·have h: ¬left - a.length<0:=by simpa using h
  refine⟨by omega,by omega,?_⟩
  simp only[Int.toNat_zero,List.take_zero,List.map_nil,List.sum_nil,Nat.add_zero]
  unfold dG;rw[if_neg (by omega)]
 ·have hv: ¬v<(a.length:Int):=by simpa using hv
  rw[hw,List.take_of_length_le (by omega)]
 ·have hv:v<(a.length:Int):=by simpa using hv
  have aR:v.toNat<a.length:=by omega
  have hs:((a.take (v+1).toNat).map f).sum=((a.take v.toNat).map f).sum+f (nth a v):=by
   rw[show(v+1).toNat=v.toNat+1 by omega,List.take_succ_eq_append_getElem aR,List.map_append,List.sum_append,hZ aR];simp
  have Rw: ¬dG (a.length+((a.take v.toNat).map f).sum) left<0:=by omega
  have ez:g (nth a v) w=dG (a.length+((a.take (v+1).toNat).map f).sum) left:=by
   rw[aI,hw,oy ak.1 Rw,hs,Nat.add_assoc]
  refine⟨⟨⟨⟨v0,aR⟩,aS,bQ⟩,fun h=> ?_⟩,fun h=> ?_⟩
  ·have h:g (nth a v) w<0:=by simpa using h
   rw[ez] at h
   have aZ:(a.map f).sum=((a.take (v+1).toNat).map f).sum+((a.drop (v+1).toNat).map f).sum:=by
    rw[←List.sum_append,←List.map_append,List.take_append_drop]
   rw[aZ,←Nat.add_assoc,Ji ak.1 h]
  ·have h: ¬g (nth a v) w<0:=by simpa using h
   rw[kT (c0 ap) v0 hv]
   have:=Jj ak.1 ak.2 (ez▸h)
   refine⟨⟨by omega,by omega,by rw[ez];exact this.1,by rw[ez];exact this.2,ez⟩,by unfold tx;omega⟩
theorem l_ {n m T:Nat} {left:Int} {R:Prop} (ak:0≤left∧left≤1048576) (bM:T=n+m) (h: ¬dG n left<0→0≤dG n left∧dG n left≤1048576→R):
  ((decide (dG n left<0))=true→(-1)=dG T left)∧((!(decide (dG n left<0)))=true→R):=by
 refine⟨fun aZ=> ?_,fun aZ=> ?_⟩
 ·have aZ:dG n left<0:=by simpa using aZ
  rw[bM,Ji ak.1 aZ]
 ·have aZ: ¬dG n left<0:=by simpa using aZ
  exact h aZ (Jj ak.1 ak.2 aZ)
theorem u2 {α:Type} (l:List α):l.map af=af l:=by
 show l.map (fun x=>x)=l
 simp
theorem u3 {α:Type} (f:α→Nat) {x:α}: ∀{l:List α},x∈l→f x≤(l.map f).sum
 | [],h=>by cases h
 | y::l,h=>by
  rw[List.map_cons,List.sum_cons]
  rcases List.mem_cons.1 h with rfl | h
  ·omega
  ·have:=u3 f h;omega
theorem qi {xs:List Int} {x:Int}:fq xs x=true↔x∈xs:=by unfold fq;simp
theorem QY {xs:List Int} {x k:Int} (hk:k.toNat<xs.length) (h:(x==nth xs k)=true):fq xs x=true:=by
 rw[qi,show x=nth xs k by simpa using h];exact ek hk
theorem QW {xs:List Int} {x:Int} (h: ∀j:Int,0≤j→j<xs.length→(x==nth xs j)=false):fq xs x=false:=by
 rw[←Bool.not_eq_true,qi]
 intro hm
 have:=jY (q:=fun y=>x==y) h x hm
 simp at this
theorem Sk (xs:List Int) (x:Int):(decide (kE xs x ≥ 0))=fq xs x:=by
 unfold kE
 cases h:first xs (fun y=>x==y) with
 | none=>
  unfold first at h
  rw[List.findIdx?_eq_none_iff] at h
  have:fq xs x=false:=by
   rw[←Bool.not_eq_true,qi]
   intro hm
   have:=h x hm
   simp at this
  rw[this];rfl
 | some i=>
  unfold first at h
  rw[List.findIdx?_eq_some_iff_getElem] at h
  obtain⟨hi,ak,_⟩:=h
  have:fq xs x=true:=by rw[qi,show x=xs[i] by simpa using ak];exact List.getElem_mem hi
  rw[this]
  show decide ((i:Int) ≥ 0)=true
  simp
theorem O1 {xs:List Int} {v:Int} (aN:0≤v) (hv:v.toNat<xs.length) (h:fq (xs.take v.toNat) (nth xs v)=true):dup xs=true:=by
 rw[qi] at h
 unfold dup
 simp only[Bool.not_eq_true',decide_eq_false_iff_not]
 intro ap
 obtain⟨i,hi,he⟩:=List.mem_take_iff_getElem.1 h
 rw[hZ hv] at he
 exact(List.pairwise_iff_getElem.1 ap) i v.toNat (by omega) hv (by omega) he
theorem E3 {xs:List Int} (h: ∀j:Int,0≤j→j<xs.length→fq (xs.take j.toNat) (nth xs j)=false):dup xs=false:=by
 unfold dup
 simp only[Bool.not_eq_false',decide_eq_true_eq]
 unfold List.Nodup
 rw[List.pairwise_iff_getElem]
 intro i j hi aC aR he
 have:=h j (by omega) (by omega)
 rw[←Bool.not_eq_true,qi,iM aC] at this
 exact this (by rw[List.mem_take_iff_getElem];exact⟨i,by omega,he⟩)
theorem CS (x n:Int):(decide (x<0) || decide (x ≥ n))= !bK x 0 (n - 1):=by
 rw[Bool.eq_iff_iff]
 simp[bK]
 omega
theorem JD {α:Type} {l:List α} (k:Nat):decide ((l.length:Int)≤(k:Int))=decide (l.length≤k):=decide_eq_decide.2 (by omega)
theorem VS {α:Type} [Inhabited α] {β:Type} [DecidableEq β] {l:List α} {f:α→β} (h: ∀i j:Int,0≤i→i<j→j<l.length→f (nth l i)≠f (nth l j)):(l.map f).Nodup:=by
 unfold List.Nodup
 rw[List.pairwise_iff_getElem]
 intro i j hi aC aR
 simp only[List.length_map] at hi aC
 rw[List.getElem_map,List.getElem_map]
 have:=h i j (by omega) (by omega) (by omega)
 rwa [iM hi,iM aC] at this
theorem JH {α:Type} [Inhabited α] {β:Type} [DecidableEq β] {l:List α} {f:α→β} {i j:Int} (aN:0≤i) (h1:i<j) (h2:j<l.length) (he:f (nth l i)=f (nth l j)): ¬(l.map f).Nodup:=by
 intro ap
 have:=(List.pairwise_iff_getElem.1 ap) i.toNat j.toNat (by simp;omega) (by simp;omega) (by omega)
 rw[List.getElem_map,List.getElem_map,←hZ (by omega),←hZ (by omega)] at this
 exact this he
theorem map_id' {α:Type} (l:List α):l.map (fun x=>x)=l:=by simp
theorem qO {l:List Int} {n:Int}:fG l n=true↔l.length≤30∧(∀x∈l,bK x 0 (n - 1)=true)∧l.Nodup:=by
 unfold fG;simp[and_assoc]
theorem Vr {l:List Int} {n:Int} (h: ∀j:Int,0≤j→j<l.length→(!bK (nth l j) 0 (n - 1) || fq (l.take j.toNat) (nth l j))=false):fG l n=decide (l.length≤30):=by
 have h1: ∀x∈l,bK x 0 (n - 1)=true:=fun x hx=>by
  have:=jY (q:=fun x=> !bK x 0 (n - 1)) (fun j bY dY=>(Bool.or_eq_false_iff.1 (h j bY dY)).1) x hx
  simpa using this
 have h2:dup l=false:=E3 fun j bY dY=>(Bool.or_eq_false_iff.1 (h j bY dY)).2
 have h2:l.Nodup:=by unfold dup at h2;simpa using h2
 rw[Bool.eq_iff_iff,qO]
 simp only[decide_eq_true_eq]
 exact⟨fun h=>h.1,fun h=>⟨h,h1,h2⟩⟩
theorem Jn {l:List Int} {n:Int} {v:Int} (hv:v.toNat<l.length) (h:(!bK (nth l v) 0 (n - 1))=true):fG l n=false:=by
 rw[←Bool.not_eq_true,qO]
 intro bH
 have:=bH.2.1 _ (ek hv)
 simp[this] at h
theorem Vq {l:List Int} {n:Int} {i j:Int} (aN:0≤i) (h1:i<j) (h2:j<l.length) (he:(nth l i==nth l j)=true):fG l n=false:=by
 rw[←Bool.not_eq_true,qO]
 intro bH
 have:=JH (f:=fun x=>x) aN h1 h2 (by simpa using he)
 rw[map_id'] at this
 exact this bH.2.2
theorem QX {l:List Int} {v:Int} (aN:0≤v) (hv:v<l.length) (h: ∀j:Int,0≤j→j<v→(nth l j==nth l v)=false):fq (l.take v.toNat) (nth l v)=false:=by
 rw[←Bool.not_eq_true,qi]
 intro hm
 obtain⟨i,hi,he⟩:=List.mem_take_iff_getElem.1 hm
 have:=h i (by omega) (by omega)
 rw[iM (by omega),he] at this
 simp at this
theorem kG {p:aG} {l:List b5}:ja p l=true↔l.length≤30∧(∀x∈l,(bK x.br 0 (p.bD.length - 1)&&bK x.bJ 1 2)=true)∧(l.map (·.br)).Nodup:=by
 unfold ja;simp[and_assoc]
def l0 (p:aG) (x:b5):Bool:=(!bK x.br 0 (p.bD.length - 1)) || (!bK x.bJ 1 2)
theorem uW (p:aG) (x:b5):l0 p x= !(bK x.br 0 (p.bD.length - 1)&&bK x.bJ 1 2):=by unfold l0;rw[Bool.not_and]
def uX (l:List b5) (j:Int):Bool:=(l.take j.toNat).any fun y=>y.br==(nth l j).br
theorem Vo {p:aG} {l:List b5} (h: ∀j:Int,0≤j→j<l.length→(l0 p (nth l j) || uX l j)=false):ja p l=decide (l.length≤30):=by
 have h1: ∀x∈l,(bK x.br 0 (p.bD.length - 1)&&bK x.bJ 1 2)=true:=fun x hx=>by
  have:=jY (q:=l0 p) (fun j bY dY=>(Bool.or_eq_false_iff.1 (h j bY dY)).1) x hx
  rw[uW] at this
  simpa using this
 have h2:(l.map (·.br)).Nodup   :=VS fun i j aN h1 aC=>by
  have:=(Bool.or_eq_false_iff.1 (h j (by omega) aC)).2
  unfold uX at this
  rw[List.any_eq_false] at this
  have:=this (nth l i) (by rw[hZ (by omega)];exact List.mem_take_iff_getElem.2 ⟨i.toNat,by omega,rfl⟩)
  simpa using this
 rw[Bool.eq_iff_iff,kG]
 simp only[decide_eq_true_eq]
 exact⟨fun h=>h.1,fun h=>⟨h,h1,h2⟩⟩
theorem Vp {p:aG} {l:List b5} {v:Int} (hv:v.toNat<l.length) (h:l0 p (nth l v)=true):ja p l=false:=by
 rw[←Bool.not_eq_true,kG]
 intro bH
 rw[uW,bH.2.1 _ (ek hv)] at h
 cases h
theorem Vn {p:aG} {l:List b5} {i j:Int} (aN:0≤i) (h1:i<j) (h2:j<l.length) (he:((nth l i).br==(nth l j).br)=true):ja p l=false:=by
 rw[←Bool.not_eq_true,kG]
 exact fun bH=>JH (f:=fun x:b5=>x.br) aN h1 h2 (by simpa using he) bH.2.2
theorem Vm {l:List b5} {v:Int} (aN:0≤v) (hv:v<l.length) (h: ∀j:Int,0≤j→j<v→((nth l j).br==(nth l v).br)=false):uX l v=false:=by
 unfold uX
 rw[List.any_eq_false]
 intro y bm
 obtain⟨i,hi,rfl⟩:=List.mem_take_iff_getElem.1 bm
 have:=h i (by omega) (by omega)
 rw[iM (by omega)] at this
 rw[this];simp
theorem VJ (a b:List Int):meets a b=meets b a:=by
 unfold meets
 rw[Bool.eq_iff_iff]
 simp only[List.any_eq_true,List.contains_iff_mem]
 exact⟨fun⟨x,h1,h2⟩=>⟨x,h2,h1⟩,fun⟨x,h1,h2⟩=>⟨x,h2,h1⟩⟩
theorem Jw (x:Int) (b:List Int):meets [x] b=b.contains x:=by unfold meets;simp
theorem na {p:aG} {w:Way}:gj p w=true↔w.ah≠[]∧fG w.ah p.ah=true∧fG w.bV p.ah=true∧fG w.c9 p.ah=true∧ja p w.aQ=true∧ja p w.bI=true∧
  ((b_ w).map (·.br)).Nodup∧(∀x∈w.aQ,w.ah.contains (nth p.bD x.br)=true)∧meets w.ah w.bV=false:=by
 unfold gj;simp[and_assoc]
theorem Ci {w:Way}:((b_ w).map (·.br)).Nodup↔(w.aQ.map (·.br)).Nodup∧(w.bI.map (·.br)).Nodup∧ ∀x∈w.aQ,∀y∈w.bI,x.br≠y.br:=by
 unfold b_
 rw[List.map_append,List.nodup_append]
 simp only[List.mem_map]
 constructor
 ·rintro⟨h1,h2,aJ⟩;exact⟨h1,h2,fun x hx y bm=>aJ _ ⟨x,hx,rfl⟩ _ ⟨y,bm,rfl⟩⟩
 ·rintro⟨h1,h2,aJ⟩
  refine⟨h1,h2,?_⟩
  rintro a ⟨x,hx,rfl⟩ b ⟨y,bm,rfl⟩
  exact aJ x hx y bm
def iA (p:aG):Bool:=bK p.ah 1 60&&bK p.dV 1 300&&decide (p.bD.length≤40)&&decide (p.M.length≤100)
theorem Cv {p:aG} (h:iA p=false):gh p=⟨1,0⟩:=by
 unfold gh;unfold iA at h;rw[if_neg (by rw[h];simp)]
theorem Cw {p:aG} (h:iA p=true):gh p=s7 p:=by
 unfold gh;unfold iA at h;rw[if_pos h]
theorem Kc {p:aG} {k:Nat} (hb:iA p=true) (h:first p.bD (fun s=> !bK s 0 (p.ah - 1))=some k):gh p=⟨2,k⟩:=by rw[Cw hb];unfold s7;rw[h]
theorem Kf {p:aG} (hb:iA p=true) (h:first p.bD (fun s=> !bK s 0 (p.ah - 1))=none):gh p=s8 p:=by rw[Cw hb];unfold s7;rw[h]
theorem Kd {p:aG} {k:Nat} (hb:iA p=true) (h:first p.bD (fun s=> !bK s 0 (p.ah - 1))=none) (hw:first p.M (fun w=> !gj p w)=some k):gh p=⟨3,k⟩:=by rw[Kf hb h];unfold s8;rw[hw]
theorem Ke {p:aG} (hb:iA p=true) (h:first p.bD (fun s=> !bK s 0 (p.ah - 1))=none) (hw:first p.M (fun w=> !gj p w)=none):gh p=l4 p:=by rw[Kf hb h];unfold s8;rw[hw]
theorem Ka {p:aG} (h:p.bA.length≠p.M.length):l4 p=⟨4,0⟩:=by unfold l4;rw[if_neg h]
theorem J9 {p:aG} {k:Nat} (h:p.bA.length=p.M.length) (hb:first p.bA (fun b=>decide (b.length≠p.M.length))=some k):l4 p=⟨4,k⟩:=by unfold l4;rw[if_pos h,hb]
theorem J_ {p:aG} {k:Nat} (h:p.bA.length=p.M.length) (hb:first p.bA (fun b=>decide (b.length≠p.M.length))=none) (ag:first (List.range p.M.length) (fun i=>(List.range p.M.length).any fun k=>mf p i k)=some k):l4 p=⟨5,k⟩:=by
 unfold l4;rw[if_pos h,hb];simp only;rw[ag]
theorem J8 {p:aG} (h:p.bA.length=p.M.length) (hb:first p.bA (fun b=>decide (b.length≠p.M.length))=none) (ag:first (List.range p.M.length) (fun i=>(List.range p.M.length).any fun k=>mf p i k)=none):l4 p=⟨0,0⟩:=by
 unfold l4;rw[if_pos h,hb];simp only;rw[ag]
theorem q5 {p:aG}:iA p=true↔(1≤p.ah∧p.ah≤60)∧(1≤p.dV∧p.dV≤300)∧p.bD.length≤40∧p.M.length≤100:=by
 unfold iA bK;simp[and_assoc]
theorem As {n:Nat} {q:Nat→Bool} {v:Int} (aN:0≤v) (hv:v<n) (h: ∀j:Int,0≤j→j<v→q j.toNat=false) (ag:q v.toNat=true):first (List.range n) q=some v.toNat:=by
 unfold first
 rw[List.findIdx?_eq_some_iff_getElem]
 refine⟨by simp;omega,by simpa using ag,fun j aC=> ?_⟩
 have:=h j (by omega) (by omega)
 simpa using this
theorem Ar {n:Nat} {q:Nat→Bool} (h: ∀j:Int,0≤j→j<n→q j.toNat=false):first (List.range n) q=none:=by
 unfold first
 rw[List.findIdx?_eq_none_iff]
 intro x hx
 have:=h x (by omega) (by have:=List.mem_range.1 hx;omega)
 simpa using this
theorem En {n:Nat} {q:Nat→Bool} {v:Int} (aN:0≤v) (hv:v<n) (h:q v.toNat=true):(List.range n).any q=true:=by
 rw[List.any_eq_true];exact⟨v.toNat,List.mem_range.2 (by omega),h⟩
theorem JC {n:Nat} {q:Nat→Bool} (h: ∀j:Int,0≤j→j<n→q j.toNat=false):(List.range n).any q=false:=by
 rw[List.any_eq_false]
 intro x hx
 have:=h x (by omega) (by have:=List.mem_range.1 hx;omega)
 simp only[Int.toNat_natCast] at this
 rw[this];simp
theorem l2 {α:Type} [Inhabited α] {xs:List α} {i:Int} (h:0≤i):nth xs (i.toNat:Int)=nth xs i:=by rw[Int.toNat_of_nonneg h]
theorem Vl (p:aG) (x:b5):((decide (x.br<0)) || ((decide (x.br ≥ (p.bD.length:Int))) || ((x.bJ !=1)&&(x.bJ !=2))))=l0 p x:=by
 unfold l0
 rw[←CS,Bool.or_assoc]
 congr 2
 rw[Bool.eq_iff_iff]
 simp[bK]
 omega
def mP (p:aG) (w:Way) (j:Int):Bool:=l0 p (nth (b_ w) j) || (decide (j<(w.aQ.length:Int))&& !(fq w.ah (nth p.bD (nth (b_ w) j).br)))
theorem JE {w:Way} {j:Int} (aN:0≤j) (h:j<w.aQ.length):nth (b_ w) j=nth w.aQ j:=by
 rw[hZ (xs:=w.aQ) (by omega),hZ (by unfold b_;rw[List.length_append];omega)]
 unfold b_
 rw[List.getElem_append_left]
theorem Qn {p:aG} {w:Way} (h:gj p w=true): ∀l∈[w.ah,w.bV,w.c9],fG l p.ah=true:=by
 obtain⟨-,h1,h2,aJ,-⟩:=na.1 h
 intro l aE
 simp only[List.mem_cons,List.not_mem_nil,or_false] at aE
 rcases aE with rfl | rfl | rfl
 ·exact h1
 ·exact h2
 ·exact aJ
theorem Qo {p:aG} {w:Way} (h:gj p w=true) {j:Int} (aN:0≤j) (aC:j.toNat<(b_ w).length):mP p w j=false:=by
 obtain⟨-,-,-,-,bj,cP,-,eg,-⟩:=na.1 h
 have hm:=ek aC
 have hb:l0 p (nth (b_ w) j)=false:=by
  rw[uW]
  unfold b_ at hm ⊢
  rcases List.mem_append.1 hm with hm | hm
  ·rw[(kG.1 bj).2.1 _ hm];rfl
  ·rw[(kG.1 cP).2.1 _ hm];rfl
 unfold mP
 rw[hb,Bool.false_or]
 by_cases aE:j<(w.aQ.length:Int)
 ·rw[JE aN aE]
  have:fq w.ah (nth p.bD (nth w.aQ j).br)=true:=eg _ (ek (by omega))
  rw[this];simp
 ·simp[aE]
theorem Qm {p:aG} {w:Way} (h1:w.ah≠[]) (aE: ∀l∈[w.ah,w.bV,w.c9],fG l p.ah=true) (aJ:w.aQ.length≤30) (bj:w.bI.length≤30)
  (ap: ∀j:Int,0≤j→j<(b_ w).length→mP p w j=false):((!(dup ((b_ w).map (·.br))))&&(!(meets w.ah w.bV)))=gj p w:=by
 have hb: ∀x∈b_ w,(bK x.br 0 (p.bD.length - 1)&&bK x.bJ 1 2)=true:=fun x hx=>by
  have:=jY (q:=l0 p) (fun j bY dY=>by have:=ap j bY dY;unfold mP at this;exact(Bool.or_eq_false_iff.1 this).1) x hx
  rw[uW] at this
  simpa using this
 have hc: ∀x∈w.aQ,w.ah.contains (nth p.bD x.br)=true:=fun x hx=>by
  have:=jY (q:=fun x=> !(fq w.ah (nth p.bD x.br))) (fun j bY dY=>by
   have:=ap j bY (by unfold b_;rw[List.length_append];omega)
   unfold mP at this
   have:=(Bool.or_eq_false_iff.1 this).2
   rw[JE bY dY] at this
   simpa[dY] using this) x hx
  simp only[Bool.not_eq_false'] at this
  exact this
 rw[Bool.eq_iff_iff,na]
 simp only[Bool.and_eq_true,Bool.not_eq_true',dup,Bool.not_eq_false',decide_eq_true_eq]
 constructor
 ·rintro⟨aZ,hm⟩
  have pd:=Ci.1 aZ
  exact⟨h1,aE _ (by simp),aE _ (by simp),aE _ (by simp),kG.2 ⟨aJ,fun x hx=>hb x (by unfold b_;exact List.mem_append_left _ hx),pd.1⟩,kG.2 ⟨bj,fun x hx=>hb x (by unfold b_;exact List.mem_append_right _ hx),pd.2.1⟩,aZ,hc,hm⟩
 ·rintro⟨-,-,-,-,-,-,aZ,-,hm⟩
  exact⟨aZ,hm⟩
theorem Ew {p:aG} {i k:Int} (aN:0≤i) (h1:0≤k):(((nth (nth p.bA i) k) !=(nth (nth p.bA k) i)) || ((i !=k)&&((!(nth (nth p.bA i) k))&&(meets (nth p.M i).ah (nth p.M k).ah))))=mf p i.toNat k.toNat:=by
 unfold mf oY
 rw[Int.toNat_of_nonneg aN,Int.toNat_of_nonneg h1]
 have:(i !=k)=decide (i.toNat≠k.toNat):=by
  rw[Bool.eq_iff_iff];simp;omega
 rw[this,Bool.and_assoc]
theorem Wm (p:aG):((gh p).code==0)=ft p:=by
 have key:(gh p).code=0→(gh p).pos=0:=by
  unfold gh s7 s8 l4
  split
  ·split
   ·intro h;cases h
   ·split
    ·intro h;cases h
    ·split
     ·split
      ·intro h;cases h
      ·split
       ·intro h;cases h
       ·intro _;rfl
     ·intro h;cases h
  ·intro h;cases h
 unfold ft
 rw[Bool.eq_iff_iff]
 simp only[beq_iff_eq,decide_eq_true_eq]
 constructor
 ·intro h
  have:=key h
  cases ag:gh p with
  | mk c q=>rw[ag] at h this;simp at h this;rw[h,this]
 ·intro h;rw[h]
theorem Wl (p:aG):((gh p).code==0&&(gh p).pos==0)=ft p:=by
 unfold ft
 rw[Bool.eq_iff_iff]
 simp only[Bool.and_eq_true,beq_iff_eq,decide_eq_true_eq]
 constructor
 ·rintro⟨h1,h2⟩
  cases ag:gh p with
  | mk c q=>rw[ag] at h1 h2;simp at h1 h2;rw[h1,h2]
 ·intro h;rw[h];exact⟨rfl,rfl⟩
theorem Wk {p:aG} (h:ft p=true):iA p=true:=by
 cases hb:iA p with
 | true=>rfl
 | false=>unfold ft at h;rw[Cv hb] at h;simp at h
theorem Yi {p:aG} (h:(!decide (l9 p 1048576<0))=true):rr p:=by
 have h: ¬dG (vh p) 1048576<0:=by
  unfold l9 at h
  simp only[Bool.not_eq_true',decide_eq_false_iff_not] at h
  exact h
 rw[Jh (by omega)] at h
 unfold rr
 omega
def l8 (f:Frame):Prop:=f.aA.length≤1048576∧f.av.length≤1048576∧f.M.length≤1048576∧ ∀h∈f.M,h.U.length≤1048576
structure rQ (p:aG):Prop where
 cs:0≤p.ah∧p.ah≤60
 M:p.M.length≤100
 br:p.bD.length≤40
 ah: ∀w∈p.M,w.ah≠[]∧w.ah.length≤30∧ ∀x∈w.ah,0≤x∧x<p.ah
 bV: ∀w∈p.M,w.bV.length≤30∧ ∀x∈w.bV,0≤x∧x<p.ah
 c9: ∀w∈p.M,w.c9.length≤30∧ ∀x∈w.c9,0≤x∧x<p.ah
 aQ: ∀w∈p.M,w.aQ.length≤30∧w.bI.length≤30∧ ∀x∈b_ w,0≤x.br∧x.br<p.bD.length
 bD: ∀x∈p.bD,0≤x∧x<p.ah
structure n3 (p:aG) (f:Frame):Prop where
 aA:(f.aA.length:Int)=p.ah
 av:f.av.length=p.bD.length
 M:f.M.length=p.M.length
 U: ∀(i:Nat) (h:ab) (w:Way),f.M[i]?=some h→p.M[i]?=some w→h.U.length=w.ah.length
 aa: ∀h∈f.M,0≤h.aa∧h.aa≤h.U.length
def en (f:Frame) (x:Int):Bool:=nth f.aA x
def iT (f:Frame) (l:List Int):Bool:=l.any (en f)
def tr (f:Frame) (l:List Int):Prop:= ∀x∈l,0≤x∧x<f.aA.length
def fW (p:aG) (f:Frame) (i:Int):Bool:=
 (b_ (nth p.M i)).all (fun l=>decide (nth f.av l.br=⟨l.bJ,l.bJ⟩))&& !iT f (nth p.M i).ah&& !iT f (nth p.M i).bV
def s9 (p:aG) (f:Frame) (i:Int):Prop:=rQ p∧n3 p f∧0≤i∧i<p.M.length
def qJ (n:Nat):ab:=⟨0,0,List.replicate n false,false,0⟩
def cZ (p:aG) (i:Int):ab:=qJ (nth p.M i).ah.length
def G_ (p:aG) (i:Int):Prop:=rQ p∧0≤i∧i<p.M.length
def hT (s:List Int) (f:Frame) (U:List Bool):Nat→Nat→Nat
 | 0,g=>g
 | n+1,g=>if g<s.length∧U.getD g false=true∧en f (s.getD g 0)=false∧(g+1=s.length∨U.getD (g+1) false=true) then hT s f U n (g+1) else g
def kI (s:List Int) (f:Frame) (h:ab):ab:=
 let U:=List.zipWith (fun b x=>b || en f x) h.U s
 let g:=hT s f U s.length h.aa.toNat
 if g=s.length then qJ s.length else{h with U:=U,aa:=g}
def kn (p:aG) (f:Frame) (i:Nat):ab:=
 let h:=nth f.M i
 let s:=(nth p.M i).ah
 if h.au=0 then h else
 let h:=if h.au≠4∧en f (nth s 0)=true then{h with au:=4,ao:=0} else h
 let h:=if h.au=1∨h.au=2 then(if fW p f i=true then{h with au:=2,an:=true} else{h with au:=1}) else h
 if h.au=4 then kI s f h else h
def hz (p:aG):Nat→Frame→Frame
 | 0,f=>f
 | n+1,f=>let g:=hz p n f;{g with M:=g.M.set n (kn p g n)}
def kO (p:aG) (f:Frame):Frame:=hz p f.M.length f
def vJ (p:aG) (f:Frame):Prop:=rQ p∧n3 p f
structure cF (V:List ab) (ids:List Nat) (v:Int) (h:ab) (ws:List ab) (bs:List (List Bool)):Prop where
 ok:kV ws ids bs
 jb: ∀i j k:Nat,ids[i]?=some k→ids[j]?=some k→i=j
 lt:v.toNat<ws.length
 hd:view ws ids bs=V.set v.toNat h
 len: ∀b∈bs,b.length≤1048576
section
variable {V:List ab} {ids:List Nat} {v:Int} {h:ab} {ws:List ab} {bs:List (List Bool)}
theorem cF.gD (F:cF V ids v h ws bs):ws.length=ids.length∧v.toNat<ws.length:=⟨F.ok.len,F.lt⟩
theorem cF.pU (F:cF V ids v h ws bs):V.length=ws.length:=by
 have:=congrArg List.length F.hd
 rw[h9 F.ok,List.length_set] at this;exact this.symm
theorem cF.id (F:cF V ids v h ws bs):ids[v.toNat]?=some (nth ids v):=fg (by rw[←F.ok.len];exact F.lt)
theorem cF.nE (F:cF V ids v h ws bs):nth ids v<bs.length:=F.ok.lt _ _ F.id
theorem cF.row (F:cF V ids v h ws bs):h={nth ws v with U:=bs.getD (nth ids v) []}:=by
 have h1:=tB (bs:=bs) (fg F.lt) F.id
 rw[F.hd,List.getElem?_set_self (by rw[F.pU];exact F.lt)] at h1
 exact Option.some.inj h1
theorem cF.au (F:cF V ids v h ws bs):(nth ws v).au=h.au:=by rw[F.row]
theorem cF.aa (F:cF V ids v h ws bs):(nth ws v).aa=h.aa:=by rw[F.row]
theorem cF.an (F:cF V ids v h ws bs):(nth ws v).an=h.an:=by rw[F.row]
theorem cF.ao (F:cF V ids v h ws bs):(nth ws v).ao=h.ao:=by rw[F.row]
theorem cF.U (F:cF V ids v h ws bs):bs.getD (nth ids v) []=h.U:=by rw[F.row]
theorem cF.nh (F:cF V ids v h ws bs):(nth ws v).U.length=h.U.length:=by
 rw[←F.U];exact F.ok.U _ _ _ (fg F.lt) F.id
theorem cF.start (ok:kV ws ids bs) (jb: ∀i j k:Nat,ids[i]?=some k→ids[j]?=some k→i=j) (lt:v.toNat<ws.length) (hd:view ws ids bs=V) (len: ∀b∈bs,b.length≤1048576):cF V ids v (nth V v) ws bs:=by
 have aE:v.toNat<V.length:=by rw[←hd,h9 ok];exact lt
 exact⟨ok,jb,lt,by rw[hd,hZ aE];exact(List.set_getElem_self _).symm,len⟩
theorem cF.vI (F:cF V ids v h ws bs) (x:ab) (hx:x.U.length=h.U.length):cF V ids v {x with U:=h.U} (ws.set v.toNat x) bs where
 ok:=⟨by rw[List.length_set];exact F.ok.len,F.ok.lt,fun i id y h1 h2=>by
  rw[List.getElem?_set] at h1
  split at h1
  ·rename_i e;subst e
   rw[if_pos F.lt] at h1;cases h1
   rw[F.id] at h2;cases h2
   rw[hx,F.U]
  ·exact F.ok.U i id y h1 h2⟩
 jb:=F.jb
 lt:=by rw[List.length_set];exact F.lt
 hd:=by
  apply List.ext_getElem?
  intro j
  have aC:=congrArg (·[j]?) F.hd
  simp only[view,List.getElem?_zipWith,List.getElem?_set] at aC ⊢
  by_cases e:v.toNat=j
  ·subst e
   have hv:=F.pU
   have:=F.lt
   rw[if_pos rfl,if_pos rfl,if_pos this,if_pos (by omega),F.id]
   show some _=some _
   rw[F.U]
  ·rw[if_neg e] at aC ⊢
   rw[if_neg e];exact aC
 len:=F.len
theorem cF.setState (F:cF V ids v h ws bs) (x:Int):cF V ids v {h with au:=x} (ws.set v.toNat ({au:=x,aa:=(nth ws v).aa,U:=(nth ws v).U,an:=(nth ws v).an,ao:=(nth ws v).ao}:ab)) bs:=by
 have:=F.vI ({au:=x,aa:=(nth ws v).aa,U:=(nth ws v).U,an:=(nth ws v).an,ao:=(nth ws v).ao}:ab) F.nh
 simpa only[F.aa,F.an,F.ao] using this
theorem cF.K6 (F:cF V ids v h ws bs) (x:Int):cF V ids v {h with aa:=x} (ws.set v.toNat ({au:=(nth ws v).au,aa:=x,U:=(nth ws v).U,an:=(nth ws v).an,ao:=(nth ws v).ao}:ab)) bs:=by
 have:=F.vI ({au:=(nth ws v).au,aa:=x,U:=(nth ws v).U,an:=(nth ws v).an,ao:=(nth ws v).ao}:ab) F.nh
 simpa only[F.au,F.an,F.ao] using this
theorem cF.K9 (F:cF V ids v h ws bs) (x:Bool):cF V ids v {h with an:=x} (ws.set v.toNat ({au:=(nth ws v).au,aa:=(nth ws v).aa,U:=(nth ws v).U,an:=x,ao:=(nth ws v).ao}:ab)) bs:=by
 have:=F.vI ({au:=(nth ws v).au,aa:=(nth ws v).aa,U:=(nth ws v).U,an:=x,ao:=(nth ws v).ao}:ab) F.nh
 simpa only[F.au,F.aa,F.ao] using this
theorem cF.K_ (F:cF V ids v h ws bs) (x:Int):cF V ids v {h with ao:=x} (ws.set v.toNat ({au:=(nth ws v).au,aa:=(nth ws v).aa,U:=(nth ws v).U,an:=(nth ws v).an,ao:=x}:ab)) bs:=by
 have:=F.vI ({au:=(nth ws v).au,aa:=(nth ws v).aa,U:=(nth ws v).U,an:=(nth ws v).an,ao:=x}:ab) F.nh
 simpa only[F.au,F.aa,F.an] using this
theorem cF.C2 (F:cF V ids v h ws bs) (b:List Bool) (hb:b.length=h.U.length):cF V ids v {h with U:=b} ws (bs.set (nth ids v) b) where
 ok:=⟨F.ok.len,fun i id hi=>by rw[List.length_set];exact F.ok.lt i id hi,fun i id y h1 h2=>by
  rw[F.ok.U i id y h1 h2,List.getD_eq_getElem?_getD,List.getD_eq_getElem?_getD,List.getElem?_set]
  split
  ·rename_i e;subst e
   rw[if_pos F.nE,←List.getD_eq_getElem?_getD,F.U];exact hb.symm
  ·rfl⟩
 jb:=F.jb
 lt:=F.lt
 hd:=by
  apply List.ext_getElem?
  intro j
  have aC:=congrArg (·[j]?) F.hd
  simp only[view,List.getElem?_zipWith,List.getElem?_set] at aC ⊢
  by_cases e:v.toNat=j
  ·subst e
   have hv:=F.pU
   have:=F.lt
   rw[if_pos rfl,if_pos (by omega),F.id,fg F.lt]
   simp only[List.getD_eq_getElem?_getD,List.getElem?_set,if_pos F.nE]
   rw[F.row];simp
  ·rw[if_neg e] at aC ⊢
   rw[←aC]
   cases h1:ws[j]? with
   | none=>rfl
   | some y=>
    cases h2:ids[j]? with
    | none=>rfl
    | some id=>
     have b2:nth ids v≠id:=fun hid=>by
      have aJ:=F.id
      rw[hid] at aJ
      exact e (F.jb _ _ _ aJ h2)
     simp only[List.getD_eq_getElem?_getD,List.getElem?_set,if_neg b2]
 len:=fun x hx=>by
  rcases List.mem_or_eq_of_mem_set hx with hx | rfl
  ·exact F.len x hx
  ·rw[hb,←F.U,List.getD_eq_getElem?_getD,List.getElem?_eq_getElem F.nE];exact F.len _ (List.getElem_mem F.nE)
theorem cF.new (F:cF V ids v h ws bs) (x:ab) (hx:x.U.length≤1048576):cF V (ids.set v.toNat bs.length) v x (ws.set v.toNat x) (bs++[x.U]) where
 ok:=⟨by rw[List.length_set,List.length_set];exact F.ok.len,fun i id hi=>by
   rw[List.getElem?_set] at hi
   rw[List.length_append,List.length_singleton]
   split at hi
   ·split at hi
    ·cases hi;omega
    ·cases hi
   ·have:=F.ok.lt i id hi;omega,fun i id y h1 h2=>by
   rw[List.getElem?_set] at h1 h2
   split at h1
   ·rename_i e;subst e
    have:=F.ok.len
    have:=F.lt
    rw[if_pos F.lt] at h1;rw[if_pos rfl,if_pos (by omega)] at h2
    cases h1;cases h2;simp
   ·rename_i e
    rw[if_neg e] at h2
    rw[F.ok.U i id y h1 h2,List.getD_eq_getElem?_getD,List.getD_eq_getElem?_getD,List.getElem?_append_left (F.ok.lt i id h2)]⟩
 jb:=fun i j k hi aC=>by
  rw[List.getElem?_set] at hi aC
  have aR: ∀q,ids[q]?≠some bs.length:=fun q ag=>by have:=F.ok.lt q _ ag;omega
  split at hi
  ·rename_i e;subst e
   split at hi
   ·cases hi
    split at aC
    ·rename_i e;exact e
    ·exact absurd aC (aR j)
   ·cases hi
  ·split at aC
   ·rename_i e;subst e
    split at aC
    ·cases aC;exact absurd hi (aR i)
    ·cases aC
   ·exact F.jb i j k hi aC
 lt:=by rw[List.length_set];exact F.lt
 hd:=by
  apply List.ext_getElem?
  intro j
  have aC:=congrArg (·[j]?) F.hd
  simp only[view,List.getElem?_zipWith,List.getElem?_set] at aC ⊢
  by_cases e:v.toNat=j
  ·subst e
   have hv:=F.pU
   have:=F.lt
   have:=F.ok.len
   rw[if_pos rfl,if_pos rfl,if_pos rfl,if_pos F.lt,if_pos (by omega),if_pos (by omega)]
   simp
  ·rw[if_neg e] at aC ⊢
   rw[if_neg e,if_neg e,←aC]
   cases h1:ws[j]? with
   | none=>rfl
   | some y=>
    cases h2:ids[j]? with
    | none=>rfl
    | some id=>
     simp only
     rw[List.getD_eq_getElem?_getD,List.getD_eq_getElem?_getD,List.getElem?_append_left (F.ok.lt j id h2)]
 len:=fun b hb=>by
  rcases List.mem_append.1 hb with hb | hb
  ·exact F.len b hb
  ·rw[List.mem_singleton.1 hb];exact hx
end
theorem Fo (ws:List ab):kV ws (List.range ws.length) (ws.map ab.U)∧(∀i j k:Nat,(List.range ws.length)[i]?=some k→(List.range ws.length)[j]?=some k→i=j)∧view ws (List.range ws.length) (ws.map ab.U)=ws:=by
 refine⟨⟨by simp,fun i id h=> ?_,fun i id h h1 h2=> ?_⟩,fun i j k h1 h2=> ?_,?_⟩
 ·obtain⟨hi,rfl⟩:=List.getElem?_eq_some_iff.1 h
  simpa using hi
 ·obtain⟨hi,rfl⟩:=List.getElem?_eq_some_iff.1 h2
  simp[h1]
 ·obtain⟨hi,rfl⟩:=List.getElem?_eq_some_iff.1 h1
  obtain⟨aC,e⟩:=List.getElem?_eq_some_iff.1 h2
  simpa using e.symm
 ·apply List.ext_getElem?
  intro j
  unfold view
  rw[List.getElem?_zipWith]
  rcases Nat.lt_or_ge j ws.length with aC | aC
  ·rw[List.getElem?_range aC,List.getElem?_eq_getElem aC]
   simp[aC]
  ·rw[List.getElem?_eq_none aC]
theorem yG (p:aG) (f:Frame): ∀n,(hz p n f).ok=f.ok∧(hz p n f).aA=f.aA∧(hz p n f).av=f.av
 | 0=>⟨rfl,rfl,rfl⟩
 | n+1=>yG p f n
theorem FV {s:List Int} {f:Frame} {U:List Bool}: ∀(n g:Nat),g≤s.length→g≤hT s f U n g∧hT s f U n g≤s.length
 | 0,g,h=>⟨Nat.le_refl _,h⟩
 | n+1,g,h=>by
  unfold hT
  split
  ·rename_i hc
   have:=FV (f:=f) (U:=U) n (g+1) hc.1
   exact⟨by omega,this.2⟩
  ·exact⟨Nat.le_refl _,h⟩
theorem Wc {s:List Int} {f:Frame} {h:ab} (hb:h.U.length=s.length) (aI:0≤h.aa∧h.aa≤h.U.length):(kI s f h).U.length=s.length∧0≤(kI s f h).aa∧(kI s f h).aa≤(kI s f h).U.length:=by
 unfold kI
 simp only
 have aE:(List.zipWith (fun b x=>b || en f x) h.U s).length=s.length:=by rw[List.length_zipWith];omega
 have bH:=(FV (s:=s) (f:=f) (U:=List.zipWith (fun b x=>b || en f x) h.U s) s.length h.aa.toNat (by omega)).2
 split
 ·simp[qJ]
 ·exact⟨aE,Int.natCast_nonneg _,by simp only;rw[aE];omega⟩
theorem Zs {p:aG} {f:Frame} {i:Nat} (hb:(nth f.M i).U.length=(nth p.M i).ah.length) (aI:0≤(nth f.M i).aa∧(nth f.M i).aa≤(nth f.M i).U.length):
  (kn p f i).U.length=(nth p.M i).ah.length∧0≤(kn p f i).aa∧(kn p f i).aa≤(kn p f i).U.length:=by
 unfold kn
 simp only
 split
 ·exact⟨hb,aI⟩
 ·have h1: ∀(c:Prop) [Decidable c] (x y:ab),x.U=y.U→x.aa=y.aa→(if c then x else y).U=y.U∧(if c then x else y).aa=y.aa:=fun c _ x y bi e2=>by
   split
   ·exact⟨bi,e2⟩
   ·exact⟨rfl,rfl⟩
  generalize gC:(if(nth f.M i).au≠4∧en f (nth (nth p.M i).ah 0)=true then{nth f.M i with au:=4,ao:=0} else nth f.M i)=A
  have j9:A.U=(nth f.M i).U∧A.aa=(nth f.M i).aa:=by rw[←gC];exact h1 _ _ _ rfl rfl
  generalize cV:(if A.au=1∨A.au=2 then(if fW p f i=true then{A with au:=2,an:=true} else{A with au:=1}) else A)=B
  have AH:B.U=(nth f.M i).U∧B.aa=(nth f.M i).aa:=by
   rw[←cV,←j9.1,←j9.2]
   exact h1 _ _ _ (by split<;>rfl) (by split<;>rfl)
  have bi:B.U.length=(nth p.M i).ah.length:=by rw[AH.1];exact hb
  have e2:0≤B.aa∧B.aa≤B.U.length:=by rw[AH.1,AH.2];exact aI
  split
  ·exact Wc bi e2
  ·exact⟨bi,e2⟩
theorem yF {p:aG} {f:Frame} (h:n3 p f): ∀n,n3 p (hz p n f)
 | 0=>h
 | n+1=>by
  have bx:=yF h n
  show n3 p {hz p n f with M:=(hz p n f).M.set n (kn p (hz p n f) n)}
  have key:n<(hz p n f).M.length→(kn p (hz p n f) n).U.length=(nth p.M n).ah.length∧0≤(kn p (hz p n f) n).aa∧(kn p (hz p n f) n).aa≤(kn p (hz p n f) n).U.length:=fun ap=>by
   have hw:=bx.M
   have h1:(hz p n f).M[n]?=some (nth (hz p n f).M n):=by rw[iM ap];exact List.getElem?_eq_getElem ap
   have h2:p.M[n]?=some (nth p.M n):=by rw[iM (by omega)];exact List.getElem?_eq_getElem (by omega)
   exact Zs (bx.U n _ _ h1 h2) (bx.aa _ (List.mem_of_getElem? h1))
  refine⟨bx.aA,bx.av,by rw[List.length_set];exact bx.M,fun i x w h1 h2=> ?_,fun x hx=> ?_⟩
  ·replace h1:((hz p n f).M.set n (kn p (hz p n f) n))[i]?=some x:=h1
   rw[List.getElem?_set] at h1
   split at h1
   ·rename_i e;subst e
    split at h1
    ·rename_i ap
     cases h1
     have hw:=bx.M
     rw[(key ap).1,iM (by omega)]
     rw[List.getElem?_eq_getElem (by omega)] at h2
     cases h2;rfl
    ·cases h1
   ·exact bx.U i x w h1 h2
  ·rcases List.mem_or_eq_of_mem_set hx with hx | rfl
   ·exact bx.aa x hx
   ·by_cases ap:n<(hz p n f).M.length
    ·exact(key ap).2
    ·rw[List.set_eq_of_length_le (by omega)] at hx
     exact bx.aa _ hx
theorem rl (p:aG) (f:Frame): ∀n,(hz p n f).M.length=f.M.length
 | 0=>rfl
 | n+1=>by show((hz p n f).M.set n _).length=_;rw[List.length_set];exact rl p f n
theorem Kh {p:aG} {f g:Frame} {i:Int} (h1:f.aA=g.aA) (h2:f.av=g.av):fW p f i=fW p g i:=by
 unfold fW iT en
 rw[h1,h2]
def hO (s:List Int) (f:Frame) (b:List Bool) (v:Nat):List Bool:=List.zipWith (fun b x=>b || en f x) (b.take v) (s.take v)++b.drop v
theorem DT {s:List Int} {f:Frame} {b:List Bool} {v:Nat} (aE:b.length=s.length) (hv:v≤s.length):(hO s f b v).length=b.length:=by
 unfold hO
 rw[List.length_append,List.length_zipWith,List.length_take,List.length_take,List.length_drop];omega
theorem MO (s:List Int) (f:Frame) (b:List Bool):hO s f b 0=b:=by simp[hO]
theorem MQ {s:List Int} {f:Frame} {b:List Bool} {v:Nat} (aE:b.length=s.length) (hv:s.length≤v):hO s f b v=List.zipWith (fun b x=>b || en f x) b s:=by
 unfold hO
 rw[List.take_of_length_le (by omega),List.take_of_length_le hv,List.drop_of_length_le (by omega),List.append_nil]
theorem MP {s:List Int} {f:Frame} {b:List Bool} {v:Nat} (aE:b.length=s.length) (hv:v<s.length):nth (hO s f b v) v=b[v]:=by
 rw[iM (by rw[DT aE (by omega)];omega)]
 unfold hO
 rw[List.getElem_append_right (by rw[List.length_zipWith,List.length_take,List.length_take];omega)]
 simp only[List.length_zipWith,List.length_take,List.getElem_drop]
 congr 1;omega
theorem MR {s:List Int} {f:Frame} {b:List Bool} {v:Nat} (aE:b.length=s.length) (hv:v<s.length):(hO s f b v).set v (b[v] || en f s[v])=hO s f b (v+1):=by
 unfold hO
 have hlen:(List.zipWith (fun b x=>b || en f x) (b.take v) (s.take v)).length=v:=by rw[List.length_zipWith,List.length_take,List.length_take];omega
 rw[List.set_append_right _ _ (by omega),hlen,Nat.sub_self,List.take_succ_eq_append_getElem (by omega),List.take_succ_eq_append_getElem hv,List.zipWith_append (by rw[List.length_take,List.length_take];omega),List.append_assoc]
 congr 1
 rw[List.drop_eq_getElem_cons (by omega:v<b.length)]
 rfl
def kA (s:List Int) (f:Frame) (U:List Bool) (g:Int):Bool:=
 decide (g<(s.length:Int))&&(nth U g&&((!(nth f.aA (nth s g)))&&((g==IntKind.i64.wrap ((s.length:Int) - 1)) || nth U (IntKind.i64.wrap (g+1)))))
theorem FR {s:List Int} {f:Frame} {U:List Bool} {g:Nat} (hs:s.length≤1048576) (aI:g≤s.length):
  kA s f U g=true↔g<s.length∧U.getD g false=true∧en f (s.getD g 0)=false∧(g+1=s.length∨U.getD (g+1) false=true):=by
 unfold kA
 rw[je (by omega) (by omega),je (by omega) (by omega)]
 have bi:nth U (g:Int)=U.getD g false:=rfl
 have e2:nth U ((g:Int)+1)=U.getD (g+1) false:=rfl
 have cE:nth s (g:Int)=s.getD g 0:=rfl
 rw[bi,e2,cE]
 simp only[Bool.and_eq_true,Bool.or_eq_true,decide_eq_true_eq,Bool.not_eq_true',beq_iff_eq]
 constructor
 ·rintro⟨h1,h2,aJ,bj⟩;exact⟨by omega,h2,aJ,bj.imp (fun h=>by omega) _root_.id⟩
 ·rintro⟨h1,h2,aJ,bj⟩;exact⟨by omega,h2,aJ,bj.imp (fun h=>by omega) _root_.id⟩
def sm (s:List Int) (f:Frame) (U:List Bool) (g0 g:Int):Prop:=0≤g∧g≤s.length∧hT s f U s.length g0.toNat=hT s f U (s.length - g.toNat) g.toNat
theorem AE {s:List Int} {f:Frame} {U:List Bool} {n g:Nat} (h: ¬(g<s.length∧U.getD g false=true∧en f (s.getD g 0)=false∧(g+1=s.length∨U.getD (g+1) false=true))):hT s f U n g=g:=by
 cases n with
 | zero=>rfl
 | succ n=>unfold hT;rw[if_neg h]
theorem FU {s:List Int} {f:Frame} {U:List Bool}: ∀(n m g:Nat),s.length≤n+g→s.length≤m+g→hT s f U n g=hT s f U m g
 | 0,m,g,h1,h2=>by
  rw[AE (n:=m) fun h=>by omega];rfl
 | n+1,0,g,h1,h2=>by rw[AE (n:=n+1) fun h=>by omega];rfl
 | n+1,m+1,g,h1,h2=>by
  unfold hT
  split
  ·exact FU n m (g+1) (by omega) (by omega)
  ·rfl
theorem FS {s:List Int} {f:Frame} {U:List Bool} {g:Int} (aN:0≤g) (h1:g≤s.length):sm s f U g g:=⟨aN,h1,FU _ _ _ (by omega) (by omega)⟩
theorem FT {s:List Int} {f:Frame} {U:List Bool} {g0 g:Int} (hs:s.length≤1048576) (h:sm s f U g0 g) (hc:kA s f U g=true):sm s f U g0 (IntKind.i64.wrap (g+1))∧g<s.length:=by
 obtain⟨aN,h1,h2⟩:=h
 obtain⟨k,rfl⟩:=Int.eq_ofNat_of_zero_le aN
 have hc:=(FR hs (by omega)).1 hc
 rw[je (by omega) (by omega)]
 refine⟨⟨by omega,by omega,?_⟩,by omega⟩
 rw[h2]
 simp only[Int.toNat_natCast]
 rw[show((k:Int)+1).toNat=k+1 by omega,show s.length - k=(s.length - (k+1))+1 by omega]
 conv=>lhs;unfold hT
 rw[if_pos hc]
theorem AD {s:List Int} {f:Frame} {U:List Bool} {g0 g:Int} (hs:s.length≤1048576) (h:sm s f U g0 g) (hc:kA s f U g=false):(hT s f U s.length g0.toNat:Int)=g:=by
 obtain⟨aN,h1,h2⟩:=h
 obtain⟨k,rfl⟩:=Int.eq_ofNat_of_zero_le aN
 rw[h2]
 simp only[Int.toNat_natCast]
 rw[AE fun bH=>by rw[(FR hs (by omega)).2 bH] at hc;cases hc]
def C4 (p:aG) (f:Frame) (bs:List (List Bool)) (ids:List Nat) (v:Int) (ws:List ab):Prop:=
 b4 f.M.length (fun _=>false) v∧kV ws ids bs∧(∀i j k:Nat,ids[i]?=some k→ids[j]?=some k→i=j)∧view ws ids bs=(hz p v.toNat f).M∧ ∀b∈bs,b.length≤1048576
def cO (p:aG) (f:Frame) (v:Int):Frame:=hz p v.toNat f
def cs (p:aG) (v:Int):List Int:=(nth p.M v).ah
def gi (p:aG) (f:Frame) (v:Int):ab:=
 let G:=cO p f v
 let h:=nth G.M v
 if h.au≠4∧en G (nth (cs p v) 0)=true then{h with au:=4,ao:=0} else h
def eV (p:aG) (f:Frame) (v:Int):ab:=
 let h:=gi p f v
 if h.au=1∨h.au=2 then(if fW p (cO p f v) v=true then{h with au:=2,an:=true} else{h with au:=1}) else h
def ng (p:aG) (f:Frame) (v:Int):List Bool:=List.zipWith (fun b x=>b || en (cO p f v) x) (eV p f v).U (cs p v)
theorem Mz {p:aG} {f:Frame} {v:Int} (aN:0≤v):kn p (cO p f v) v.toNat=if(nth (cO p f v).M v).au=0 then nth (cO p f v).M v else if(eV p f v).au=4 then kI (cs p v) (cO p f v) (eV p f v) else eV p f v:=by
 unfold kn eV gi cs
 rw[l2 aN,l2 aN,Int.toNat_of_nonneg aN]
theorem pG {p:aG} {f:Frame} {v:Int}:(gi p f v).U=(nth (cO p f v).M v).U∧(gi p f v).aa=(nth (cO p f v).M v).aa:=by
 unfold gi;simp only;split<;>exact⟨rfl,rfl⟩
theorem yf {p:aG} {f:Frame} {v:Int}:(eV p f v).U=(nth (cO p f v).M v).U∧(eV p f v).aa=(nth (cO p f v).M v).aa:=by
 rw[←pG.1,←pG.2]
 unfold eV;simp only;split
 ·split<;>exact⟨rfl,rfl⟩
 ·exact⟨rfl,rfl⟩
theorem rk {p:aG} {f:Frame} {v:Int} {h:ab} {ws:List ab} {ids:List Nat} {bs:List (List Bool)} (ap:(f.M.length:Int)≤4611686018427387904) (aV:b4 f.M.length (fun _=>false) v) (hv:decide (v<(f.M.length:Int))=true)
  (F:cF (cO p f v).M ids v h ws bs) (bH:h=kn p (cO p f v) v.toNat):C4 p f bs ids (IntKind.i64.wrap (v+1)) ws∧cn f.M.length (IntKind.i64.wrap (v+1))<cn f.M.length v:=by
 have a6:=cX ap aV hv rfl
 refine⟨⟨a6.1,F.ok,F.jb,?_,F.len⟩,a6.2⟩
 have aN:=aV.1
 have hv:v<(f.M.length:Int):=by simpa using hv
 rw[kT ap aN hv,show(v+1).toNat=v.toNat+1 by omega,F.hd,bH]
 rfl
def Ha (j:Int) (k:Bool) (o:List Bool) (q:List b8) (w:List ab) (i:List Nat) (b:List (List Bool)):Prop:=ie w i b∧0≤j∧j<w.length
def uR (j:Int) (k:Bool) (o:List Bool) (q:List b8) (w:List ab) (i:List Nat) (b:List (List Bool)) (jQ:List Bool) (vn:List b8) (w':List ab) (iI:List Nat) (bS:List (List Bool)):Prop:=
 ie w' iI bS∧view w' iI bS=(view w i b).set j.toNat (qJ (nth (view w i b) j).U.length)
def cy (k:Bool) (o:List Bool) (q:List b8) (w:List ab) (i:List Nat) (b:List (List Bool)):Frame:=⟨k,o,q,view w i b⟩
def J6 (s:Way) (j:Int) (k:Bool) (o:List Bool) (q:List b8) (w:List ab) (i:List Nat) (b:List (List Bool)):Prop:=
 ie w i b∧0≤j∧j<w.length∧s.ah.length≤1048576∧(∀x∈s.ah,0≤x∧x<o.length)∧(nth (view w i b) j).U.length=s.ah.length∧0≤(nth (view w i b) j).aa∧(nth (view w i b) j).aa≤s.ah.length
def ve (s:Way) (j:Int) (k:Bool) (o:List Bool) (q:List b8) (w:List ab) (i:List Nat) (b:List (List Bool)) (jQ:List Bool) (vn:List b8) (w':List ab) (iI:List Nat) (bS:List (List Bool)):Prop:=
 ie w' iI bS∧view w' iI bS=(view w i b).set j.toNat (kI s.ah (cy k o q w i b) (nth (view w i b) j))
def K8 (p:aG) (k:Bool) (o:List Bool) (q:List b8) (w:List ab) (i:List Nat) (b:List (List Bool)):Prop:=ie w i b∧vJ p (cy k o q w i b)
def yE (p:aG) (k:Bool) (o:List Bool) (q:List b8) (w:List ab) (i:List Nat) (b:List (List Bool)) (jQ:List Bool) (vn:List b8) (w':List ab) (iI:List Nat) (bS:List (List Bool)):Prop:=
 ie w' iI bS∧view w' iI bS=(kO p (cy k o q w i b)).M
def K4 (f g:Frame):Prop:=f.M.length=g.M.length∧l8 f∧l8 g∧ ∀(i:Nat) (x y:ab),f.M[i]?=some x→g.M[i]?=some y→x.U.length=y.U.length
def lC (f g:Frame):Bool:=decide (f.M=g.M)
def Gp (p:aG) (f:Frame) (i:Int):Prop:=rQ p∧l8 f∧f.M.length=p.M.length∧0≤i∧i<p.M.length
def fE (p:aG) (f:Frame) (i:Int):Bool:=
 let h:=nth f.M i
 let n:=(nth p.M i).ah.length
 bK h.au 0 4&&decide (h.U.length=n)&&bK h.aa 0 ((n:Int) - 1)&&(decide (h.au=4) || (decide (h.aa=0)&&h.U.all (fun b=> !b)))&&(h.U.take h.aa.toNat).all (fun b=>b)&&
 (if h.au=3 then h.an&&bK h.ao 1 p.dV else decide (h.ao=0)&&(decide (h.au≠0) || !h.an)&&(decide (h.au≠2) || h.an))
def zj (p:aG) (f:Frame):Bool:=(List.range f.M.length).all fun i=>(List.range f.M.length).all fun k=>decide (i=k) || !oY p i k || decide ((nth f.M i).au=0) || decide ((nth f.M k).au=0)
def gd (p:aG) (f:Frame):Bool:=
 ft p&&f.ok&&decide ((f.aA.length:Int)=p.ah)&&decide (f.av.length=p.bD.length)&&decide (f.M.length=p.M.length)&&
 f.av.all (fun x=>bK x.b1 1 2&&bK x.aQ 0 2)&&(List.range f.M.length).all (fun i=>fE p f i)&&zj p f&&lC f (kO p f)
def la (p:aG) (f:Frame):Prop:=l8 f
theorem so {xs:List Bool} {b:Bool}:hF xs b=true↔b∈xs:=by unfold hF;simp
theorem Si (xs:List Bool) (x:Bool):(decide (ot xs x ≥ 0))=hF xs x:=by
 unfold ot
 cases h:first xs (fun y=>x==y) with
 | none=>
  unfold first at h
  rw[List.findIdx?_eq_none_iff] at h
  have:hF xs x=false:=by
   rw[←Bool.not_eq_true,so]
   intro hm
   have:=h x hm
   simp at this
  rw[this];rfl
 | some i=>
  unfold first at h
  rw[List.findIdx?_eq_some_iff_getElem] at h
  obtain⟨hi,hx,_⟩:=h
  have:hF xs x=true:=by
   rw[so]
   have hx:x=xs[i]:=by simpa using hx
   rw[hx];exact List.getElem_mem hi
  rw[this]
  show decide ((i:Int) ≥ 0)=true
  simp
def rf (a b:Frame):Bool:=eqv a.aA b.aA&&eqv a.av b.av&&eqv a.M b.M
def sd (a b:List ab) (_:Unit):Bool:=eqv a b
def nH (f:Frame) (l:b5):Bool:=((nth f.av l.br).b1 !=l.bJ) || ((nth f.av l.br).aQ !=l.bJ)
def Kg (p:aG) (f:Frame) (i:Int):Prop:= ∀l∈b_ (nth p.M i),nH f l=false
theorem CA (p:aG) (f:Frame) (i:Int):fW p f i=((b_ (nth p.M i)).all (fun l=> !nH f l)&& !iT f (nth p.M i).ah&& !iT f (nth p.M i).bV):=by
 have ag: ∀l:b5,decide (nth f.av l.br=⟨l.bJ,l.bJ⟩)= !nH f l:=fun l=>by
  unfold nH
  rcases nth f.av l.br with⟨x,y⟩
  rw[Bool.eq_iff_iff];simp
 unfold fW
 simp only[ag]
theorem DR {α:Type} {x y:α} {v:Int} (aN:0≤v) (h1:v.toNat<[x,y].length):v=0∨v=1:=by simp at h1;omega
theorem ie.tR {w:List ab} {i:List Nat} {b:List (List Bool)} {j:Int} (F:ie w i b) (h:j.toNat<w.length):cF (view w i b) i j (nth (view w i b) j) w b:=cF.start F.ok F.jb h rfl F.len
section
variable {V:List ab} {ids cB:List Nat} {v:Int} {h x:ab} {ws lG:List ab} {bs bs':List (List Bool)}
theorem cF.G (F:cF V ids v h ws bs):ie ws ids bs:=⟨F.ok,F.jb,F.len⟩
theorem cF.u_ (F:cF V ids v h ws bs):nth (view ws ids bs) v=h:=by
 rw[hZ (by rw[h9 F.ok];exact F.lt)]
 simp only[F.hd,List.getElem_set_self]
theorem cF.again (F:cF V ids v h ws bs) (G:ie lG cB bs') (e:view lG cB bs'=(view ws ids bs).set v.toNat x):cF V cB v x lG bs' where
 ok:=G.ok
 jb:=G.jb
 lt:=by
  have:=congrArg List.length e
  rw[h9 G.ok,List.length_set,h9 F.ok] at this
  have:=F.lt;omega
 hd:=by rw[e,F.hd,List.set_set]
 len:=G.len
end
theorem Wd {s:List Int} {f g:Frame} {h:ab} (e:f.aA=g.aA):kI s f h=kI s g h:=by
 have aB:en f=en g:=by funext x;unfold en;rw[e]
 have aI: ∀(U:List Bool) (n q:Nat),hT s f U n q=hT s g U n q:=fun U n=>by
  induction n with
  | zero=>intro q;rfl
  | succ n bx=>intro q;unfold hT;rw[aB,bx]
 unfold kI
 simp only[aB,aI]
def kH (s:List Int) (f:Frame) (h:ab):List Bool:=List.zipWith (fun b x=>b || en f x) h.U s
theorem J5 (s:List Int) (f:Frame) (h:ab):kI s f h=if hT s f (kH s f h) s.length h.aa.toNat=s.length then qJ s.length else{h with U:=kH s f h,aa:=hT s f (kH s f h) s.length h.aa.toNat}:=rfl
def We (s:List Int) (f:Frame) (V:List ab) (ids:List Nat) (j:Int) (ws:List ab) (bs:List (List Bool)) (k:Int):Prop:=
 b4 s.length (fun _=>false) k∧cF V ids j {nth V j with U:=hO s f (nth V j).U k.toNat} ws bs
def Wf (s:List Int) (f:Frame) (V:List ab) (ids:List Nat) (j:Int) (bs:List (List Bool)) (ws:List ab):Prop:=
 ∃g,sm s f (kH s f (nth V j)) (nth V j).aa g∧cF V ids j {nth V j with U:=kH s f (nth V j),aa:=g} ws bs
theorem Zw {s:List Int} {f:Frame} {U:List Bool} {g:Int} (hs:s.length≤1048576) (h:decide (g<(s.length:Int))=true):
  ((!(nth U g)) || ((nth f.aA (nth s g)) || ((decide (g<(IntKind.i64.wrap ((s.length:Int) - 1))))&&(!(nth U (IntKind.i64.wrap (g+1)))))))= !kA s f U g:=by
 unfold kA
 rw[h,Bool.true_and,je (n:=(s.length:Int) - 1) (by omega) (by omega)]
 have:(g==(s.length:Int) - 1)= !decide (g<(s.length:Int) - 1):=by
  have h:g<(s.length:Int):=by simpa using h
  rw[Bool.eq_iff_iff];simp;omega
 rw[this]
 cases nth U g<;>cases nth f.aA (nth s g)<;>cases decide (g<(s.length:Int) - 1)<;>cases nth U (IntKind.i64.wrap (g+1))<;>rfl
def mg:List (Nat×TV)→Bool
 | []=>true
 | (k,_)::r=>match Nat.ble 1000010 k&&Nat.blt k 1000000000000 with
  | true=>mg r
  | false=>false
theorem wD {l:List (Nat×TV)} (h:mg l=true) {k:Nat} (hk:k<1000010∨1000000000000≤k): ∀v,(k,v) ∉ l:=by
 induction l with
 | nil=>intro v hv;cases hv
 | cons p r bx=>
  obtain⟨a,w⟩:=p
  unfold mg at h
  split at h
  ·rename_i aL
   rw[Bool.and_eq_true,Nat.blt_eq] at aL
   intro v hv
   rcases List.mem_cons.1 hv with e | hv
   ·cases e;have:=Nat.le_of_ble_eq_true aL.1;have:=aL.2;omega
   ·exact bx h v hv
  ·cases h
def TS.add (s:TS) (l:List (Nat×TV)) (vs:List (Nat×Nat)) (aU:Nat):TS:=⟨l++s.T,s.B,vs,aU⟩
theorem TS.gG (s:TS) (l:List (Nat×TV)) (vs:List (Nat×Nat)) (aU k:Nat):(s.add l vs aU).get k=fy l k (s.get k):=by
 unfold TS.get TS.add;exact qQ ..
theorem tO {n:Nat} {s:TS} {l:List (Nat×TV)} {vs:List (Nat×Nat)} {aU:Nat} (ap:n≤1000000) (h:mg l=true):(s.add l vs aU).tT n=s.tT n:=by
 show(List.range n).map _=(List.range n).map _
 refine List.map_congr_left fun t bt=> ?_
 have bt:t<n:=List.mem_range.1 bt
 rw[TS.gG,px (wD h (.inl (by omega)))]
theorem x5 {s s':TS} (e:s'.get cM=s.get cM):gX s'=gX s:=by unfold gX;rw[e]
theorem DE [FZ] {n:Nat} {s s':TS} (hb:s'.aU=s.aU) (e: ∀b,s'.get (bB b)=s.get (bB b)) (cH:s'.get cM=s.get cM):(s'.aq n).H=(s.aq n).H:=by
 show s'.eW++fC s'=s.eW++fC s
 unfold TS.eW fC
 rw[x5 cH,hb]
 simp only[e]
theorem tN [FZ] {n:Nat} {s:TS} {l:List (Nat×TV)} {vs:List (Nat×Nat)} (h:mg l=true):((s.add l vs s.aU).aq n).H=(s.aq n).H:=
 DE rfl (fun b=>by rw[TS.gG,px (wD h (.inr (by unfold bB;omega)))]) (by rw[TS.gG,px (wD h (.inl (by unfold cM;omega)))])
theorem tP [FZ] {s:TS} {l:List (Nat×TV)} {vs:List (Nat×Nat)} {aU:Nat} (h:mg l=true) (f:Fits s):Fits (s.add l vs aU):=
 f.congr fun k _ h2=>by rw[TS.gG,px (wD h (.inl h2))]
def qa (v:Nat):Nat→List TV→List (Nat×TV)
 | _,[]=>[]
 | c,a::r=>(jP v c,a)::qa v (c+1) r
def TS.fm (s:TS) (b aU:Nat) (v:TV):TS:=s.add [(bB b,v)] s.vs aU
theorem zp (s:TS) {b aU:Nat} {v:TV} {k:Nat} (h:k<1000000000000):(s.fm b aU v).get k=s.get k:=by
 unfold TS.fm
 rw[TS.gG,fH,if_neg (by unfold bB;omega)];rfl
theorem ni {n:Nat} {s:TS} {b aU:Nat} {v:TV} (ap:n≤1000000):(s.fm b aU v).tT n=s.tT n:=by
 show(List.range n).map _=(List.range n).map _
 refine List.map_congr_left fun t bt=> ?_
 have bt:t<n:=List.mem_range.1 bt
 rw[zp s (by omega)]
theorem nj [FZ] {s:TS} {b aU:Nat} {v:TV} (f:Fits s):Fits (s.fm b aU v):=f.congr fun k _ h2=>zp s (by omega)
theorem EE {s:TS} {b aU:Nat} {v:TV}:gX (s.fm b aU v)=gX s:=x5 (zp s (by unfold cM;omega))
theorem ED (s:TS) (b aU:Nat) (v:TV) (bS:Nat):(s.fm b aU v).get (bB bS)=if b=bS then v else s.get (bB bS):=by
 unfold TS.fm
 rw[TS.gG,fH]
 by_cases h:b=bS
 ·subst h;rw[if_pos rfl,if_pos rfl]
 ·rw[if_neg h,if_neg (by unfold bB;omega)];rfl
theorem r0 [FZ] {n:Nat} {s:TS} {b:Nat} {v:TV} (h:b<s.aU):((s.fm b s.aU v).aq n).H=(s.aq n).H.set b v.dN:=by
 show(s.fm b s.aU v).eW++fC (s.fm b s.aU v)=(s.eW++fC s).set b v.dN
 rw[List.set_append_left _ _ (by rw[ko];exact h)]
 have e2:fC (s.fm b s.aU v)=fC s:=by unfold fC;rw[EE]
 rw[e2]
 congr 1
 apply List.ext_getElem?
 intro i
 rw[m6,List.getElem?_set,m6,ko,ED]
 show(if i<s.aU then _ else _)=_
 by_cases hi:b=i
 ·subst hi;simp[h]
 ·simp[hi]
theorem wG [FZ] {n:Nat} {s:TS} {v:TV} (dn:gX s=true):((s.fm s.aU (s.aU+1) v).aq n).H=(s.aq n).H++[v.dN]:=by
 show(s.fm s.aU (s.aU+1) v).eW++fC (s.fm s.aU (s.aU+1) v)=(s.eW++fC s)++[v.dN]
 unfold fC
 rw[EE,dn]
 show(s.fm s.aU (s.aU+1) v).eW++[]=(s.eW++[])++[v.dN]
 rw[List.append_nil,List.append_nil]
 apply List.ext_getElem?
 intro i
 rw[m6,ED]
 show(if i<s.aU+1 then _ else _)=_
 rcases Nat.lt_trichotomy i s.aU with h | h | h
 ·rw[if_pos (by omega),if_neg (by omega),List.getElem?_append_left (by rw[ko];exact h),m6,if_pos h]
 ·subst h
  rw[if_pos (by omega),if_pos rfl,List.getElem?_append_right (by rw[ko];exact Nat.le_refl _),ko];simp
 ·rw[if_neg (by omega),List.getElem?_eq_none (by rw[List.length_append,ko];simp;omega)]
def rv (P:Program) (t:TypeId) (v:AV):Bool:=(P.info? t).isSome&&Nat.beq (dP v).length (P.cellsOf t)&&(dP v).all hA
theorem yO {P:Program} {t:TypeId} {v:AV} (h:rv P t v=true):(P.info? t).isSome=true∧(dP v).length=P.cellsOf t∧(dP v).all hA=true:=by
 simp only[rv,Bool.and_eq_true] at h
 exact⟨h.1.1,Nat.eq_of_beq_eq_true h.1.2,h.2⟩
def DF (P:Program) (n:Nat) (t:TypeId) (b g:Nat) (i:Int) (m c:Nat) (v:TV) (s:TS) (K:TS→aD):aD:=match sX v with
 | false=> .no
 | true=>n6 s b g fun e xs d_ h=>t_ s e.iL ((hj true e (pC e xs i)).take c++nk v++(hj true e (pC e xs i)).drop (c+(nk v).length)) fun j2 _=>
  let y:=e.mk j2
  let s':=s.fm b s.aU (.blk g e (xs.set i.toNat y) d_ (by rw[List.length_set];exact h))
  .eq d_ m (.eq (rv P t v.be) true (.eq (Nat.ble (c+(dP v.be).length) e.jA) true (.eq (e9 (cb true e (pC e xs i)) c (dP v.be)) (cb true e y) (.eq s'.bN s.bN (.p (i.toNat<m) (K s'))))))
def x1 (P:Program) (t:TypeId):Option (List AV×Nat):=match gU P t with
 | some e=>(match kq P e with
  | some z=>(match Nat.beq z.length (P.cellsOf e)&&z.all hA with
   | true=>some (z.map jX,P.bytesOf e)
   | false=>none)
  | none=>none)
 | none=>none
theorem Jy {P:Program} {t:TypeId} {M1:List AV} {B:Nat} (h:x1 P t=some (M1,B)): ∃e z,gU P t=some e∧kq P e=some z∧z.length=P.cellsOf e∧z.all hA=true∧M1=z.map jX∧B=P.bytesOf e:=by
 unfold x1 at h
 split at h
 ·rename_i e he
  split at h
  ·rename_i z aH
   split at h
   ·rename_i hc
    simp only[Bool.and_eq_true] at hc
    cases h
    exact⟨e,z,he,aH,Nat.eq_of_beq_eq_true hc.1,hc.2,rfl,rfl⟩
   ·cases h
  ·cases h
 ·cases h
def nm (P:Program) (t:TypeId):Nat:=match gU P t with
 | some e=>P.bytesOf e
 | none=>0
def Qj (e:bk) (c:List TV):e.T:=match e.isS with
 | true=>e.mk (ms e.iL c)
 | false=>Az e (c.getD 0 .u)
def Ch (P:Program) (n:Nat) (t:TypeId) (e:bk) (l c:TV) (s:TS) (K:TV→TS→aD):aD:=match l with
 | .i _ l=>(match c with
  | .i _ c=>
   let bE:=Qj e (match gU P t with
    | some kP=>v_ P kP
    | none=>[])
   let xs:=List.replicate l.toNat bE
   let s':=s.fm s.aU (s.aU+1) (.blk 0 e xs xs.length rfl)
   .eq (x1 P t) (some (cb true e bE,nm P t)) (.eq l c (.eq s'.bN s.bN (.eq (gX s) true (.p (0≤l∧(nm P t:Int)*l≤140737488355328∧l≤4611686018427387904) (K (.ref s.aU 0 xs.length false) s')))))
  | _=> .no)
 | _=> .no
def wx (P:Program) (t t2:TypeId) (x:AV):Option (Nat×Nat):=match gU P t with
 | some e=>(match kq P e with
  | some z=>(match Nat.beq z.length (P.cellsOf e)&&Nat.blt 0 z.length&&p7 P e t2 x with
   | true=>some (z.length,P.bytesOf e)
   | false=>none)
  | none=>none)
 | none=>none
theorem Ep {P:Program} {t t2:TypeId} {x:AV} {m B:Nat} (h:wx P t t2 x=some (m,B)): ∃e z,gU P t=some e∧kq P e=some z∧(z.length=P.cellsOf e∧0<z.length∧p7 P e t2 x=true)∧m=z.length∧B=P.bytesOf e:=by
 unfold wx at h
 split at h
 ·rename_i e he
  split at h
  ·rename_i z aH
   split at h
   ·rename_i hc
    simp only[Bool.and_eq_true] at hc
    cases h
    exact⟨e,z,he,aH,⟨Nat.eq_of_beq_eq_true hc.1.1,by rw[←Nat.blt_eq];exact hc.1.2,hc.2⟩,rfl,rfl⟩
   ·cases h
  ·cases h
 ·cases h
def bk.flat:bk→Bool
 | .int | .u64 | .u8 | .bool | .str | .bJ | .k8 | .dS | .fault=>true
 | _=>false
theorem Px {e:bk} (h:e.flat=true) (x:e.T):cb false e x=cb true e x:=by cases e<;>first | rfl | cases h
theorem WY (e:bk) (x:e.T):(cb false e x).map l6=cb true e x:=by
 rw[←nn,←nn]
 have key: ∀(es:List bk) (y:cg es),(jt false es y).map l6=jt true es y:=by
  intro es
  induction es with
  | nil=>intro y;rfl
  | cons e r bx=>
   intro y
   show l6 (lT false e y.1)::(jt false r y.2).map l6=_
   rw[bx,jt]
   congr 1
   cases e<;>rfl
 exact key _ _
theorem KN {e:bk} {fr:Bool} (h:(fr || e.flat)=true) (xs:List e.T):jU fr (xs.map (cb false e))=xs.map (cb true e):=by
 cases fr with
 | true=>
  show(xs.map (cb false e)).map (fun row=>row.map l6)=_
  rw[List.map_map]
  exact List.map_congr_left fun x _=>WY e x
 | false=>exact List.map_congr_left fun x _=>Px h x
def zh (P:Program) (n:Nat) (t t2:TypeId) (v x:TV) (s:TS) (K:TV→TS→aD):aD:=match x with
 | .l e ys hn fr=>(match(fr || e.flat)&&e.l3 with
  | false=> .no
  | true=>(match v with
   | .nil full _=>(match full with
    | true=>
     let s':=s.fm s.aU (s.aU+1) (.blk 0 e ys ys.length rfl)
     .eq (wx P t t2 (TV.l e ys hn fr).be) (some (e.jA,nm P t)) (.eq s'.bN s.bN (.eq (gX s) true (.p (ys.length*nm P t≤140737488355328∧ys.length≤4611686018427387904) (K (.ref s.aU 0 ys.length false) s'))))
    | false=> .no)
   | .ref b g m _=>n6 s b g fun cH xs d_ h=>if he:e=cH then
     let gA:=xs++jq he ys
     let s':=s.fm b s.aU (.blk (g+1) cH gA gA.length rfl)
     .eq d_ m (.eq (wx P t t2 (TV.l e ys hn fr).be) (some (e.jA,nm P t)) (.eq s'.bN s.bN (.p ((xs.length+ys.length)*nm P t≤140737488355328∧xs.length+ys.length≤4611686018427387904) (K (.ref b (g+1) gA.length false) s'))))
    else .no
   | _=> .no))
 | _=> .no
section
variable {P:Program} (cf:fO P) (s:TS)
def uj (o:Oper) (v:TV) (l:List (Nat×TV)) (vs:List (Nat×Nat)) (K:TV→TS→aD):aD:=match mg l with
 | true=> .eq (fun H Q=>hQ P [] o (fun x=>(b0 cf.n s x).be) s.bN H Q) (fun H Q=>Q v.be (s.add l vs s.aU).bN H) (K v (s.add l vs s.aU))
 | false=> .no
end
section
variable {P:Program} {cf:fO P} {s:TS} {R:Exit→TS→Prop}
variable {K:TV→TS→aD} {Kp:AV→List (Nat×List AV)→List Blk→Prop}
theorem x9 {b:Bool} {x:Prop} (h:b=true) (k:x):dD b x:=by subst h;exact k
end
section
variable {P:Program} {cf:fO P} {s:TS} {R:Exit→TS→Prop}
variable {K:TV→TS→aD} {Kp:AV→List (Nat×List AV)→List Blk→Prop}
theorem N3 {t:TypeId} {m:Nat} {parts:List (Nat×AV)} {L:List (Nat×List AV)} {H:List Blk} {d:Option Nat} (h:r5 P t m parts fun r=>Kp r L H):p_ P (qe [] d) (rh []) t m parts L H Kp:=by
 obtain⟨e,he,h⟩:=ea h
 obtain⟨z,aH,h⟩:=ea h
 refine dg he (dg aH ?_)
 split at h
 ·rename_i hc
  rw[if_pos hc]
  obtain⟨cells,hf,h⟩:=ea h
  refine dg hf ?_
  split at h
  ·rename_i hb
   have:qe [] d=false:=by cases d<;>rfl
   rw[this]
   show if cells.all hh=true then _ else _
   rw[if_pos hb];exact h
  ·exact h.elim
 ·exact h.elim
end
section
variable {P:Program} {cf:fO P} {s:TS} {R:Exit→TS→Prop}
variable {K:TV→TS→aD} {Kp:AV→List (Nat×List AV)→List Blk→Prop}
theorem KL {o:Oper} {bo:Operand→AV} {L:List (Nat×List AV)} {H:List Blk} (h:hE P o bo L H fun r=>Kp r L H) (hc: ∀c,o.op≠ .call c) (hb: ∀t m ps,o.op≠ .buildSlice t m ps):hQ P [] o bo L H Kp:=by
 have h':=w2 h
 obtain⟨dst,op,ty,pos,after,guard⟩:=o
 cases op<;>first | exact h' | exact h'.elim | exact absurd rfl (hc _) | exact absurd rfl (hb _ _ _)
end
section
variable {P:Program} {cf:fO P} {s:TS} {R:Exit→TS→Prop}
variable {K:TV→TS→aD} {Kp:AV→List (Nat×List AV)→List Blk→Prop}
theorem CM {o:Oper} {c:Call} {bo:Operand→AV} {L:List (Nat×List AV)} {H:List Blk} (aB:o.op= .call c) (h:hE P o bo L H fun r=>Kp r L H):hQ P [] o bo L H Kp:=by
 have h':=w2 h
 obtain⟨dst,op,ty,pos,after,guard⟩:=o
 cases aB
 obtain⟨callee,args,argTypes⟩:=c
 cases callee with
 | builtin b=>
  cases b with
  | len=>exact h'
  | _=>exact h'.elim
 | value f=>
  have h':jp (bo f) fun g caps=>lQ P g (args.toList.map bo++caps) L H fun r=>Kp r L H:=h'
  show jp (bo f) fun g caps=>iX P g (args.toList.map bo++caps) L H Kp
  cases hf:bo f with
  | fn g caps=>rw[hf] at h';exact .inl h'
  | _=>rw[hf] at h';exact h'.elim
 | _=>exact h'.elim
end
section
variable {P:Program} {cf:fO P} {s:TS} {R:Exit→TS→Prop}
variable {K:TV→TS→aD} {Kp:AV→List (Nat×List AV)→List Blk→Prop}
theorem WV {o:Oper} {t:TypeId} {m:Nat} {ps:Array (Nat×Operand)} {bo:Operand→AV} {L:List (Nat×List AV)} {H:List Blk} (aB:o.op= .buildSlice t m ps) (h:hE P o bo L H fun r=>Kp r L H):hQ P [] o bo L H Kp:=by
 have h':=w2 h
 obtain⟨dst,op,ty,pos,after,guard⟩:=o
 cases aB
 obtain⟨h1,h2⟩:=mR (show dD (ps.toList.all fun p=>dC (bo p.2)) (r5 P t m (ps.toList.map fun p=>(p.1,bo p.2)) fun r=>Kp r L H) from h')
 show dD (ps.toList.all fun p=>dC (bo p.2)) (p_ P (qe [] dst) (rh []) t m (ps.toList.map fun p=>(p.1,bo p.2)) L H Kp)
 rw[h1];exact N3 h2
end
section
variable [Z:FZ] {P:Program} {cf:fO P} {s:TS} {R:Exit→TS→Prop}
def rU (cf:fO P) (s:TS) (R:Exit→TS→Prop) (K:TV→TS→aD) (Kp:lF Prop):Prop:=
 ∀v s' (Z':FZ),(K v s').den R→ @Fits Z' s'→s'.tT cf.n=s.tT cf.n→Kp v.be s'.bN (@TS.aq Z' cf.n s').H
variable {K:TV→TS→aD} {Kp:AV→List (Nat×List AV)→List Blk→Prop}
theorem Zr (ap:cf.n≤1000000) {t:TypeId} {b g m c:Nat} {i:Int} {v:TV} {K:TS→aD} {Kp:List (Nat×List AV)→List Blk→Prop} (aH:Fits s) (hK: ∀s' (Z':FZ),(K s').den R→ @Fits Z' s'→s'.tT cf.n=s.tT cf.n→Kp s'.bN (@TS.aq Z' cf.n s').H) (h:(DF P cf.n t b g i m c v s K).den R):
  dD (dC v.be) (jB P t (.ptr b g i.toNat c) v.be (s.aq cf.n).L (s.aq cf.n).H Kp):=by
 unfold DF at h
 split at h
 ·exact h.elim
 ·rename_i hv
  obtain⟨e,xs,d_,hm,h,hb,az⟩:=r1 (n:=cf.n) h
  obtain⟨j2,o,h,_⟩:=wO aH (n:=cf.n) h
  obtain⟨h1,h2,aJ,bj,cP,eg,h⟩:=h
  refine x9 (x8 hv) ?_
  have aR:i.toNat<xs.length:=by omega
  have hs:=yO h2
  unfold jB
  rw[if_pos hs]
  refine dg az ⟨rfl,dg (Cl aR true) ⟨?_,?_⟩⟩
  ·rw[qc];exact Nat.le_of_ble_eq_true aJ
  ·have:=hK _ Z h (nj aH) (ni ap)
   rw[r0 hb,cP] at this
   rw[bj]
   have bi: ∀y:e.T,(xs.map (cb true e)).set i.toNat (cb true e y)=(xs.set i.toNat y).map (cb true e):=fun y=>by rw[List.map_set]
   rw[bi];exact this
theorem VO (ap:cf.n≤1000000) (aH:Fits s) {t:TypeId} {e:bk} {l c:TV} (hK:rU cf s R K Kp) (h:(Ch P cf.n t e l c s K).den R):sS P t l.be c.be (s.aq cf.n).L (s.aq cf.n).H Kp:=by
 unfold Ch at h
 split at h
 ·split at h
  ·obtain⟨h1,h2,aJ,dn,bj,h⟩:=h
   rename_i x0 sN l lS TA c
   subst h2
   obtain⟨kP,z,q1,q2,q3,q4,cw,cr⟩:=Jy h1
   refine dg q1 (dg q2 ?_)
   rw[if_pos ⟨q3,q4⟩]
   refine⟨bj.1,Int.le_refl _,by rw[←cr];exact bj.2.1,bj.2.2,?_⟩
   have:=hK _ _ Z h (nj aH) (ni ap)
   rw[wG dn,aJ] at this
   rw[yQ dn,←cw]
   have aH:z.length=e.jA:=by
    have:=congrArg List.length cw
    rw[List.length_map,qc] at this;exact this.symm
   rw[aH]
   have aE: ∀bE:e.T,(List.replicate l.toNat bE).length=l.toNat:=fun bE=>List.length_replicate
   show Kp (.ref s.aU 0 0 l.toNat false) _ ((s.aq cf.n).H++[⟨0,e.jA,List.replicate l.toNat (cb true e _)⟩])
   rw[←List.map_replicate]
   have this:Kp (.ref s.aU 0 0 (List.replicate l.toNat _).length false) (s.aq cf.n).L ((s.aq cf.n).H++[⟨0,e.jA,(List.replicate l.toNat _).map (cb true e)⟩]):=this
   rw[aE] at this
   exact this
  ·exact h.elim
 ·exact h.elim
theorem ND (ap:cf.n≤1000000) (aH:Fits s) {t t2:TypeId} {v x:TV} (hK:rU cf s R K Kp) (h:(zh P cf.n t t2 v x s K).den R):dC v.be=true∧dC x.be=true∧p6 P t t2 v.be x.be (s.aq cf.n).L (s.aq cf.n).H Kp:=by
 unfold zh at h
 split at h
 ·rename_i e ys hn fr
  split at h
  ·exact h.elim
  ·rename_i hc
   simp only[Bool.and_eq_true] at hc
   have dR: ∀(gA:List e.T) (k:Nat),e.jA=k→pN k (gA.map (cb true e)):=fun gA k hk row aw=>by
    obtain⟨y,_,rfl⟩:=List.mem_map.1 aw
    refine⟨by rw[qc,hk],fun a aL=>List.all_eq_true.1 (O_ (fr:=true) hc.2 y) a aL⟩
   have cV: ∀{kP},gU P t=some kP→nm P t=P.bytesOf kP:=fun h=>by unfold nm;rw[h]
   split at h
   ·split at h
    ·rename_i full aae
     obtain⟨h1,h2,dn,aJ,h⟩:=h
     obtain⟨kP,z,q1,q2,q3,q4,cw⟩:=Ep h1
     refine⟨rfl,rfl,dg q1 (dg q2 ?_)⟩
     rw[if_pos q3]
     show _∧_
     have hx:jU fr (List.map (cb false e) ys)=ys.map (cb true e):=KN hc.1 ys
     rw[hx]
     refine⟨dR ys _ q4,rfl,(fun row h=>by cases h),?_,?_,(fun h=>absurd rfl h),?_⟩
     ·rw[List.length_map,←cV q1];simpa using aJ.1
     ·rw[List.length_map];simpa using aJ.2
     ·have:=hK _ _ Z h (nj aH) (ni ap)
      rw[wG dn,h2] at this
      rw[yQ dn,←q4,List.length_map]
      simp only[List.length_nil,Nat.zero_add,List.nil_append]
      exact this
    ·exact h.elim
   ·rename_i b g m cS
    obtain⟨cH,xs,d_,hm,h,hb,az⟩:=r1 (n:=cf.n) h
    split at h
    ·rename_i he
     subst he
     obtain⟨h1,h2,aJ,bj,qf⟩:=h
     subst h1
     obtain⟨kP,z,q1,q2,q3,q4,cw⟩:=Ep h2
     refine⟨rfl,rfl,dg q1 (dg q2 ?_)⟩
     rw[if_pos q3]
     show _∧_
     have hx:jU fr (List.map (cb false e) ys)=ys.map (cb true e):=KN hc.1 ys
     rw[hx]
     refine⟨dR ys _ q4,rfl,dg az ⟨rfl,q4,by rw[List.length_map];exact hm,?_,?_,?_⟩⟩
     ·rw[List.length_map,←hm,←cV q1];exact bj.1
     ·rw[List.length_map,←hm];exact bj.2
     ·have:=hK _ _ Z qf (nj aH) (ni ap)
      rw[r0 hb,aJ] at this
      rw[←q4,List.length_map,←hm,←List.map_append,←List.length_append]
      exact this
    ·exact h.elim
   ·exact h.elim
 ·exact h.elim
theorem AF (ap:cf.n≤1000000) (aH:Fits s) {o:Oper} {v:TV} {l:List (Nat×TV)} {vs:List (Nat×Nat)} (hK:rU cf s R K Kp) (h:(uj cf s o v l vs K).den R):hQ P [] o (bL (s.aq cf.n).T) (s.aq cf.n).L (s.aq cf.n).H Kp:=by
 unfold uj at h
 split at h
 ·rename_i hb
  obtain⟨e,h⟩:=h
  rw[iN,show(fun x=>(b0 cf.n s x).be)=(fun x=>(b0 cf.n s x).be) from rfl]
  have e:=congrFun (congrFun e (s.aq cf.n).H) Kp
  have e:hQ P [] o (fun x=>(b0 cf.n s x).be) (s.aq cf.n).L (s.aq cf.n).H Kp=_:=e
  rw[e]
  have:=hK _ _ Z h (tP hb aH) (tO ap hb)
  rw[tN hb] at this;exact this
 ·exact h.elim
end
def BS:TV→Bool
 | .ia _ _ _=>true
 | _=>false
theorem NS {Z Z':FZ} {v:TV} (h:BS v=false): @TV.dN Z' v= @TV.dN Z v:=by cases v<;>first | rfl | cases h
def vc (s:TS) (b:Nat):Nat→Bool
 | 0=>true
 | k+1=>(Nat.beq k b || !BS (s.get (bB k)))&&vc s b k
theorem JT {s:TS} {b:Nat}: ∀{n:Nat},vc s b n=true→ ∀k,k<n→k≠b→BS (s.get (bB k))=false
 | 0,_,k,h,_=>by omega
 | n+1,h,k,hk,b2=>by
  simp only[vc,Bool.and_eq_true,Bool.or_eq_true,Bool.not_eq_true'] at h
  rcases Nat.lt_or_ge k n with q | q
  ·exact JT h.2 k q b2
  ·have:k=n:=by omega
   subst this
   rcases h.1 with e | e
   ·exact absurd (Nat.eq_of_beq_eq_true e) b2
   ·exact e
theorem ZM {Z Z':FZ} {n:Nat} {s s':TS} {b g m:Nat} {ids:List Nat} {V Ed:List ab} {Sg:List Nat} {bC JL:Nat} {hv:V.length=bC} {mE:Ed.length=JL} (hb:b<s.aU) (sx:s'.aU=s.aU) (he: ∀k,k≠b→s'.get (bB k)=s.get (bB k)) (aI:s'.get (bB b)= .ia g m ids) (hw:vc s b s.aU=true)
  (h1:s.get cM= .fp V Sg bC hv) (h2:s'.get cM= .fp Ed ids JL mE):(@TS.aq Z' n s').H=(@TS.eW Z s).set b ⟨g,5,bd m Z'.ws ids⟩++List.map bz Z'.bs:=by
 rw[n8 h2]
 congr 1
 apply List.ext_getElem?
 intro i
 rw[@m6 Z' s' i,List.getElem?_set,@m6 Z s i,@ko Z s,sx]
 by_cases hi:b=i
 ·subst hi;rw[if_pos hb,if_pos rfl,if_pos hb,aI];rfl
 ·rw[if_neg hi,he i (fun e=>hi e.symm)]
  by_cases h:i<s.aU
  ·rw[if_pos h,if_pos h,NS (Z:=Z) (JT hw i h (fun e=>hi e.symm))]
  ·rw[if_neg h,if_neg h]
theorem vN {n:Nat} {s:TS} {l:List (Nat×TV)} (ap:n≤1000000) (h: ∀p∈l,1000000≤p.1):(s.add l s.vs s.aU).tT n=s.tT n:=by
 show(List.range n).map _=(List.range n).map _
 refine List.map_congr_left fun t bt=> ?_
 have bt:t<n:=List.mem_range.1 bt
 rw[TS.gG,px fun v hv=>by have:=h _ hv;simp only at this;omega]
def C3 (c:Nat) (v:TV) (h:ab) (K:ab→aD):aD:=match v with
 | .i k x=>if k= .i64 then(match c with
  | 0=>K {h with au:=x}
  | 1=>K {h with aa:=x}
  | 4=>K {h with ao:=x}
  | _=> .no) else .no
 | .b x=>(match c with
  | 3=>K {h with an:=x.den}
  | _=> .no)
 | _=> .no
theorem K7 {c:Nat} {v:TV} {w:ab} {b:List Bool} {K:ab→aD} {R:Exit→TS→Prop} (h:(C3 c v {w with U:=b} K).den R):
  ∃x:ab,x.U=w.U∧(K {x with U:=b}).den R∧(∀m id,e9 (ju m w id) c (dP v.be)=ju m x id)∧c+(dP v.be).length≤5:=by
 unfold C3 at h
 split at h
 ·rename_i k x
  split at h
  ·rename_i hk
   subst hk
   split at h
   ·exact⟨{w with au:=x},rfl,h,fun m id=>rfl,(show(0+1:Nat)≤5 by decide)⟩
   ·exact⟨{w with aa:=x},rfl,h,fun m id=>rfl,(show(1+1:Nat)≤5 by decide)⟩
   ·exact⟨{w with ao:=x},rfl,h,fun m id=>rfl,(show(4+1:Nat)≤5 by decide)⟩
   ·exact h.elim
  ·exact h.elim
 ·rename_i x
  split at h
  ·exact⟨{w with an:=x.den},rfl,h,fun m id=>rfl,(show(3+1:Nat)≤5 by decide)⟩
  ·exact h.elim
 ·exact h.elim
theorem ie.Vb {ws:List ab} {ids:List Nat} {bs:List (List Bool)} (G:ie ws ids bs) {i id:Nat} {x:ab} (hi:i<ws.length) (h1:id<bs.length) (h2:bs.getD id []=x.U) (aJ: ∀j:Nat,ids[j]?≠some id):
  ie (ws.set i x) (ids.set i id) bs∧view (ws.set i x) (ids.set i id) bs=(view ws ids bs).set i x:=by
 have aE:=G.ok.len
 refine⟨⟨⟨by rw[List.length_set,List.length_set];exact aE,fun j k hk=> ?_,fun j k h aL hk=> ?_⟩,fun a b k aL hb=> ?_,G.len⟩,?_⟩
 ·rw[List.getElem?_set] at hk
  split at hk
  ·split at hk
   ·cases hk;exact h1
   ·cases hk
  ·exact G.ok.lt j k hk
 ·rw[List.getElem?_set] at aL hk
  split at aL
  ·rename_i e;subst e
   rw[if_pos rfl,if_pos (by omega)] at hk
   cases aL;cases hk;rw[h2]
  ·rename_i e
   rw[if_neg e] at hk
   exact G.ok.U j k h aL hk
 ·rw[List.getElem?_set] at aL hb
  split at aL
  ·split at aL
   ·cases aL
    split at hb
    ·rename_i bi _ e2;omega
    ·exact absurd hb (aJ b)
   ·cases aL
  ·split at hb
   ·split at hb
    ·cases hb;exact absurd aL (aJ a)
    ·cases hb
   ·exact G.jb a b k aL hb
 ·apply List.ext_getElem?
  intro j
  unfold view
  rw[List.getElem?_zipWith,List.getElem?_set,List.getElem?_set,List.getElem?_set,List.getElem?_zipWith,List.length_zipWith]
  by_cases e:i=j
  ·subst e
   rw[if_pos rfl,if_pos rfl,if_pos rfl,if_pos hi,if_pos (by omega),if_pos (by omega)]
   show some ({x with U:=bs.getD id []}:ab)=some x
   rw[h2]
  ·rw[if_neg e,if_neg e,if_neg e]
theorem ie.snoc {ws:List ab} {ids:List Nat} {bs:List (List Bool)} (G:ie ws ids bs) {xs:List Bool} (hx:xs.length≤1048576):ie ws ids (bs++[xs])∧view ws ids (bs++[xs])=view ws ids bs:=by
 have aI: ∀id,id<bs.length→(bs++[xs]).getD id []=bs.getD id []:=fun id h=>by
  rw[List.getD_eq_getElem?_getD,List.getD_eq_getElem?_getD,List.getElem?_append_left h]
 refine⟨⟨⟨G.ok.len,fun i id h=>by have:=G.ok.lt i id h;rw[List.length_append];omega,fun i id h h1 h2=>by rw[aI id (G.ok.lt i id h2)];exact G.ok.U i id h h1 h2⟩,G.jb,fun b hb=> ?_⟩,?_⟩
 ·rcases List.mem_append.1 hb with hb | hb
  ·exact G.len b hb
  ·rw[List.mem_singleton.1 hb];exact hx
 ·apply List.ext_getElem?
  intro j
  unfold view
  rw[List.getElem?_zipWith,List.getElem?_zipWith]
  cases h1:ws[j]? with
  | none=>rfl
  | some w=>
   cases h2:ids[j]? with
   | none=>rfl
   | some id=>simp only[aI id (G.ok.lt j id h2)]
def DJ (P:Program) (t:TypeId) (b g:Nat) (i:Int) (c:Nat) (v:TV) (s:TS) (cC fU:Nat) (ids:List Nat) (K:TS→aD):aD:=match s.get cM with
 | .fp V cB bC hv=> .eq cC g (.eq cB ids (.eq (Nat.blt b s.aU&&vc s b s.aU&&rv P t v.be) true (match v with
  | .agg l=>(match l with
   | [.i cY aq,.i fT go,.u9 id m k,.b fK,.i lm kp]=>(match s.get eH with
    | .new eP xs=>
     let s':=s.add [(cM,.fp (V.set i.toNat (ab.mk aq go xs fK.den kp)) (ids.set i.toNat id) bC ((List.length_set ..).trans hv)),(bB b,.ia g fU (ids.set i.toNat id)),(eH,.u)] s.vs s.aU
     .eq c 0 (.eq (cY,fT,lm) (IntKind.i64,IntKind.i64,IntKind.i64) (.eq eP id (.eq m fU (.eq k xs.length (.eq s'.bN s.bN (.p (i.toNat<V.length) (K s')))))))
    | _=> .no)
   | _=> .no)
  | v=>C3 c v (nth V i) fun y=>
   let s':=s.add [(cM,.fp (V.set i.toNat y) ids bC ((List.length_set ..).trans hv))] s.vs s.aU
   .eq s'.bN s.bN (.p (i.toNat<V.length) (K s')))))
 | _=> .no
section
variable [Z:FZ] {P:Program} {cf:fO P} {s:TS} {R:Exit→TS→Prop}
theorem Zz (ap:cf.n≤1000000) {t:TypeId} {b g c cC fU:Nat} {ids:List Nat} {i:Int} {v:TV} {K:TS→aD} {Kp:List (Nat×List AV)→List Blk→Prop} (aH:Fits s) (aI:s.get (bB b)= .ia cC fU ids)
  (hK: ∀s' (Z':FZ),(K s').den R→ @Fits Z' s'→s'.tT cf.n=s.tT cf.n→Kp s'.bN (@TS.aq Z' cf.n s').H) (h:(DJ P t b g i c v s cC fU ids K).den R):
  jB P t (.ptr b g i.toNat c) v.be (s.aq cf.n).L (s.aq cf.n).H Kp:=by
 unfold DJ at h
 split at h
 ·rename_i V cB bC ir hk
  obtain⟨h1,h2,aJ,h⟩:=h
  subst h1;subst h2
  simp only[Bool.and_eq_true] at aJ
  obtain⟨⟨hb,hw⟩,a6⟩:=aJ
  have hb:b<s.aU:=by rw[←Nat.blt_eq];exact hb
  obtain⟨G,e,kB⟩:=aH V cB _ _ hk
  have hs:=yO a6
  have mF:=h9 G.ok
  rw[e] at mF
  have az:(s.aq cf.n).H[b]?=some ⟨cC,5,bd fU Z.ws cB⟩:=by rw[oR hb,aI];rfl
  have QP:(s.aq cf.n).H=s.eW++List.map bz Z.bs:=n8 hk
  unfold jB
  rw[if_pos hs]
  have fin: ∀{s':TS} {ws2:List ab} {ids2:List Nat} {V2:List ab} {n2:Nat} {hv2:V2.length=n2} {cells row':List AV},i.toNat<V.length→c+cells.length≤5→e9 (ju fU (nth Z.ws i) (nth cB i)) c cells=row'→(bd fU Z.ws cB).set i.toNat row'=bd fU ws2 ids2→s'.aU=s.aU→(∀k,k≠b→s'.get (bB k)=s.get (bB k))→s'.get (bB b)= .ia cC fU ids2→s'.get cM= .fp V2 ids2 n2 hv2→
    s'.bN=s.bN→(K s').den R→ @Fits ⟨ws2,Z.bs⟩ s'→s'.tT cf.n=s.tT cf.n→(ch (s.aq cf.n).H[b]? fun blk=>blk.ba=cC∧ch blk.rows[i.toNat]? fun row=>c+cells.length≤row.length∧Kp (s.aq cf.n).L ((s.aq cf.n).H.set b {blk with rows:=blk.rows.set i.toNat (e9 row c cells)})):=by
   intro s' ws2 ids2 V2 n2 hv2 cells row' hi hc qE pq sx GB li Rm bF QR hf bM
   refine dg az ⟨rfl,dg (dU G.ok.len (by omega)) ⟨hc,?_⟩⟩
   have:=hK s' ⟨ws2,Z.bs⟩ QR hf bM
   rw[bF,ZM (Z:=Z) (Z':=⟨ws2,Z.bs⟩) hb sx GB li hw hk Rm] at this
   rw[QP,List.set_append_left _ _ (by rw[ko];exact hb),qE]
   show Kp s.bN (s.eW.set b ⟨cC,5,(bd fU Z.ws cB).set i.toNat row'⟩++_)
   rw[pq];exact this
  split at h
  ·split at h
   ·rename_i cY aq fT go id m k fK lm kp
    split at h
    ·rename_i eP xs sy
     obtain⟨h1,h2,bj,cP,eg,j8,ob,h⟩:=h
     subst h1;subst bj;subst cP;subst eg
     cases h2
     obtain⟨eS,n2,kf⟩:=kB _ _ sy
     obtain⟨tI,cH⟩:=G.Vb (i:=i.toNat) (id:=eP) (x:=ab.mk aq go xs fK.den kp) (by omega) eS n2 kf
     refine fin (s':=s.add [(cM,.fp (V.set i.toNat (ab.mk aq go xs fK.den kp)) (cB.set i.toNat eP) bC ((List.length_set ..).trans ir)),(bB b,.ia cC m (cB.set i.toNat eP)),(eH,.u)] s.vs s.aU) (ws2:=Z.ws.set i.toNat (ab.mk aq go xs fK.den kp)) (V2:=V.set i.toNat (ab.mk aq go xs fK.den kp)) (n2:=bC) (hv2:=(List.length_set ..).trans ir) (ids2:=cB.set i.toNat eP) (row':=ju m (ab.mk aq go xs fK.den kp) eP) ob (Nat.le_refl 5) ?_ (xn G.ok.len) rfl (fun k hk=> ?_) ?_ ?_ j8 h ?_ (vN ap ?_)
     ·rfl
     ·rw[TS.gG,fH,if_neg (by unfold cM bB;omega),fH,if_neg (by unfold bB;omega),fH,if_neg (by unfold eH bB;omega)];rfl
     ·rw[TS.gG,fH,if_neg (by unfold cM bB;omega),fH,if_pos rfl]
     ·rw[TS.gG,fH,if_pos rfl]
     ·intro V3 xQ kf xG aJ
      rw[TS.gG,fH,if_pos rfl] at aJ
      cases aJ
      refine⟨tI,by rw[←e];exact cH,fun id xs hx=> ?_⟩
      rw[TS.gG,fH,if_neg (by unfold cM eH;omega),fH,if_neg (by unfold bB eH;omega),fH,if_pos rfl] at hx
      cases hx
     ·intro p ak
      simp only[List.mem_cons,List.not_mem_nil,or_false] at ak
      rcases ak with rfl | rfl | rfl
      ·exact Nat.le_refl _
      ·show 1000000≤bB b;unfold bB;omega
      ·show 1000000≤eH;unfold eH;omega
    ·exact h.elim
   ·exact h.elim
  ·have xu:i.toNat<V.length∨ ¬i.toNat<V.length:=by omega
   by_cases hi:i.toNat<V.length
   ·have hv:=yY G.ok (i:=i) (by rw[e];exact hi)
    rw[e] at hv
    rw[hv] at h
    obtain⟨x,DZ,h,MZ,M0⟩:=K7 h
    obtain⟨j8,ob,h⟩:=h
    have F:=(G.tR (j:=i) (by omega)).vI x (by rw[DZ];have:=(G.tR (j:=i) (by omega)).nh;exact this)
    have gk:(nth (view Z.ws cB Z.bs) i).U=Z.bs.getD (nth cB i) []:=by rw[e,hv]
    rw[gk,e] at F
    refine fin (s':=s.add [(cM,.fp (V.set i.toNat {x with U:=Z.bs.getD (nth cB i) []}) cB bC ((List.length_set ..).trans ir))] s.vs s.aU) (ws2:=Z.ws.set i.toNat x) (ids2:=cB) (V2:=V.set i.toNat {x with U:=Z.bs.getD (nth cB i) []}) (n2:=bC) (hv2:=(List.length_set ..).trans ir) ob M0 (MZ fU (nth cB i)) (ld G.ok.len (by omega)) rfl (fun k hk=> ?_) ?_ ?_ j8 h ?_ (vN ap ?_)
    ·rw[TS.gG,fH,if_neg (by unfold cM bB;omega)];rfl
    ·rw[TS.gG,fH,if_neg (by unfold cM bB;omega)];exact aI
    ·rw[TS.gG,fH,if_pos rfl]
    ·intro V3 xQ kf xG aJ
     rw[TS.gG,fH,if_pos rfl] at aJ
     cases aJ
     refine⟨F.G,F.hd,fun id xs hx=> ?_⟩
     rw[TS.gG,fH,if_neg (by unfold cM eH;omega)] at hx
     exact kB id xs hx
    ·intro p ak
     rw[List.mem_singleton.1 ak];exact Nat.le_refl _
   ·obtain⟨x,DZ,h,_⟩:=K7 (w:=nth V i) (b:=(nth V i).U) h
    exact absurd h.2.1 hi
 ·exact h.elim
def vP (P:Program) (t:TypeId) (w:Int) (ids:List Nat) (m:Nat) (j:Int) (v:TV) (s:TS) (K:TS→aD):aD:=match s.get cM with
 | .fp V cB bC hv=> .eq cB ids (.eq m s.aU (.eq (rv P t v.be) true (match v with
  | .b x=>
   let s':=s.add [(cM,.fp (V.set w.toNat {nth V w with U:=(nth V w).U.set j.toNat x.den}) ids bC ((List.length_set ..).trans hv))] s.vs s.aU
   .eq s'.bN s.bN (.p (w.toNat<V.length∧j.toNat<(nth V w).U.length) (K s'))
  | _=> .no)))
 | _=> .no
theorem Zv (ap:cf.n≤1000000) {t:TypeId} {m:Nat} {ids:List Nat} {w j:Int} {v:TV} {K:TS→aD} {Kp:List (Nat×List AV)→List Blk→Prop} (aH:Fits s)
  (hK: ∀s' (Z':FZ),(K s').den R→ @Fits Z' s'→s'.tT cf.n=s.tT cf.n→Kp s'.bN (@TS.aq Z' cf.n s').H) (h:(vP P t w ids m j v s K).den R):
  jB P t (.ptr (nth ids w+m) 0 j.toNat 0) v.be (s.aq cf.n).L (s.aq cf.n).H Kp:=by
 unfold vP at h
 split at h
 ·rename_i V cB bC ir hk
  obtain⟨h1,h2,aJ,h⟩:=h
  subst h1;subst h2
  have hs:=yO aJ
  unfold jB
  rw[if_pos hs]
  split at h
  ·rename_i x
   obtain⟨bj,cP,h⟩:=h
   obtain⟨G,e,kB⟩:=aH V cB _ _ hk
   have mF:=h9 G.ok
   rw[e] at mF
   have hv:=yY G.ok (i:=w) (by rw[e];exact cP.1)
   rw[e] at hv
   have fk:=G.tR (j:=w) (by omega)
   have F:=fk.C2 ((nth V w).U.set j.toNat x.den) (by rw[List.length_set,e])
   rw[e] at F
   have hid:=G.ok.lt w.toNat _ (fg (xs:=cB) (i:=w) (by have:=G.ok.len;omega))
   refine dg (Am aH hk cP.1) ⟨rfl,dg (tY cP.2) ⟨Nat.le_refl 1,?_⟩⟩
   have bM:=vN (n:=cf.n) (s:=s) (l:=[(cM,TV.fp (V.set w.toNat {nth V w with U:=(nth V w).U.set j.toNat x.den}) cB bC ((List.length_set ..).trans ir))]) ap (fun p ak=>by rw[List.mem_singleton.1 ak];exact Nat.le_refl _)
   have pf: @Fits ⟨Z.ws,Z.bs.set (nth cB w) ((nth V w).U.set j.toNat x.den)⟩ (s.add [(cM,TV.fp (V.set w.toNat {nth V w with U:=(nth V w).U.set j.toNat x.den}) cB bC ((List.length_set ..).trans ir))] s.vs s.aU):=by
    intro V3 xQ kf xG aJ
    rw[TS.gG,fH,if_pos rfl] at aJ
    cases aJ
    refine⟨F.G,F.hd,fun id xs hx=> ?_⟩
    rw[TS.gG,fH,if_neg (by unfold cM eH;omega)] at hx
    obtain⟨eS,n2,kf⟩:=kB id xs hx
    refine⟨by show id<(Z.bs.set (nth cB w) ((nth V w).U.set j.toNat x.den)).length;rw[List.length_set];exact eS,?_,kf⟩
    show(Z.bs.set (nth cB w) ((nth V w).U.set j.toNat x.den)).getD id []=xs
    have b2:nth cB w≠id:=fun q=>kf w.toNat (by rw[fg (xs:=cB) (i:=w) (by have:=G.ok.len;omega),q])
    rw[List.getD_eq_getElem?_getD,List.getElem?_set,if_neg b2,←List.getD_eq_getElem?_getD];exact n2
   have:=hK _ ⟨Z.ws,Z.bs.set (nth cB w) ((nth V w).U.set j.toNat x.den)⟩ h pf bM
   rw[bj] at this
   have xl:(s.aq cf.n).H=s.eW++List.map bz Z.bs:=n8 hk
   have lf: ∀Z':FZ,Z'.ws=Z.ws→ @TS.eW Z' (s.add [(cM,TV.fp (V.set w.toNat {nth V w with U:=(nth V w).U.set j.toNat x.den}) cB bC ((List.length_set ..).trans ir))] s.vs s.aU)= @TS.eW Z s:=fun Z' hw=>by
    show(List.range s.aU).map _=(List.range s.aU).map _
    refine List.map_congr_left fun b _=> ?_
    rw[TS.gG,fH,if_neg (by unfold cM bB;omega)]
    show @TV.dN Z' (s.get (bB b))= @TV.dN Z (s.get (bB b))
    cases s.get (bB b)<;>first | rfl | (simp only[TV.dN,hw])
   have AI:= @n8 ⟨Z.ws,Z.bs.set (nth cB w) ((nth V w).U.set j.toNat x.den)⟩ cf.n (s.add [(cM,TV.fp (V.set w.toNat {nth V w with U:=(nth V w).U.set j.toNat x.den}) cB bC ((List.length_set ..).trans ir))] s.vs s.aU) (V.set w.toNat {nth V w with U:=(nth V w).U.set j.toNat x.den}) cB bC ((List.length_set ..).trans ir) (by rw[TS.gG,fH,if_pos rfl])
   rw[AI,lf ⟨Z.ws,Z.bs.set (nth cB w) ((nth V w).U.set j.toNat x.den)⟩ rfl] at this
   rw[xl,List.set_append_right _ _ (by rw[ko];omega),ko,Nat.add_sub_cancel]
   have hl:({bz (nth V w).U with rows:=(bz (nth V w).U).rows.set j.toNat (e9 (aT (nth (nth V w).U j)) 0 (dP (TV.b x).be))}:Blk)=bz ((nth V w).U.set j.toNat x.den):=by
    show(⟨0,1,(List.map aT (nth V w).U).set j.toNat (aT x.den)⟩:Blk)=⟨0,1,_⟩
    rw[zq]
   show Kp s.bN (s.eW++(List.map bz Z.bs).set (nth cB w) {bz (nth V w).U with rows:=(bz (nth V w).U).rows.set j.toNat (e9 (aT (nth (nth V w).U j)) 0 (dP (TV.b x).be))})
   rw[hl,An]
   exact this
  ·exact h.elim
 ·exact h.elim
def Cg (P:Program) (t:TypeId) (l c:TV) (s:TS) (K:TV→TS→aD):aD:=match l with
 | .i _ l=>(match c with
  | .i _ c=>(match s.get cM with
   | .fp V ids _ _=> .all Nat fun id=>
    let s':=s.add [(eH,.new id (List.replicate l.toNat false))] s.vs s.aU
    .eq (x1 P t) (some ([AV.bool false],nm P t)) (.eq l c (.eq s'.bN s.bN (.p (0≤l∧(nm P t:Int)*l≤140737488355328∧l≤1048576) (K (.u9 id s.aU (List.replicate l.toNat false).length) s'))))
   | _=> .no)
  | _=> .no)
 | _=> .no
theorem VM (ap:cf.n≤1000000) (aH:Fits s) {t:TypeId} {l c:TV} {K:TV→TS→aD} {Kp:AV→List (Nat×List AV)→List Blk→Prop} (hK:rU cf s R K Kp) (h:(Cg P t l c s K).den R):sS P t l.be c.be (s.aq cf.n).L (s.aq cf.n).H Kp:=by
 unfold Cg at h
 split at h
 ·split at h
  ·split at h
   ·rename_i x0 sN l lS TA c aaL V ids bC ir hk
    obtain⟨h1,h2,aJ,bj,bH⟩:=h Z.bs.length
    subst h2
    obtain⟨kP,z,q1,q2,q3,q4,cw,cr⟩:=Jy h1
    refine dg q1 (dg q2 ?_)
    rw[if_pos ⟨q3,q4⟩]
    refine⟨bj.1,Int.le_refl _,by rw[←cr];exact bj.2.1,by have:=bj.2.2;omega,?_⟩
    obtain⟨G,e,kB⟩:=aH V ids _ _ hk
    have mI:(List.replicate l.toNat false).length≤1048576:=by rw[List.length_replicate];have:=bj.2.2;omega
    obtain⟨tI,cH⟩:=G.snoc mI
    have bM:=vN (n:=cf.n) (s:=s) (l:=[(eH,TV.new Z.bs.length (List.replicate l.toNat false))]) ap (fun p ak=>by rw[List.mem_singleton.1 ak];show 1000000≤eH;unfold eH;omega)
    have GC:(s.add [(eH,TV.new Z.bs.length (List.replicate l.toNat false))] s.vs s.aU).get cM= .fp V ids bC ir:=by rw[TS.gG,fH,if_neg (by unfold cM eH;omega)];exact hk
    have pf: @Fits ⟨Z.ws,Z.bs++[List.replicate l.toNat false]⟩ (s.add [(eH,TV.new Z.bs.length (List.replicate l.toNat false))] s.vs s.aU):=by
     intro V3 xQ kf xG aJ
     rw[GC] at aJ
     cases aJ
     refine⟨tI,cH.trans e,fun id xs hx=> ?_⟩
     rw[TS.gG,fH,if_pos rfl] at hx
     cases hx
     refine⟨by show Z.bs.length<(Z.bs++[List.replicate l.toNat false]).length;rw[List.length_append];simp,by show(Z.bs++[List.replicate l.toNat false]).getD Z.bs.length []=_;rw[List.getD_eq_getElem?_getD,List.getElem?_append_right (Nat.le_refl _)];simp,fun j aC=> ?_⟩
     have:=G.ok.lt j _ aC;omega
    have:=hK _ _ ⟨Z.ws,Z.bs++[List.replicate l.toNat false]⟩ bH pf bM
    rw[aJ] at this
    have xl:(s.aq cf.n).H=s.eW++List.map bz Z.bs:=n8 hk
    have AI:= @n8 ⟨Z.ws,Z.bs++[List.replicate l.toNat false]⟩ cf.n _ V ids bC ir GC
    have lf: @TS.eW ⟨Z.ws,Z.bs++[List.replicate l.toNat false]⟩ (s.add [(eH,TV.new Z.bs.length (List.replicate l.toNat false))] s.vs s.aU)= @TS.eW Z s:=by
     show(List.range s.aU).map _=(List.range s.aU).map _
     refine List.map_congr_left fun b _=> ?_
     rw[TS.gG,fH,if_neg (by unfold eH bB;omega)]
     show @TV.dN _ (s.get (bB b))= @TV.dN Z (s.get (bB b))
     cases s.get (bB b)<;>rfl
    rw[AI,lf] at this
    have hlen:(s.aq cf.n).H.length=Z.bs.length+s.aU:=by rw[xl,List.length_append,ko,List.length_map];omega
    have oq:z.length=1:=by have:=congrArg List.length cw;simpa using this.symm
    rw[hlen,oq,←cw,xl]
    show Kp (.ref (Z.bs.length+s.aU) 0 0 l.toNat false) s.bN (s.eW++List.map bz Z.bs++[⟨0,1,List.replicate l.toNat [AV.bool false]⟩])
    rw[show List.replicate l.toNat [AV.bool false]=List.map aT (List.replicate l.toNat false) by rw[List.map_replicate];rfl,List.append_assoc,ue]
    have O3:(List.replicate l.toNat false).length=l.toNat:=List.length_replicate
    rw[O3] at this
    exact this
   ·exact h.elim
  ·exact h.elim
 ·exact h.elim
def MB (P:Program) (t:TypeId) (b g:Nat) (i:Int) (c:Nat) (v:TV) (s:TS) (cC:Nat) (aM:List TV) (K:TS→aD):aD:=
 let cA:=aM.take c++nk v++aM.drop (c+(nk v).length)
 let s':=s.fm b s.aU (.eb g cA)
 .eq cC g (.eq i 0 (.eq (Nat.blt b s.aU&&sX v&&rv P t v.be&&Nat.ble (c+(dP v.be).length) aM.length) true (.eq (e9 (b9 aM) c (dP v.be)) (b9 cA) (.eq cA.length aM.length (.eq s'.bN s.bN (K s'))))))
theorem Zy (ap:cf.n≤1000000) {t:TypeId} {b g c cC:Nat} {aM:List TV} {i:Int} {v:TV} {K:TS→aD} {Kp:List (Nat×List AV)→List Blk→Prop} (aH:Fits s) (aI:s.get (bB b)= .eb cC aM)
  (hK: ∀s' (Z':FZ),(K s').den R→ @Fits Z' s'→s'.tT cf.n=s.tT cf.n→Kp s'.bN (@TS.aq Z' cf.n s').H) (h:(MB P t b g i c v s cC aM K).den R):
  jB P t (.ptr b g i.toNat c) v.be (s.aq cf.n).L (s.aq cf.n).H Kp:=by
 obtain⟨h1,h2,aJ,bj,cP,eg,h⟩:=h
 subst h1;subst h2
 simp only[Bool.and_eq_true] at aJ
 obtain⟨⟨⟨hb,_⟩,a6⟩,hle⟩:=aJ
 have hb:b<s.aU:=by rw[←Nat.blt_eq];exact hb
 have hs:=yO a6
 unfold jB
 rw[if_pos hs]
 refine dg (by rw[oR hb,aI]) ⟨rfl,dg (a:=b9 aM) rfl ⟨by rw[k0,List.length_map];exact Nat.le_of_ble_eq_true hle,?_⟩⟩
 have:=hK _ Z h (nj aH) (ni ap)
 rw[r0 hb,eg] at this
 show Kp s.bN ((s.aq cf.n).H.set b ⟨cC,aM.length,[e9 (b9 aM) c (dP v.be)]⟩)
 rw[bj,←cP]
 exact this
end
inductive kY where
 | v (e:bk)
 | fr
 | w
def kY.es:List kY→List bk
 | []=>[]
 | .v e::r=>e::kY.es r
 | .fr::r=>kY.es r
 | .w::r=> .int::kY.es r
def uc (aI:Nat):(l:List kY)→cg (kY.es l)→List AV
 | [],_=>[]
 | .v e::r,x=>k6 e x.1::uc aI r x.2
 | .fr::r,x=> .ptr 0 aI 0 0::uc aI r x
 | .w::r,x=> .ptr 3 0 (show Int from x.1).toNat 0::uc aI r x.2
def yA (F:Frame):List TV:=[.b (.v F.ok),.ref 1 0 F.aA.length false,.ref 2 0 F.av.length false,.ref 3 0 F.M.length false]
def Av [Z:FZ] (aI:Nat) (ids:List Nat) (F:Frame):List Blk:=
 [⟨aI,4,[b9 (yA F)]⟩,⟨0,1,F.aA.map (cb true .bool)⟩,⟨0,2,F.av.map (cb true .dS)⟩,⟨0,5,bd 4 Z.ws ids⟩]++Z.bs.map bz
def y5 [Z:FZ] (ids:List Nat) (F:Frame):Prop:=ie Z.ws ids Z.bs∧view Z.ws ids Z.bs=F.M
def M_ (P:Program) (f:FuncId) (aI:Nat) (args:List AV) (F:Frame) (D6:Frame) (v:AV):Prop:=
 ∀(Z:FZ) (ids:List Nat),@y5 Z ids F→c8 P f args (@Av Z aI ids F) fun r H'=>r=v∧ ∃(Z':FZ) (cB:List Nat),@y5 Z' cB D6∧H'= @Av Z' aI cB D6
def sR (aI:Nat) (ids:List Nat) (F:Frame):List (Nat×TV):=
 [(bB 0,.eb aI (yA F)),(bB 1,.blk 0 .bool F.aA F.aA.length rfl),(bB 2,.blk 0 .dS F.av F.av.length rfl),(bB 3,.ia 0 4 ids),(cM,.fp F.M ids F.M.length rfl)]
def Au (s:TS) (K:Nat→Frame→List Nat→aD):aD:=match s.get (bB 0) with
 | .eb g aM=>(match aM with
  | [.b k,.ref hg g1 eS f1,.ref b7 g2 n2 f2,.ref wB g3 kf f3]=>(match s.get (bB 1) with
   | .blk h1 bi o aY _=>if q1:bi=bk.bool then(match s.get (bB 2) with
    | .blk h2 e2 q bu _=>if q2:e2=bk.dS then(match s.get (bB 3) with
     | .ia aJ fU ids=>(match s.get cM with
      | .fp V cB bC _=> .eq s.aU 4 (.eq (hg,g1,eS,f1) (1,0,aY,false) (.eq (b7,g2,n2,f2) (2,0,bu,false) (.eq (wB,g3,kf,f3) (3,0,bC,false) (.eq (h1,h2,aJ,fU) (0,0,0,4)
       (.eq cB ids (K g ⟨k.den,jq q1 o,jq q2 q,V⟩ ids))))))
      | _=> .no)
     | _=> .no) else .no
    | _=> .no) else .no
   | _=> .no)
  | _=> .no)
 | _=> .no
theorem Qb [Z:FZ] {n:Nat} {s:TS} {K:Nat→Frame→List Nat→aD} {R:Exit→TS→Prop} (aH:Fits s) (h:(Au s K).den R): ∃g F ids,(K g F ids).den R∧y5 ids F∧(s.aq n).H=Av g ids F∧s.aU=4∧s.get cM= .fp F.M ids F.M.length rfl:=by
 unfold Au at h
 split at h
 ·rename_i g aM oe
  split at h
  ·split at h
   ·rename_i h1 bi o aY Rq jv
    split at h
    ·rename_i q1
     subst q1
     split at h
     ·rename_i h2 e2 q bu qA uz
      split at h
      ·rename_i q2
       subst q2
       split at h
       ·rename_i aJ fU ids Ri
        split at h
        ·rename_i V cB bC ir hk
         obtain⟨a7,cY,fT,lm,Ty,BW,h⟩:=h
         cases cY;cases fT;cases lm;cases Ty;subst BW;subst Rq;subst qA;subst ir
         obtain⟨G,e,_⟩:=aH V cB _ _ hk
         refine⟨_,_,_,h,⟨G,e⟩,?_,a7,hk⟩
         rw[n8 hk]
         have gI:s.eW=[(s.get (bB 0)).dN,(s.get (bB 1)).dN,(s.get (bB 2)).dN,(s.get (bB 3)).dN]:=by unfold TS.eW;rw[a7];rfl
         rw[gI,oe,jv,uz,Ri];rfl
        ·exact h.elim
       ·exact h.elim
      ·exact h.elim
     ·exact h.elim
    ·exact h.elim
   ·exact h.elim
  ·exact h.elim
 ·exact h.elim
structure oU (P:Program) where
 f:FuncId
 gY:List kY
 rs:List bk
 pre:cg (kY.es gY)→Frame→Prop
 fn:cg (kY.es gY)→Frame→Frame
 bh:cg (kY.es gY)→Frame→cg rs
 ok: ∀aI x F,pre x F→M_ P f aI (uc aI gY x) F (fn x F) (o3 rs (bh x F))
def jm:(l:List kY)→List TV→cg (kY.es l)
 | [],_=>()
 | .v e::r,v::vs=>(Qi e v,jm r vs)
 | .fr::r,_::vs=>jm r vs
 | .w::r,v::vs=>((match v with
  | .ptr _ _ i _ _=>i
  | _=>(0:Int)),jm r vs)
 | .v e::r,[]=>(e.qK.default,jm r [])
 | .fr::r,[]=>jm r []
 | .w::r,[]=>((0:Int),jm r [])
def xd {P:Program}:List (oU P)→FuncId→(oU P→aD)→aD→aD
 | [],_,_,t=>t
 | c::r,f,K,t=>match Nat.beq c.f f with
  | true=>K c
  | false=>xd r f K t
def zz {P:Program} (c:oU P) (args:List TV) (s:TS) (K:TV→TS→aD):aD:=Au s fun g F ids=>
 .eq (b9 args) (uc g c.gY (jm c.gY args)) (.eq ((b9 args).all dC&&(b9 args).all hY) true (.p (c.pre (jm c.gY args) F) (.all (List Nat) fun cB=>
  let s':=s.add ((eH,.u)::sR g cB (c.fn (jm c.gY args) F)) s.vs s.aU
  .eq s'.bN s.bN (.eq (sV (o3 c.rs (c.bh (jm c.gY args) F))) true (K (yy c.rs (c.bh (jm c.gY args) F)) s')))))
theorem VK (aI:Nat) (ids:List Nat) (F:Frame) (s:TS):let s':=s.add ((eH,.u)::sR aI ids F) s.vs s.aU
  s'.get (bB 0)= .eb aI (yA F)∧s'.get (bB 1)= .blk 0 .bool F.aA F.aA.length rfl∧s'.get (bB 2)= .blk 0 .dS F.av F.av.length rfl∧s'.get (bB 3)= .ia 0 4 ids∧s'.get cM= .fp F.M ids F.M.length rfl∧s'.get eH= .u:=by
 intro s'
 have aN:eH≠bB 0∧eH≠bB 1∧eH≠bB 2∧eH≠bB 3∧eH≠cM:=by unfold eH bB cM;omega
 have e: ∀k,s'.get k=fy ((eH,.u)::sR aI ids F) k (s.get k):=fun k=>TS.gG ..
 refine⟨?_,?_,?_,?_,?_,?_⟩<;>rw[e]<;>rfl
theorem OA [Z:FZ] {P:Program} {n:Nat} (ap:n≤1000000) {c:oU P} {args:List TV} {s:TS} {K:TV→TS→aD} {R:Exit→TS→Prop} {Kp:AV→List (Nat×List AV)→List Blk→Prop} (aH:Fits s)
  (hK: ∀v s' (Z':FZ),(K v s').den R→ @Fits Z' s'→s'.tT n=s.tT n→Kp v.be s'.bN (@TS.aq Z' n s').H) (h:(zz c args s K).den R):iX P c.f (b9 args) (s.aq n).L (s.aq n).H Kp:=by
 unfold zz at h
 obtain⟨g,F,ids,bH,h1,h2,aJ,_⟩:=Qb (n:=n) aH h
 obtain⟨cY,fT,lm,hk⟩:=bH
 simp only[Bool.and_eq_true] at fT
 refine .inr (.inr (.inl ⟨fT.1,fT.2,?_⟩))
 rw[h2,cY]
 refine(c.ok g _ F lm Z ids h1).mono fun r H' ag=> ?_
 obtain⟨rfl,Z',cB,q1,rfl⟩:=ag
 obtain⟨BW,Tz,hk⟩:=hk cB
 refine⟨Tz,?_⟩
 obtain⟨al,aY,bu,di,eR,VG⟩:=VK g cB (c.fn (jm c.gY args) F) s
 have pf: @Fits Z' (s.add ((eH,.u)::sR g cB (c.fn (jm c.gY args) F)) s.vs s.aU):=by
  intro V3 xQ kf xG aJ
  rw[eR] at aJ
  cases aJ
  refine⟨q1.1,q1.2,fun id xs hx=> ?_⟩
  rw[VG] at hx;cases hx
 have:=hK _ _ Z' hk pf (vN ap fun p ak=>by
  simp only[sR,List.mem_cons,List.not_mem_nil,or_false] at ak
  rcases ak with rfl | rfl | rfl | rfl | rfl | rfl
  ·show 1000000≤eH;unfold eH;omega
  ·show 1000000≤bB 0;unfold bB;omega
  ·show 1000000≤bB 1;unfold bB;omega
  ·show 1000000≤bB 2;unfold bB;omega
  ·show 1000000≤bB 3;unfold bB;omega
  ·exact Nat.le_refl _)
 rw[BW,CP,@n8 Z' n _ _ _ _ _ eR] at this
 have gI: @TS.eW Z' (s.add ((eH,.u)::sR g cB (c.fn (jm c.gY args) F)) s.vs s.aU)=[@TV.dN Z' (.eb g (yA (c.fn (jm c.gY args) F))),@TV.dN Z' (.blk 0 .bool (c.fn (jm c.gY args) F).aA _ rfl),@TV.dN Z' (.blk 0 .dS (c.fn (jm c.gY args) F).av _ rfl),@TV.dN Z' (.ia 0 4 cB)]:=by
  rw[←al,←aY,←bu,←di]
  show(List.range s.aU).map _=_
  rw[aJ];rfl
 rw[gI] at this
 exact this
inductive jG where
 | v (e:bk)
 | p
def jG.es:List jG→List bk
 | []=>[]
 | .v e::r=>e::jG.es r
 | .p::r=>jG.es r
def wZ (g:Nat):(l:List jG)→cg (jG.es l)→List AV
 | [],_=>[]
 | .v e::r,x=>k6 e x.1::wZ g r x.2
 | .p::r,x=> .ptr 0 g 0 0::wZ g r x
structure nc (P:Program) where
 f:FuncId
 ce:bk
 gY:List jG
 rs:List bk
 pre:cg (jG.es gY)→ce.T→Prop
 fn:cg (jG.es gY)→ce.T→ce.T
 bh:cg (jG.es gY)→ce.T→cg rs
 ok: ∀g x c,pre x c→p0 P f g (wZ g gY x) (cb false ce c) (cb false ce (fn x c)) (o3 rs (bh x c))
def Ki:List jG→List TV→TV
 | .p::_,v::_=>v
 | .v _::r,_::vs=>Ki r vs
 | _,_=> .u
def AN:List jG→Bool
 | []=>false
 | .p::_=>true
 | .v _::r=>AN r
def CV:TS:=⟨[],[],[],0⟩
def wP (p:AV):(l:List jG)→List TV→(cg (jG.es l)→List Prop→aD)→aD
 | [],[],K=>K () []
 | .v e::r,v::vs,K=>conv CV e v fun x o=>wP p r vs fun y jQ=>K (x,y) (o++jQ)
 | .p::r,v::vs,K=> .eq v.be p (wP p r vs K)
 | _,_,_=> .no
def VV (e:bk):Bool:=e.l3
def zG {P:Program} (c:nc P) (args:List TV) (p:AV) (cells:List TV) (K:TV→c.ce.T→aD):aD:=
 .eq (b9 cells) (cb false c.ce (c.ce.mk (ms c.ce.iL cells))) (.eq (AN c.gY&&VV c.ce&&(b9 args).all dC) true (wP p c.gY args fun x o=>
  yb (o++[c.pre x (c.ce.mk (ms c.ce.iL cells))]) (K (yy c.rs (c.bh x (c.ce.mk (ms c.ce.iL cells)))) (c.fn x (c.ce.mk (ms c.ce.iL cells))))))
def zH {P:Program} (c:nc P) (args:List TV) (s:TS) (K:TV→TS→aD):aD:=match Ki c.gY args with
 | .ptr b g _ _ _=>(match s.get (bB b) with
  | .eb cC cells=>(match Nat.blt b s.aU with
   | true=> .eq cC g (zG c args (.ptr b g 0 0) cells fun v y=>
     let s':=s.fm b s.aU (.eb g (hj false c.ce y))
     .eq s'.bN s.bN (K v s'))
   | false=> .no)
  | _=> .no)
 | .lp v _=>(match iy s.vs v with
  | some m=>zG c args (.dZ v 0) (gb s v 0 m) fun w y=>
    let s':=s.add (qa v 0 (hj false c.ce y)) s.vs s.aU
    .eq s'.bN (iR s.bN v (cb false c.ce y)) (.eq (mg (qa v 0 (hj false c.ce y))) true (K w s'))
  | none=> .no)
 | _=> .no
def xe {P:Program}:List (nc P)→FuncId→(nc P→aD)→aD→aD
 | [],_,_,t=>t
 | c::r,f,K,t=>match Nat.beq c.f f with
  | true=>K c
  | false=>xe r f K t
theorem Fz {P:Program} {f:FuncId} {K:nc P→aD} {t:aD} {R:Exit→TS→Prop}: ∀{m7:List (nc P)},(xe m7 f K t).den R→(∃m,m.f=f∧(K m).den R)∨t.den R
 | [],h=> .inr h
 | c::r,h=>by
  unfold xe at h
  split at h
  ·rename_i hf;exact .inl ⟨c,Nat.eq_of_beq_eq_true hf,h⟩
  ·exact Fz h
theorem wY {e:bk} (h:e.l3=true) (x:e.T):(cb false e x).all qL=true∧(cb false e x).all hh=true:=by cases e<;>first | exact⟨rfl,rfl⟩ | cases h
theorem zF {p:AV} {g:Nat} {R:Exit→TS→Prop}: ∀{l:List jG} {vs:List TV} {K:cg (jG.es l)→List Prop→aD},(wP p l vs K).den R→ ∃x o,(K x o).den R∧((∀φ∈o,φ)→aK (pY p (.ptr 0 g 0 0)) (b9 vs) (wZ g l x))∧(AN l=true→p∈b9 vs)
 | [],[],K,h=>⟨(),[],h,fun _=>aK.nil,fun h=>by cases h⟩
 | .v e::r,v::vs,K,h=>by
  letI Z:FZ:=⟨[],[]⟩
  obtain⟨x,o,h,cY⟩:=zE (n:=0) (Fits.none (s:=CV) rfl) (show(conv CV e v _).den R from h)
  obtain⟨y,jQ,h,fT,lm⟩:=zF (l:=r) h
  exact⟨(x,y),o++jQ,h,fun aB=>aK.cons (.inr (cY fun φ dB=>aB φ (List.mem_append_left _ dB))) (fT fun φ dB=>aB φ (List.mem_append_right _ dB)),fun ak=>List.mem_cons_of_mem _ (lm ak)⟩
 | .p::r,v::vs,K,h=>by
  obtain⟨e,h⟩:=h
  obtain⟨y,jQ,h,fT,lm⟩:=zF (l:=r) h
  exact⟨y,jQ,h,fun aB=>aK.cons (.inl ⟨e,rfl⟩) (fT aB),fun _=>by rw[b9,e];exact List.mem_cons_self ..⟩
 | [],_::_,K,h=>h.elim
 | .v _::_,[],K,h=>h.elim
 | .p::_,[],K,h=>h.elim
theorem EU {P:Program} {c:nc P} {args:List TV} {p:AV} {cells:List TV} {K:TV→c.ce.T→aD} {R:Exit→TS→Prop} (g:Nat) (h:(zG c args p cells K).den R):
  ∃db x y t,(K t y).den R∧(b9 args).all dC=true∧b9 cells=cb false c.ce x∧c.ce.l3=true∧p∈b9 args∧aK (pY p (.ptr 0 g 0 0)) (b9 args) db∧p0 P c.f g db (cb false c.ce x) (cb false c.ce y) t.be:=by
 obtain⟨h1,h2,h⟩:=h
 simp only[Bool.and_eq_true] at h2
 obtain⟨x,o,h,fT,lm⟩:=zF (g:=g) h
 obtain⟨aB,h⟩:=JX h
 refine⟨_,_,_,_,h,h2.2,h1,h2.1.2,lm h2.1.1,fT fun φ dB=>aB φ (List.mem_append_left _ dB),?_⟩
 rw[CP]
 exact c.ok g x _ (aB _ (List.mem_append_right _ (List.mem_singleton.2 rfl)))
theorem KI {c:List TV} {e:bk} {x:e.T} (h:b9 c=cb false e x):c.length=(cb false e x).length:=by rw[←h,k0,List.length_map]
theorem OG [Z:FZ] {P:Program} {n:Nat} (ap:n≤1000000) {c:nc P} {args:List TV} {s:TS} {K:TV→TS→aD} {R:Exit→TS→Prop} {Kp:AV→List (Nat×List AV)→List Blk→Prop} (aH:Fits s)
  (hK: ∀v s' (Z':FZ),(K v s').den R→ @Fits Z' s'→s'.tT n=s.tT n→Kp v.be s'.bN (@TS.aq Z' n s').H) (h:(zH c args s K).den R):iX P c.f (b9 args) (s.aq n).L (s.aq n).H Kp:=by
 unfold zH at h
 split at h
 ·rename_i b g i m col ak
  split at h
  ·rename_i cC cells aI
   split at h
   ·rename_i hb
    have hb:b<s.aU:=by rw[←Nat.blt_eq];exact hb
    obtain⟨e,h⟩:=h
    subst e
    obtain⟨db,x,y,t,bH,h1,h2,aJ,bj,cP,eg⟩:=EU cC h
    obtain⟨bF,bH⟩:=bH
    refine .inr (.inr (.inr ⟨h1,db,cb false c.ce x,cb false c.ce y,t.be,(wY aJ x).1,(wY aJ y).2,.inl ⟨b,cC,?_,bj,cP,eg,?_⟩⟩))
    ·rw[oR hb,aI]
     show some (Blk.mk cC cells.length [b9 cells])=_
     rw[KI h2,h2]
    ·have:=hK _ _ Z bH (nj aH) (ni ap)
     rw[bF,r0 hb] at this
     have bi:TV.dN (.eb cC (hj false c.ce y))=Blk.mk cC (cb false c.ce x).length [cb false c.ce y]:=by
      show Blk.mk cC (hj false c.ce y).length [b9 (hj false c.ce y)]=_
      rw[KI (wL false c.ce y),wL,qc,qc]
     rw[bi] at this
     exact this
   ·exact h.elim
  ·exact h.elim
 ·rename_i v col ak
  split at h
  ·rename_i m hm
   obtain⟨db,x,y,t,bH,h1,h2,aJ,bj,cP,eg⟩:=EU 0 h
   obtain⟨bF,hb,bH⟩:=bH
   refine .inr (.inr (.inr ⟨h1,db,cb false c.ce x,cb false c.ce y,t.be,(wY aJ x).1,(wY aJ y).2,.inr ⟨v,?_,bj,cP,eg,?_⟩⟩))
   ·rw[ry,hm,←h2];rfl
   ·have:=hK _ _ Z bH (tP hb aH) (tO ap hb)
    rw[bF,tN hb] at this
    exact this
  ·exact h.elim
 ·exact h.elim
structure nd (P:Program) where
 len:List Nat
 kp:List (oU P)
 yU:List (nc P)
def DI (P:Program) (n:Nat) (t:TypeId) (b g:Nat) (i:Int) (m c:Nat) (v:TV) (s:TS) (w:TV) (K:TS→aD):aD:=match w with
 | .ia cC fU ids=>(match sX v with
  | true=>DJ P t b g i c v s cC fU ids K
  | false=> .no)
 | .eb cC aM=>MB P t b g i c v s cC aM K
 | _=>DF P n t b g i m c v s K
section
variable {P:Program} (cf:fO P) (s:TS)
def yZ (dF:nd P) (o:Oper) (K:TV→TS→aD):aD:=match o.op with
 | .store t a v=>(match b0 cf.n s a with
  | .lp x c=>mr (b0 cf.n s v) fun w=>uj cf s o (.tup []) (qa x c (nk w)) s.vs K
  | .ptr b g i m c=>mr (b0 cf.n s v) fun w=>DI P cf.n t b g i m c w s (s.get (bB b)) fun s'=>K (.tup []) s'
  | .sj w ids m j=>mr (b0 cf.n s v) fun x=>vP P t w ids m j x s fun s'=>K (.tup []) s'
  | _=> .no)
 | .alloc e=>(match o.dst with
  | some d=>uj cf s o (.lp d 0) (qa d 0 (v_ P e)) ((d,(v_ P e).length)::s.vs) K
  | none=> .no)
 | .box _ x=>(match o.dst with
  | some d=>mr (b0 cf.n s x) fun w=>uj cf s o (.lp d 0) (qa d 0 (nk w)) ((d,(nk w).length)::s.vs) K
  | none=> .no)
 | .makeSlice t l c=>(match gX s with
  | true=>sQ cf.z7 t fun e=>Ch P cf.n t e (b0 cf.n s l) (b0 cf.n s c) s K
  | false=>Cg P t (b0 cf.n s l) (b0 cf.n s c) s K)
 | .buildSlice t m ps=>sQ cf.z7 t fun e=>xY s e (ps.toList.map fun p=>b0 cf.n s p.2) fun xs=>oa (fun H Q=>hE P o (fun x=>(b0 cf.n s x).be) s.bN H Q) (fun v=>K v s) (.v (Jo e xs (ps.toList.map fun p=>b0 cf.n s p.2)))
 | .binOp op t x y _=>(match b0 cf.n s x with
  | .l e xs _ _=>(match op with
   | .eql=> .eq (nG y&&(gU P t).isSome) true (.two (.hI (xs≠[]) (K (.b .f) s)) (.hI (xs=[]) (.all Bool fun b=>K (.b (.v b)) s)))
   | _=> .no)
  | _=>oM cf s o fun v=>K v s)
 | .call c=>(match c.callee with
  | .builtin b=>(match b with
   | .len=>(match c.args.toList,c.argTypes.toList with
    | [x],[t]=>(match b0 cf.n s x with
     | .l e xs cS fr=>(match o.dst with
      | some d=>(match dF.len.any (Nat.beq d) with
       | true=>oM cf s o fun v=>K v s
       | false=> .eq (hJ P t (TV.l e xs cS fr).be) true (.hI (xs.length≤4611686018427387904) (K (.i .i64 xs.length) s)))
      | none=> .no)
     | _=>oM cf s o fun v=>K v s)
    | _,_=> .no)
   | .append=>(match c.args.toList,c.argTypes.toList with
    | [x,y],[t,t2]=>zh P cf.n t t2 (b0 cf.n s x) (b0 cf.n s y) s K
    | _,_=> .no)
   | _=> .no)
  | .value f=>(match b0 cf.n s f with
   | .fn g caps=>xd dF.kp g (fun m=>zz m (c.args.toList.map (b0 cf.n s)++caps) s K) (xe dF.yU g (fun m=>zH m (c.args.toList.map (b0 cf.n s)++caps) s K) (oM cf s o fun v=>K v s))
   | _=> .no)
  | _=> .no)
 | _=>oM cf s o fun v=>K v s
end
section
variable {P:Program} {cf:fO P} {s:TS} {R:Exit→TS→Prop}
variable {K:TV→TS→aD} {Kp:AV→List (Nat×List AV)→List Blk→Prop}
theorem Zu {t:TypeId} {m:Nat} {ids:List Nat} {w j:Int} {v:TV} {K:TS→aD} (h:(vP P t w ids m j v s K).den R):dC v.be=true:=by
 unfold vP at h
 split at h
 ·obtain⟨_,_,_,h⟩:=h
  split at h
  ·rfl
  ·exact h.elim
 ·exact h.elim
end
section
variable {P:Program} {cf:fO P} {s:TS} {R:Exit→TS→Prop}
variable {K:TV→TS→aD} {Kp:AV→List (Nat×List AV)→List Blk→Prop}
theorem Fy {f:FuncId} {K:oU P→aD} {t:aD}: ∀{m7:List (oU P)},(xd m7 f K t).den R→(∃m,m.f=f∧(K m).den R)∨t.den R
 | [],h=> .inr h
 | c::r,h=>by
  unfold xd at h
  split at h
  ·rename_i hf;exact .inl ⟨c,Nat.eq_of_beq_eq_true hf,h⟩
  ·exact Fy h
end
section
variable [Z:FZ] {P:Program} {cf:fO P} {s:TS} {R:Exit→TS→Prop}
variable {K:TV→TS→aD} {Kp:AV→List (Nat×List AV)→List Blk→Prop}
theorem Zx (ap:cf.n≤1000000) (aH:Fits s) {t:TypeId} {b g m c:Nat} {i:Int} {v:TV} {K:TS→aD} {Kp:List (Nat×List AV)→List Blk→Prop} (hK: ∀s' (Z':FZ),(K s').den R→ @Fits Z' s'→s'.tT cf.n=s.tT cf.n→Kp s'.bN (@TS.aq Z' cf.n s').H)
  (h:(DI P cf.n t b g i m c v s (s.get (bB b)) K).den R):dD (dC v.be) (jB P t (.ptr b g i.toNat c) v.be (s.aq cf.n).L (s.aq cf.n).H Kp):=by
 unfold DI at h
 split at h
 ·rename_i cC fU ids aI
  split at h
  ·rename_i hv
   exact x9 (x8 hv) (Zz ap aH aI hK h)
  ·exact h.elim
 ·rename_i cC aM aI
  have aJ:(Nat.blt b s.aU&&sX v&&rv P t v.be&&Nat.ble (c+(dP v.be).length) aM.length)=true:=h.2.2.1
  simp only[Bool.and_eq_true] at aJ
  exact x9 (x8 aJ.1.1.2) (Zy ap aH aI hK h)
 ·exact Zr ap aH hK h
theorem MW (ap:cf.n≤1000000) (aH:Fits s) {dF:nd P} {o:Oper} (hK:rU cf s R K Kp) (h:(yZ cf s dF o K).den R):hQ P [] o (bL (s.aq cf.n).T) (s.aq cf.n).L (s.aq cf.n).H Kp:=by
 have vy: ∀v,(K v s).den R→Kp v.be (s.aq cf.n).L (s.aq cf.n).H:=fun v hv=>hK v s Z hv aH rfl
 have rd:(oM cf s o fun v=>K v s).den R→hE P o (bL (s.aq cf.n).T) (s.aq cf.n).L (s.aq cf.n).H fun r=>Kp r (s.aq cf.n).L (s.aq cf.n).H:=fun h=>KK aH (Kp:=fun r=>Kp r (s.aq cf.n).L (s.aq cf.n).H) vy h
 unfold yZ at h
 split at h
 ·rename_i t a v ew
  split at h
  ·rw[nr] at h;exact AF ap aH hK h
  ·rename_i b g i m c aL
   rw[nr] at h
   obtain⟨dst,op,ty,pos,after,guard⟩:=o
   cases ew
   show dD (dC (bL (s.aq cf.n).T v)) (jB P t (bL (s.aq cf.n).T a) (bL (s.aq cf.n).T v) _ _ _)
   rw[iN]
   show dD (dC (b0 cf.n s v).be) (jB P t (b0 cf.n s a).be (b0 cf.n s v).be _ _ _)
   rw[aL]
   exact Zx ap aH (fun s' Z' h1 hf h2=>hK (.tup []) s' Z' h1 hf h2) h
  ·rename_i w ids m j aL
   rw[nr] at h
   obtain⟨dst,op,ty,pos,after,guard⟩:=o
   cases ew
   show dD (dC (bL (s.aq cf.n).T v)) (jB P t (bL (s.aq cf.n).T a) (bL (s.aq cf.n).T v) _ _ _)
   rw[iN]
   show dD (dC (b0 cf.n s v).be) (jB P t (b0 cf.n s a).be (b0 cf.n s v).be _ _ _)
   rw[aL]
   refine x9 ?_ (Zv ap aH (fun s' Z' h1 hf h2=>hK (.tup []) s' Z' h1 hf h2) h)
   exact Zu h
  ·exact h.elim
 ·split at h
  ·exact AF ap aH hK h
  ·exact h.elim
 ·split at h
  ·rw[nr] at h;exact AF ap aH hK h
  ·exact h.elim
 ·rename_i t l c ew
  obtain⟨dst,op,ty,pos,after,guard⟩:=o
  cases ew
  show sS P t (bL (s.aq cf.n).T l) (bL (s.aq cf.n).T c) _ _ _
  rw[iN]
  split at h
  ·obtain⟨e,h⟩:=B9 h
   exact VO ap aH hK h
  ·exact VM ap aH hK h
 ·rename_i t m ps ew
  obtain⟨e,h⟩:=B9 h
  obtain⟨xs,h⟩:=B8 (n:=cf.n) aH h
  refine WV ew ?_
  rw[iN]
  exact pa (F:=fun H Q=>hE P o _ _ H Q) (s.aq cf.n).H (Kp:=fun r=>Kp r (s.aq cf.n).L (s.aq cf.n).H) vy h
 ·rename_i op t x y ty2 ew
  split at h
  ·rename_i e xs cS fr hx
   split at h
   ·obtain⟨h1,h2,aJ⟩:=h
    obtain⟨dst,op,ty,pos,after,guard⟩:=o
    cases ew
    show oZ P .eql t (bL (s.aq cf.n).T x) _ (nG y) _
    rw[iN]
    show oZ P .eql t (b0 cf.n s x).be _ (nG y) _
    rw[hx]
    show if nG y=true∧(gU P t).isSome=true then _ else _
    rw[if_pos (by simpa using h1)]
    refine⟨fun b2=> ?_,fun he b=> ?_⟩
    ·exact vy (.b .f) (h2 fun e=>b2 (by rw[e];rfl))
    ·exact vy (.b (.v b)) (aJ (by simpa using he) b)
   ·exact h.elim
  ·refine KL (rd h) (fun c=>by rw[ew];intro e;cases e) (fun t m ps=>by rw[ew];intro e;cases e)
 ·rename_i c ew
  obtain⟨callee,args,argTypes⟩:=c
  split at h
  ·rename_i b hb
   cases hb
   split at h
   ·split at h
    ·rename_i x t h1 h2
     simp only at h1 h2
     split at h
     ·rename_i e xs cS fr hx
      split at h
      ·split at h
       ·exact CM ew (rd h)
       ·obtain⟨bi,h⟩:=h
        obtain⟨dst,op,ty,pos,after,guard⟩:=o
        cases ew
        show(match args.toList,argTypes.toList with
         | [x],[t]=>dD (hJ P t (bL (s.aq cf.n).T x)) (ow (bL (s.aq cf.n).T x) fun r=>Kp r _ _)
         | _,_=>False)
        simp only[h1,h2]
        rw[iN]
        show dD (hJ P t (b0 cf.n s x).be) (ow (b0 cf.n s x).be _)
        rw[hx,bi]
        show(List.map _ _).length≤_→Kp (.int .i64 ((List.map _ _).length:Nat)) _ _
        rw[List.length_map]
        exact fun aE=>vy _ (h aE)
      ·exact h.elim
     ·exact CM ew (rd h)
    ·exact h.elim
   ·split at h
    ·rename_i x y t t2 h1 h2
     simp only at h1 h2
     obtain⟨dst,op,ty,pos,after,guard⟩:=o
     cases ew
     show(match args.toList,argTypes.toList with
      | [s',x],[t,t2]=>dC (bL (s.aq cf.n).T s')=true∧dC (bL (s.aq cf.n).T x)=true∧p6 P t t2 (bL (s.aq cf.n).T s') (bL (s.aq cf.n).T x) _ _ _
      | _,_=>False)
     simp only[h1,h2]
     rw[iN]
     exact ND ap aH hK h
    ·exact h.elim
   ·exact h.elim
  ·rename_i f hf
   cases hf
   split at h
   ·rename_i g caps hc
    rcases Fy h with⟨m,e,hm⟩ | hm
    ·subst e
     obtain⟨dst,op,ty,pos,after,guard⟩:=o
     cases ew
     show jp (bL (s.aq cf.n).T f) fun g caps=>iX P g (args.toList.map (bL (s.aq cf.n).T)++caps) _ _ Kp
     rw[iN]
     show jp (b0 cf.n s f).be fun g caps=>iX P g (args.toList.map (fun x=>(b0 cf.n s x).be)++caps) _ _ Kp
     rw[hc]
     have:=OA (n:=cf.n) ap aH (fun v s' Z' h1 h2 aJ=>hK v s' Z' h1 h2 aJ) hm
     rw[k0,List.map_append,List.map_map] at this
     show iX P m.f (_++b9 caps) _ _ Kp
     rw[k0];exact this
    ·rcases Fz hm with⟨m,e,ak⟩ | hm
     ·subst e
      obtain⟨dst,op,ty,pos,after,guard⟩:=o
      cases ew
      show jp (bL (s.aq cf.n).T f) fun g caps=>iX P g (args.toList.map (bL (s.aq cf.n).T)++caps) _ _ Kp
      rw[iN]
      show jp (b0 cf.n s f).be fun g caps=>iX P g (args.toList.map (fun x=>(b0 cf.n s x).be)++caps) _ _ Kp
      rw[hc]
      have:=OG (n:=cf.n) (Kp:=Kp) ap aH (fun v s' Z' h1 h2 aJ=>hK v s' Z' h1 h2 aJ) ak
      rw[k0,List.map_append,List.map_map] at this
      show iX P m.f (_++b9 caps) _ _ Kp
      rw[k0];exact this
     ·exact CM ew (rd hm)
   ·exact h.elim
  ·exact h.elim
 ·rename_i h1 h2 aJ bj cP eg j8
  exact KL (rd h) (fun c=>j8 c) (fun t m ps=>cP t m ps)
end
def qP (b:Bool):TV:= .b (match b with
 | true=> .t
 | false=> .f)
theorem Jp (b:Bool):(qP b).be= .bool b:=by cases b<;>rfl
def yL (x:dd) (s:TS) (K:Bool→TS→aD):aD:=match x with
 | .t=>K true s
 | .f=>K false s
 | x=> .gK x s (K true ⟨[],s.T++s.B,s.vs,s.aU⟩) (K false ⟨[],s.T++s.B,s.vs,s.aU⟩)
def yT (d:Nat) (v:TV):TV:=match v with
 | .b x=>(match x with
  | .v p=> .b (.at d p)
  | x=> .b x)
 | v=>v
theorem ZD (d:Nat) (v:TV):(yT d v).be=v.be:=by
 unfold yT
 split
 ·split<;>rfl
 ·rfl
def h5 (n:Nat) (s:TS) (d:Option Nat) (v:TV):TS:=match d with
 | none=>s
 | some d=>match Nat.blt d n with
  | true=>s.put d (yT d v)
  | false=>s
theorem Zp [FZ] {n:Nat} {s s':TS} (hv:s'.vs=s.vs) (hb:s'.aU=s.aU) (h: ∀k,s'.get k=s.get k):s'.aq n=s.aq n:=by
 have hc: ∀v c m,gb s' v c m=gb s v c m:=by
  intro v c m
  induction m generalizing c with
  | zero=>rfl
  | succ m bx=>rw[gb,gb,h _,bx]
 have az:=DE (n:=n) hb (fun b=>h _) (h cM)
 have bM:s'.tT n=s.tT n:=by unfold TS.tT;simp only[h]
 have bF:s'.bN=s.bN:=by unfold TS.bN;simp only[hv,hc]
 show(⟨s'.tT n,s'.bN,(s'.aq n).H⟩:St)=_
 rw[bM,bF,az];rfl
theorem Mu (s:TS) (k:Nat):TS.get ⟨[],s.T++s.B,s.vs,s.aU⟩ k=s.get k:=by unfold TS.get;simp only;rw[qQ];rfl
theorem Zi [FZ] {n:Nat} (s:TS):TS.aq n ⟨[],s.T++s.B,s.vs,s.aU⟩=s.aq n:=Zp rfl rfl (Mu s)
theorem DD [FZ] {n:Nat} {x:dd} {s:TS} {K:Bool→TS→aD} {R:Exit→TS→Prop} (h:(yL x s K).den R): ∃s',s'.aq n=s.aq n∧(∀k,s'.get k=s.get k)∧(K x.den s').den R:=by
 have key:(aD.gK x s (K true ⟨[],s.T++s.B,s.vs,s.aU⟩) (K false ⟨[],s.T++s.B,s.vs,s.aU⟩)).den R→ ∃s',s'.aq n=s.aq n∧(∀k,s'.get k=s.get k)∧(K x.den s').den R:=fun h=>by
  refine⟨_,Zi s,Mu s,?_⟩
  ·cases hx:x.den with
   | true=>exact h.1 hx
   | false=>exact h.2 hx
 cases x with
 | t=>exact⟨s,rfl,fun _=>rfl,h⟩
 | f=>exact⟨s,rfl,fun _=>rfl,h⟩
 | _=>exact key h
theorem yj {s:TS} {d k:Nat} {v:TV} (h:d<1000000) (hk:1000000≤k):(s.put d v).get k=s.get k:=by rw[TS.AC,if_neg (by omega)]
theorem CB [FZ] {s:TS} {d:Nat} {v:TV} (h:d<1000000) (f:Fits s):Fits (s.put d v):=f.congr fun k h1 _=>yj h h1
theorem Kn {s:TS} {d:Nat} {v:TV} (h:d<1000000):(s.put d v).bN=s.bN:=by
 have hc: ∀dx c m,gb (s.put d v) dx c m=gb s dx c m:=by
  intro dx c m
  induction m generalizing c with
  | zero=>rfl
  | succ m bx=>rw[gb,gb,yj h (by unfold jP;omega),bx]
 show s.vs.map _=s.vs.map _
 simp only[hc]
theorem Km [FZ] {n:Nat} {s:TS} {d:Nat} {v:TV} (h:d<1000000):((s.put d v).aq n).H=(s.aq n).H:=DE rfl (fun b=>yj h (by unfold bB;omega)) (yj h (by unfold cM;omega))
theorem vm [FZ] {n:Nat} (ap:n≤1000000) (s:TS) (d:Option Nat) (v:TV):(h5 n s d v).aq n=⟨putA (s.aq n).T d v.be,(s.aq n).L,(s.aq n).H⟩:=by
 cases d with
 | none=>rfl
 | some d=>
  unfold h5
  simp only
  split
  ·rename_i aZ
   have aZ:d<n:=by rw[←Nat.blt_eq];exact aZ
   rw[←ZD d v]
   generalize yT d v=v
   have bM:(s.put d v).tT n=(s.tT n).set d v.be:=by
    apply List.ext_getElem?
    intro t
    show((List.range n).map fun t=>((s.put d v).get t).be)[t]?=(((List.range n).map fun t=>(s.get t).be).set d v.be)[t]?
    rw[List.getElem?_set]
    simp only[List.getElem?_map,List.length_map,List.length_range]
    rcases Nat.lt_or_ge t n with h | h
    ·rw[List.getElem?_range h]
     simp only[Option.map_some]
     rw[TS.AC]
     by_cases e:d=t
     ·simp[e,h]
     ·simp[e]
    ·rw[List.getElem?_eq_none (l:=List.range n) (by simpa using h)]
     by_cases e:d=t
     ·omega
     ·simp[e]
   have bF:=Kn (s:=s) (v:=v) (show d<1000000 by omega)
   have az:=Km (n:=n) (s:=s) (v:=v) (show d<1000000 by omega)
   show(⟨(s.put d v).tT n,(s.put d v).bN,((s.put d v).aq n).H⟩:St)=_
   rw[bM,bF,az];rfl
  ·rename_i aZ
   have aZ: ¬d<n:=fun h=>by rw[←Nat.blt_eq] at h;rw[h] at aZ;cases aZ
   show s.aq n=⟨(s.aq n).T.set d v.be,_,_⟩
   rw[List.set_eq_of_length_le]
   show((List.range n).map _).length≤d
   simp;omega
theorem vl [FZ] {n:Nat} (ap:n≤1000000) {s:TS} {d:Option Nat} {v:TV} (f:Fits s):Fits (h5 n s d v):=by
 unfold h5
 split
 ·exact f
 ·split
  ·rename_i aZ
   exact CB (by rw[Nat.blt_eq] at aZ;omega) f
  ·exact f
theorem Kr [FZ] {n:Nat} {s:TS} {t:Nat} {v:TV} (bt:t<1000000) (h:(s.get t).be=v.be):(s.put t v).aq n=s.aq n:=by
 have bM:(s.put t v).tT n=s.tT n:=by
  unfold TS.tT
  refine List.map_congr_left fun k _=> ?_
  rw[TS.AC];split
  ·rename_i e;subst e;exact h.symm
  ·rfl
 have bF:=Kn (s:=s) (v:=v) bt
 have az:=Km (n:=n) (s:=s) (v:=v) bt
 show(⟨(s.put t v).tT n,(s.put t v).bN,((s.put t v).aq n).H⟩:St)=_
 rw[bM,bF,az];rfl
section
variable {P:Program} (cf:fO P)
def ye (c x y:Operand) (s:TS) (K:TV→TS→aD):aD:=match b0 cf.n s c with
 | .b z=>yL z s fun b s=>
  let s:=match c with
   | .tmp t=>s.put t (qP b)
   | _=>s
  mr (b0 cf.n s (bif b then x else y)) fun v=>K v s
 | _=> .no
def xg (ops:Array Oper) (o:Oper) (s:TS) (run skip:TS→aD):aD:=match o.guard with
 | none=>run s
 | some g=>match(ops[g.1]?).bind (·.dst) with
  | none=> .no
  | some t=>match b0 cf.n s (.tmp t) with
   | .b z=>yL z s fun b s=>bif b==g.2 then run (s.put t (qP b)) else skip (s.put t (qP b))
   | .tup c=>match c with
    | []=>skip s
    | _=> .no
   | _=> .no
def stepT (dF:nd P) (o:Oper) (s:TS) (K:TV→TS→aD):aD:=match o.op with
 | .pick c x y=>ye cf c x y s K
 | _=>yZ cf s dF o K
def yz (dF:nd P) (ops:Array Oper):List Oper→TS→(TS→aD)→aD
 | [],s,K=>K s
 | o::r,s,K=>xg cf ops o s (fun s=>stepT cf dF o s fun v s=>yz dF ops r (h5 cf.n s o.dst v) K) (fun s=>yz dF ops r (h5 cf.n s o.dst (.tup [])) K)
def At (ops:Array Oper) (s:TS):List Nat→aD→aD
 | [],k=>k
 | i::r,k=> .eq ((opI ops i).guard.isNone&&(opI ops i).dst.isSome) true (.eq (fun(Z:FZ) H Q=>iY P (opI ops i) (fun x=>(b0 cf.n s x).be) s.bN (@TS.eW Z s++H) Q) (fun _ _ Q=>Q (match(opI ops i).dst with
  | some d=>(b0 cf.n s (.tmp d)).be
  | none=> .undef)) (At ops s r k))
def pM (dF:nd P) (ops:Array Oper):List Item→TS→(TS→aD)→aD
 | [],s,K=>K s
 | x::r,s,K=>xg cf ops (opI ops x.i) s
   (fun s=>match x.q with
    | true=>(match mN (opI ops x.i) with
     | true=>(match(opI ops x.i).dst with
      | some d=> .eq (fun H Q=>iY P (opI ops x.i) (fun x=>(b0 cf.n s x).be) s.bN H Q) (fun _ Q=>Q (.dZ d 0)) (pM dF ops r (h5 cf.n s (opI ops x.i).dst (.lp d 0)) K)
      | none=> .no)
     | false=>(match(opI ops x.i).op with
      | .pick c a b=>ye cf c a b s fun v s=>pM dF ops r (h5 cf.n s (opI ops x.i).dst v) K
      | _=>oM cf s (opI ops x.i) fun v=>pM dF ops r (h5 cf.n s (opI ops x.i).dst v) K))
    | false=>(match(opI ops x.i).op with
     | .pick _ _ _=> .no
     | _=>yZ cf s dF (opI ops x.i) fun v s=>At cf ops s x.hn (pM dF ops r (h5 cf.n s (opI ops x.i).dst v) K)))
   (fun s=>pM dF ops r (h5 cf.n s (opI ops x.i).dst (.tup [])) K)
def wa (P:Program) (ops:Array Oper):List Item→List (Nat×List TV)
 | []=>[]
 | x::r=>match x.q with
  | true=>(match(opI ops x.i).op with
   | .alloc e=>(match(opI ops x.i).dst with
    | some d=>(d,v_ P e)::wa P ops r
    | none=>wa P ops r)
   | _=>wa P ops r)
  | false=>wa P ops r
def D4:List (Nat×List TV)→List (Nat×TV)
 | []=>[]
 | (d,c)::r=>qa d 0 c++D4 r
def zS (dF:nd P) (ops:Array Oper) (ord:List Item) (hP:List (List Nat)) (s:TS) (K:TS→aD):aD:=
 let gA:=wa P ops ord
 let s':=s.add (D4 gA) (gA.map (fun p=>(p.1,p.2.length))++s.vs) s.aU
 match mg (D4 gA) with
 | false=> .no
 | true=> .eq (P.follows .mixedOrders) true (.eq hP.length ops.size (.eq (r_ ops ord (tQ hP)) true (.eq (ord.all (·.lit)) true (.eq s'.bN (gA.map (fun p=>(p.1,b9 p.2))++s.bN)
  (.eq (qd (gA.map fun p=>(p.1,b9 p.2)) s.bN) true (.eq (p5 ops s.bN ord) true (pM cf dF ops ord s' K)))))))
end
section
variable {P:Program} {cf:fO P} {R:Exit→TS→Prop}
theorem Cc {n t:Nat} {s:TS} {v:TV} (h:b0 n s (.tmp t)=v) (hv:v≠ .u):t<n∧s.get t=v:=by
 have h:(match Nat.blt t n with
  | true=>s.get t
  | false=>TV.u)=v:=h
 split at h
 ·rename_i hb;exact⟨by rw[←Nat.blt_eq];exact hb,h⟩
 ·exact absurd h.symm hv
end
section
variable {P:Program} {cf:fO P} {R:Exit→TS→Prop}
theorem Xv {T:List AV} {t:Nat} {a:AV} (h:T.getD t .undef=a):T.set t a=T∨a= .undef:=by
 by_cases aE:t<T.length
 ·left
  rw[List.getD_eq_getElem?_getD,List.getElem?_eq_getElem aE] at h
  have h:T[t]=a:=h
  rw[←h];exact List.set_getElem_self ..
 ·right;rw[←h,List.getD_eq_getElem?_getD,List.getElem?_eq_none (by omega)];rfl
end
section
variable {P:Program} {cf:fO P} {R:Exit→TS→Prop}
theorem Wj {o:Oper} {T:List AV} {K:AV→Prop} {wX:Prop} (h: ∀c x y,o.op≠ .pick c x y):q0 true o T K wX=wX:=by
 unfold q0
 split
 ·rename_i c x y e;exact absurd e (h c x y)
 ·rfl
end
section
variable [Z:FZ] {P:Program} {cf:fO P} {R:Exit→TS→Prop}
theorem FO (ap:cf.n≤1000000) {ops:Array Oper} {o:Oper} {s:TS} {run skip:TS→aD} {x y:List AV→Prop} (aH:Fits s) (hx: ∀s',Fits s'→s'.aq cf.n=s.aq cf.n→(run s').den R→x (s.aq cf.n).T) (bm: ∀s',Fits s'→s'.aq cf.n=s.aq cf.n→(skip s').den R→y (s.aq cf.n).T)
  (h:(xg cf ops o s run skip).den R):lc ops true o (s.aq cf.n).T x y:=by
 unfold xg at h
 unfold lc
 split at h
 ·rename_i aI;rw[aI];exact hx s aH rfl h
 ·rename_i g aI
  obtain⟨j,b1⟩:=g
  rw[aI]
  simp only at h ⊢
  split at h
  ·exact h.elim
  ·rename_i t bt
   rw[bt]
   simp only
   have bM:(s.aq cf.n).T.getD t .undef=(b0 cf.n s (.tmp t)).be:=by
    have:=congrFun (iN cf.n s) (.tmp t);exact this
   split at h
   ·rename_i z nD
    rw[nD] at bM
    rw[bM]
    show mi true z.den _ _
    obtain⟨aE,fx⟩:=Cc nD (fun e=>by cases e)
    obtain⟨s',bi,e2,h⟩:=DD (n:=cf.n) h
    have lh:Fits (s'.put t (qP z.den)):=CB (by omega) (aH.congr fun k _ _=>e2 k)
    have om:(s'.put t (qP z.den)).aq cf.n=s.aq cf.n:=by
     rw[Kr (by omega) (by rw[e2,fx,Jp];rfl),bi]
    have pq: ∀b,z.den=b→(s.aq cf.n).T.set t (.bool b)=(s.aq cf.n).T:=fun b hb=>by
     rcases Xv (show(s.aq cf.n).T.getD t .undef= .bool b by rw[bM,←hb];rfl) with q | q
     ·exact q
     ·cases q
    cases mJ:z.den with
    | true=>
     rw[mJ] at h om lh
     show if b1=true then _ else _
     rw[pq true mJ]
     cases b1 with
     | true=>rw[if_pos rfl];exact hx _ lh om h
     | false=>rw[if_neg (by simp)];exact bm _ lh om h
    | false=>
     rw[mJ] at h om lh
     show if b1=true then _ else _
     rw[pq false mJ]
     cases b1 with
     | true=>rw[if_pos rfl];exact bm _ lh om h
     | false=>rw[if_neg (by simp)];exact hx _ lh om h
   ·rename_i c nD
    rw[nD] at bM
    split at h
    ·rw[bM];exact bm s aH rfl h
    ·exact h.elim
   ·exact h.elim
theorem J7 (ap:cf.n≤1000000) {c x y:Operand} {s:TS} {K:TV→TS→aD} {Kp:AV→Prop} (aH:Fits s) (hK: ∀v s',Fits s'→s'.aq cf.n=s.aq cf.n→(K v s').den R→Kp v.be) (h:(ye cf c x y s K).den R):
  lP (bL (s.aq cf.n).T c) fun z=>mi true z (Kp (bL (s.aq cf.n).T x)) (Kp (bL (s.aq cf.n).T y)):=by
 unfold ye at h
 split at h
 ·rename_i z nD
  obtain⟨s',bi,e2,h⟩:=DD (n:=cf.n) h
  simp only at h
  rw[nr] at h
  generalize GX:(match c with
   | .tmp t=>s'.put t (qP z.den)
   | _=>s')=s2 at h
  have cE:s2.aq cf.n=s.aq cf.n:=by
   rw[←GX,←bi]
   split
   ·rename_i t
    obtain⟨aE,fx⟩:=Cc nD (fun e=>by cases e)
    exact Kr (by omega) (by rw[e2,fx,Jp];rfl)
   ·rfl
  have hf2:Fits s2:=by
   rw[←GX]
   split
   ·rename_i t
    obtain⟨aE,fx⟩:=Cc nD (fun e=>by cases e)
    exact CB (by omega) (aH.congr fun k _ _=>e2 k)
   ·exact aH.congr fun k _ _=>e2 k
  have:=hK _ _ hf2 cE h
  have aB: ∀o,(b0 cf.n s2 o).be=bL (s.aq cf.n).T o:=fun o=>by rw[←cE,iN]
  rw[aB] at this
  have hc:bL (s.aq cf.n).T c= .bool z.den:=by
   have:=congrFun (iN cf.n s) c
   rw[this]
   show(b0 cf.n s c).be=_
   rw[nD];rfl
  rw[hc]
  show mi true z.den _ _
  cases mJ:z.den with
  | true=>rw[mJ] at this;exact this
  | false=>rw[mJ] at this;exact this
 ·exact h.elim
theorem Zt (ap:cf.n≤1000000) {dF:nd P} {o:Oper} {s:TS} {K:TV→TS→aD} {Kp:AV→List (Nat×List AV)→List Blk→Prop} (aH:Fits s) (hK:rU cf s R K Kp) (h:(stepT cf dF o s K).den R):
  q0 true o (s.aq cf.n).T (fun v=>Kp v (s.aq cf.n).L (s.aq cf.n).H) (hQ P [] o (bL (s.aq cf.n).T) (s.aq cf.n).L (s.aq cf.n).H Kp):=by
 unfold stepT at h
 split at h
 ·rename_i c x y ew
  unfold q0
  rw[ew]
  exact J7 ap (Kp:=fun v=>Kp v (s.aq cf.n).L (s.aq cf.n).H) aH (fun v s' hf e hv=>by
   have eT:s'.tT cf.n=s.tT cf.n:=congrArg St.T e
   have e3:s'.bN=s.bN:=congrArg St.L e
   have:=hK v s' Z hv hf eT
   rw[e3,e] at this;exact this) h
 ·rename_i b2
  rw[Wj fun c x y=>b2 c x y]
  exact MW ap aH hK h
end
section
variable {P:Program} {cf:fO P} {R:Exit→TS→Prop}
theorem CR (ap:cf.n≤1000000) {dF:nd P} {ops:Array Oper} {K:TS→aD} {Kp:List AV→List (Nat×List AV)→List Blk→Prop} (hK: ∀s (Z:FZ),(K s).den R→ @Fits Z s→Kp (s.tT cf.n) s.bN (@TS.aq Z cf.n s).H): ∀(l:List Oper) (Z:FZ) (s:TS),@Fits Z s→(yz cf dF ops l s K).den R→
  evOps P [] ops (l.map fun o=>(o,true)) (s.tT cf.n) s.bN (@TS.aq Z cf.n s).H Kp
 | [],Z,s,aH,h=>hK s Z h aH
 | o::r,Z,s,aH,h=>by
  refine FO (Z:=Z) ap aH (fun s' hf e h=> ?_) (fun s' hf e h=> ?_) h
  ·have e3:s'.bN=s.bN:=congrArg St.L e
   rw[←e,←e3]
   exact Zt (Z:=Z) ap (Kp:=fun v L' H'=>evOps P [] ops (r.map fun o=>(o,true)) (putA (s'.tT cf.n) o.dst v) L' H' Kp) hf (fun v s2 Z2 hv hf2 e2=>by
    have:=CR ap hK r Z2 _ (@vl Z2 _ ap _ _ _ hf2) hv
    have cE:= @vm Z2 cf.n ap s2 o.dst v
    have eT:(h5 cf.n s2 o.dst v).tT cf.n=putA (s2.tT cf.n) o.dst v.be:=congrArg St.T cE
    have z1:(h5 cf.n s2 o.dst v).bN=s2.bN:=congrArg St.L cE
    rw[eT,z1,cE] at this
    rw[←e2];exact this) h
  ·have:=CR ap hK r Z _ (vl ap hf) h
   have cE:= @vm Z cf.n ap s' o.dst (.tup [])
   have eT:(h5 cf.n s' o.dst (.tup [])).tT cf.n=putA (s'.tT cf.n) o.dst (.tup []):=congrArg St.T cE
   have z1:(h5 cf.n s' o.dst (.tup [])).bN=s'.bN:=congrArg St.L cE
   rw[eT,z1,cE] at this
   have gI:s'.tT cf.n=s.tT cf.n:=congrArg St.T e
   have hl:s'.bN=s.bN:=congrArg St.L e
   rw[gI,hl,e] at this
   exact this
end
section
variable [Z:FZ] {P:Program} {cf:fO P} {R:Exit→TS→Prop}
theorem FB {ops:Array Oper} {s:TS} {k:aD}: ∀{hn:List Nat},(At cf ops s hn k).den R→n9 P ops hn (s.aq cf.n).T (s.aq cf.n).L (s.aq cf.n).H∧k.den R
 | [],h=>⟨trivial,h⟩
 | i::r,h=>by
  obtain⟨h1,h2,aJ⟩:=h
  simp only[Bool.and_eq_true] at h1
  obtain⟨q1,q2⟩:=FB aJ
  refine⟨⟨⟨h1.1,h1.2,?_⟩,q1⟩,q2⟩
  rw[iN]
  have:=congrFun (congrFun (congrFun h2 Z) (fC s)) (fun v=>v=o1 (opI ops i) (s.aq cf.n).T)
  have this:iY P (opI ops i) (fun x=>(b0 cf.n s x).be) (s.aq cf.n).L (s.aq cf.n).H (fun v=>v=o1 (opI ops i) (s.aq cf.n).T)=_:=this
  rw[this]
  unfold o1
  cases(opI ops i).dst with
  | none=>rfl
  | some d=>
   have:=congrFun (iN cf.n s) (.tmp d)
   exact this.symm
end
section
variable {P:Program} {cf:fO P} {R:Exit→TS→Prop}
theorem Wp (Z:FZ) (ap:cf.n≤1000000) (s:TS) (d:Option Nat) (v:TV):(h5 cf.n s d v).tT cf.n=putA (s.tT cf.n) d v.be∧(h5 cf.n s d v).bN=s.bN∧(@TS.aq Z cf.n (h5 cf.n s d v)).H=(@TS.aq Z cf.n s).H:=by
 have cE:= @vm Z cf.n ap s d v
 exact⟨congrArg St.T cE,congrArg St.L cE,by rw[cE]⟩
theorem KT (ap:cf.n≤1000000) {dF:nd P} {ops:Array Oper} {K:TS→aD} {Kp:List AV→List (Nat×List AV)→List Blk→Prop} (hK: ∀s (Z:FZ),(K s).den R→ @Fits Z s→Kp (s.tT cf.n) s.bN (@TS.aq Z cf.n s).H): ∀(l:List Item) (Z:FZ) (s:TS),@Fits Z s→l.all (·.lit)=true→(pM cf dF ops l s K).den R→
  hR P [] ops l (s.tT cf.n) s.bN (@TS.aq Z cf.n s).H Kp
 | [],Z,s,aH,_,h=>hK s Z h aH
 | x::r,Z,s,aH,aE,h=>by
  simp only[List.all_cons,Bool.and_eq_true] at aE
  show lc ops x.lit (opI ops x.i) _ _ _
  rw[aE.1]
  have next: ∀(s' s2:TS) (Z2:FZ) (v:TV),@Fits Z2 s2→s2.tT cf.n=s'.tT cf.n→(pM cf dF ops r (h5 cf.n s2 (opI ops x.i).dst v) K).den R→hR P [] ops r (putA (s'.tT cf.n) (opI ops x.i).dst v.be) s2.bN (@TS.aq Z2 cf.n s2).H Kp:=fun s' s2 Z2 v hf e hv=>by
   have:=KT ap hK r Z2 _ (@vl Z2 _ ap _ _ _ hf) aE.2 hv
   obtain⟨q1,q2,q3⟩:=Wp (cf:=cf) Z2 ap s2 (opI ops x.i).dst v
   rw[q1,q2,q3] at this
   rw[←e];exact this
  refine FO (Z:=Z) ap aH (fun s' hf e h=> ?_) (fun s' hf e h=> ?_) h
  ·have e3:s'.bN=s.bN:=congrArg St.L e
   rw[←e,←e3]
   cases ag:x.q with
   | true=>
    rw[ag] at h
    show iY P (opI ops x.i) (bL (s'.aq cf.n).T) (s'.aq cf.n).L (s'.aq cf.n).H _
    cases aL:mN (opI ops x.i) with
    | true=>
     rw[aL] at h
     simp only at h
     split at h
     ·rename_i d aZ
      obtain⟨h1,h2⟩:=h
      rw[iN]
      have:=congrFun (congrFun h1 (s'.aq cf.n).H) (fun v=>hR P [] ops r (putA (s'.aq cf.n).T (opI ops x.i).dst v) (s'.aq cf.n).L (s'.aq cf.n).H Kp)
      have this:iY P (opI ops x.i) (fun x=>(b0 cf.n s' x).be) (s'.aq cf.n).L (s'.aq cf.n).H (fun v=>hR P [] ops r (putA (s'.aq cf.n).T (opI ops x.i).dst v) (s'.aq cf.n).L (s'.aq cf.n).H Kp)=_:=this
      refine Eq.mpr this ?_
      exact next s' s' Z (.lp d 0) hf rfl h2
     ·exact h.elim
    | false=>
     rw[aL] at h
     rw[sf aL]
     simp only at h
     split at h
     ·rename_i c a b ew
      have:=J7 (Z:=Z) ap (Kp:=fun v=>hR P [] ops r (putA (s'.aq cf.n).T (opI ops x.i).dst v) (s'.aq cf.n).L (s'.aq cf.n).H Kp) hf (fun v s2 hf2 e2 hv=>by
       have:=next s' s2 Z v hf2 (congrArg St.T e2) hv
       have cE:s2.bN=s'.bN:=congrArg St.L e2
       rw[cE,e2] at this;exact this) h
      unfold hE
      rw[ew];exact this
     ·exact KK hf (Kp:=fun v=>hR P [] ops r (putA (s'.aq cf.n).T (opI ops x.i).dst v) (s'.aq cf.n).L (s'.aq cf.n).H Kp) (fun v hv=>next s' s' Z v hf rfl hv) h
   | false=>
    rw[ag] at h
    simp only at h
    split at h
    ·exact h.elim
    ·exact MW (Z:=Z) ap hf (Kp:=fun v L' H'=>n9 P ops x.hn (s'.tT cf.n) L' H'∧hR P [] ops r (putA (s'.tT cf.n) (opI ops x.i).dst v) L' H' Kp) (fun v s2 Z2 hv hf2 e2=>by
      obtain⟨q1,q2⟩:=FB (Z:=Z2) hv
      have q1:n9 P ops x.hn (s2.tT cf.n) s2.bN (@TS.aq Z2 cf.n s2).H:=q1
      rw[e2] at q1
      exact⟨q1,next s' s2 Z2 v hf2 e2 q2⟩) h
  ·have:=next s' s' Z (.tup []) hf rfl h
   have gI:s'.tT cf.n=s.tT cf.n:=congrArg St.T e
   have hl:s'.bN=s.bN:=congrArg St.L e
   rw[gI,hl,e] at this
   exact this
end
end Go.Proofs.Ytglpfccgmfhkdaa.Fw
