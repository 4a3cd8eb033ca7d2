/- The machine, part A: kinds of values, values told by their kinds, trees of conditions. -/
import Derived.Test.YtglpfccgmfhkdaaGreatM2
set_option linter.unusedVariables false
namespace Go.Proofs.YtglpfccgmfhkdaaGreat.Fw
open Go
inductive aU where
 | int | u64 | u8 | bool | str | bO | ei | eh | mo | ev | held | frame | done | fault | stays | gx | unit | nat
 | l (e:aU)
 | ptr (e:aU)
 | hG (f:Nat) (e:aU)
 deriving DecidableEq,Inhabited
@[reducible] def aU.T:aU→Type
 | .int=>Int
 | .u64=>Int
 | .u8=>UInt8
 | .bool=>Bool
 | .str=>ByteArray
 | .bO=>cr
 | .ei=>Way
 | .eh=>aK
 | .mo=>Event
 | .ev=>cJ
 | .held=>ac
 | .frame=>Frame
 | .done=>sp
 | .fault=>ij
 | .stays=>fu
 | .gx=>jo
 | .unit=>Unit
 | .nat=>Nat
 | .l e=>List e.T
 | .ptr e=>e.T
 | .hG _ e=>e.T
@[reducible] def aU.td:(e:aU)→Inhabited e.T
 | .int=>inferInstanceAs (Inhabited Int)
 | .u64=>inferInstanceAs (Inhabited Int)
 | .u8=>inferInstanceAs (Inhabited UInt8)
 | .bool=>inferInstanceAs (Inhabited Bool)
 | .str=>inferInstanceAs (Inhabited ByteArray)
 | .bO=>inferInstanceAs (Inhabited cr)
 | .ei=>inferInstanceAs (Inhabited Way)
 | .eh=>inferInstanceAs (Inhabited aK)
 | .mo=>inferInstanceAs (Inhabited Event)
 | .ev=>inferInstanceAs (Inhabited cJ)
 | .held=>inferInstanceAs (Inhabited ac)
 | .frame=>inferInstanceAs (Inhabited Frame)
 | .done=>inferInstanceAs (Inhabited sp)
 | .fault=>inferInstanceAs (Inhabited ij)
 | .stays=>inferInstanceAs (Inhabited fu)
 | .gx=>inferInstanceAs (Inhabited jo)
 | .unit=>inferInstanceAs (Inhabited Unit)
 | .nat=>inferInstanceAs (Inhabited Nat)
 | .l e=>inferInstanceAs (Inhabited (List e.T))
 | .ptr e=>e.td
 | .hG _ e=>e.td
def r4 (e:aU) (xs:List e.T) (i:Int):e.T:= @nth e.T e.td xs i
def cA:List aU→Type
 | []=>Unit
 | e::r=>e.T×cA r
def aU.b2:aU→List aU
 | .bO=>[.int,.int]
 | .ei=>[.l .int,.l .bO,.l .bO,.l .int,.l .int]
 | .eh=>[.int,.l .int,.l .ei,.l (.l .bool),.int]
 | .mo=>[.int,.int,.int]
 | .ev=>[.int,.int]
 | .held=>[.int,.int,.l .bool,.bool,.int]
 | .frame=>[.bool,.l .bool,.l .ev,.l .held]
 | .done=>[.int,.bool,.l .bool,.l .ev,.l .held]
 | .fault=>[.int,.int]
 | .stays=>[.l .int,.l .int,.l .int]
 | .gx=>[.l .u8,.int,.u64]
 | e=>[e]
def aU.isS:aU→Bool
 | .bO | .ei | .eh | .mo | .ev | .held | .frame | .done | .fault | .stays | .gx=>true
 | _=>false
def aU.mk:(e:aU)→cA e.b2→e.T
 | .bO,(a,b,_)=>⟨a,b⟩
 | .ei,(a,b,c,d,e,_)=>⟨a,b,c,d,e⟩
 | .eh,(a,b,c,d,e,_)=>⟨a,b,c,d,e⟩
 | .mo,(a,b,c,_)=>⟨a,b,c⟩
 | .ev,(a,b,_)=>⟨a,b⟩
 | .held,(a,b,c,d,e,_)=>⟨a,b,c,d,e⟩
 | .frame,(a,b,c,d,_)=>⟨a,b,c,d⟩
 | .done,(a,b,c,d,e,_)=>⟨a,⟨b,c,d,e⟩⟩
 | .fault,(a,b,_)=>⟨a,b⟩
 | .stays,(a,b,c,_)=>⟨a,b,c⟩
 | .gx,(a,b,c,_)=>⟨a,b,c⟩
 | .int,(a,_)=>a
 | .u64,(a,_)=>a
 | .u8,(a,_)=>a
 | .bool,(a,_)=>a
 | .str,(a,_)=>a
 | .unit,(a,_)=>a
 | .nat,(a,_)=>a
 | .l _,(a,_)=>a
 | .ptr _,(a,_)=>a
 | .hG _ _,(a,_)=>a
def aU.un:(e:aU)→e.T→cA e.b2
 | .bO,x=>(x.be,x.bO,())
 | .ei,x=>(x.ad,x.a1,x.bP,x.b4,x.dv,())
 | .eh,x=>(x.ad,x.bd,x.O,x.bt,x.cS,())
 | .mo,x=>(x.op,x.QK,x.bO,())
 | .ev,x=>(x.cz,x.a1,())
 | .held,x=>(x.az,x.ab,x.aa,x.ar,x.au,())
 | .frame,x=>(x.ok,x.aC,x.aq,x.O,())
 | .done,x=>(x.code,x.frame.ok,x.frame.aC,x.frame.aq,x.frame.O,())
 | .fault,x=>(x.code,x.pos,())
 | .stays,x=>(x.O,x.ad,x.aq,())
 | .gx,x=>(x.code,x.pos,x.yB,())
 | .int,x=>(x,())
 | .u64,x=>(x,())
 | .u8,x=>(x,())
 | .bool,x=>(x,())
 | .str,x=>(x,())
 | .unit,x=>(x,())
 | .nat,x=>(x,())
 | .l _,x=>(x,())
 | .ptr _,x=>(x,())
 | .hG _ _,x=>(x,())
theorem aU.QR (e:aU) (x:cA e.b2):e.un (e.mk x)=x:=by cases e<;>rfl
def cq (fr:Bool):(e:aU)→e.T→List AV
 | .int,x=>ct x
 | .u64,x=>[.int .u64 x]
 | .u8,x=>zN x
 | .bool,x=>a7 x
 | .str,x=>Dw x
 | .bO,x=>dL x
 | .ei,x=>en fr x
 | .eh,x=>bW fr x
 | .mo,x=>Ds x
 | .ev,x=>bH x
 | .held,x=>cR fr x
 | .frame,x=>b9 fr x
 | .done,x=>Dr fr x
 | .fault,x=>Dt x
 | .stays,x=>gm fr x
 | .gx,x=>Tk fr x
 | .l e,x=>[.aV (x.map (cq false e)) false fr]
 | .unit,_ | .nat,_ | .ptr _,_ | .hG _ _,_=>[.undef]
def iE (fr:Bool):(e:aU)→e.T→AV
 | .int,x=> .int .i64 x
 | .u64,x=> .int .u64 x
 | .u8,x=> .int .u8 x.toNat
 | .bool,x=> .bool x
 | .str,x=> .str x
 | .l e,x=> .aV (x.map (cq false e)) false fr
 | _,_=> .undef
def h8 (fr:Bool):(es:List aU)→cA es→List AV
 | [],_=>[]
 | e::r,x=>iE fr e x.1::h8 fr r x.2
theorem ml (fr:Bool) (e:aU) (x:e.T):h8 fr e.b2 (e.un x)=cq fr e x:=by
 cases e<;>first | rfl | (simp only[aU.b2,aU.un,h8,iE,cq];rfl)
def aU.jB:aU→Nat
 | .bO=>2
 | .ei=>5
 | .eh=>5
 | .mo=>3
 | .ev=>2
 | .held=>5
 | .frame=>4
 | .done=>5
 | .fault=>2
 | .stays=>3
 | .gx=>3
 | _=>1
theorem sI (fr:Bool) (e:aU) (x:e.T):(cq fr e x).length=e.jB:=by cases e<;>rfl
def aU.nU:aU→Bool
 | .unit | .nat | .ptr _ | .hG _ _=>false
 | _=>true
theorem Tp {fr:Bool} {e:aU} (h:e.nU=true) (x:e.T):(cq fr e x).all iS=true:=by cases e<;>first | rfl | cases h
inductive dJ where
 | t | f
 | v (b:Bool)
 | at(i:Nat) (b:Bool)
 | n (x:dJ)
 | bw (x y:dJ)
 | or (x y:dJ)
 | ite (c x y:dJ)
 | uO (x y:dJ)
 | ne (x y:dJ)
 deriving Inhabited
def dJ.den:dJ→Bool
 | .t=>true
 | .f=>false
 | .v b=>b
 | .at _ b=>b
 | .n x=> !x.den
 | .bw x y=>x.den&&y.den
 | .or x y=>x.den || y.den
 | .ite c x y=>bif c.den then x.den else y.den
 | .uO x y=>x.den==y.den
 | .ne x y=>x.den !=y.den
def dJ.not:dJ→dJ
 | .t=> .f
 | .f=> .t
 | x=> .n x
def dJ.tw (b x y:dJ):dJ:=match x with
 | .t=>(match y with
  | .t=> .t
  | .f=>b
  | y=> .or b y)
 | .f=>(match y with
  | .f=> .f
  | .t=> .n b
  | y=> .bw (.n b) y)
 | x=>(match y with
  | .f=> .bw b x
  | .t=> .or (.n b) x
  | y=> .ite b x y)
theorem dJ.yf (b x y:dJ):(dJ.tw b x y).den=bif b.den then x.den else y.den:=by
 cases x<;>cases y<;>simp only[dJ.tw,dJ.den]<;>cases b.den<;>simp
inductive TV where
 | u
 | i (k:IntKind) (n:Int)
 | b (x:dJ)
 | s (x:ByteArray)
 | l (e:aU) (xs:List e.T) (full fr:Bool)
 | nil (full fr:Bool)
 | ref (b g n:Nat) (full:Bool)
 | ptr (b g:Nat) (i:Int) (n col:Nat)
 | lp (t col:Nat)
 | da (e:aU) (x:e.T) (col:Nat)
 | agg (c:List TV)
 | tup (c:List TV)
 | fn (f:FuncId) (c:List TV)
 | o (a:AV)
 | blk (g:Nat) (e:aU) (xs:List e.T) (n:Nat) (h:xs.length=n)
 | dB (g:Nat) (c:List TV)
 | jL (g m:Nat) (ids:List Nat)
 | gy (V:List ac) (ids:List Nat) (n:Nat) (h:V.length=n)
 | new (id:Nat) (xs:List Bool)
 | uV (w:Int) (ids:List Nat) (m n:Nat)
 | uU (w:Int) (ids:List Nat) (m:Nat) (j:Int)
 | x_ (id m n:Nat)
 deriving Inhabited
class FZ where
 ws:List ac
 bs:List (List Bool)
mutual
def TV.bq:TV→AV
 | .u=> .undef
 | .i k n=> .int k n
 | .b x=> .bool x.den
 | .s x=> .str x
 | .l e xs full fr=> .aV (xs.map (cq false e)) full fr
 | .nil full fr=> .aV [] full fr
 | .ref b g n full=> .ref b g 0 n full
 | .ptr b g i _ c=> .ptr b g i.toNat c
 | .lp t c=> .e7 t c
 | .da e x c=> .da (cq false e x) c
 | .agg c=> .agg (cC c)
 | .tup c=> .tup (cC c)
 | .fn f c=> .fn f (cC c)
 | .o a=>a
 | .blk _ _ _ _ _=> .undef
 | .dB _ _=> .undef
 | .jL _ _ _=> .undef
 | .gy _ _ _ _=> .undef
 | .new _ _=> .undef
 | .uV w ids m k=> .ref (nth ids w+m) 0 0 k false
 | .uU w ids m j=> .ptr (nth ids w+m) 0 j.toNat 0
 | .x_ id m k=> .ref (id+m) 0 0 k false
def cC:List TV→List AV
 | []=>[]
 | x::r=>x.bq::cC r
end
theorem mQ (l:List TV):cC l=l.map TV.bq:=by
 induction l with
 | nil=>rfl
 | cons x r bE=>rw[cC,bE];rfl
def TV.eM [Z:FZ]:TV→Blk
 | .blk g e xs _ _=>⟨g,e.jB,xs.map (cq true e)⟩
 | .dB g c=>⟨g,c.length,[cC c]⟩
 | .jL g m ids=>⟨g,5,bp m Z.ws ids⟩
 | _=>⟨0,0,[]⟩
def yV (fr:Bool):(e:aU)→e.T→TV
 | .int,x=> .i .i64 x
 | .u64,x=> .i .u64 x
 | .u8,x=> .i .u8 x.toNat
 | .bool,x=> .b (.v x)
 | .str,x=> .s x
 | .l e,x=> .l e x false fr
 | _,_=> .u
def B_ (fr:Bool):(es:List aU)→cA es→List TV
 | [],_=>[]
 | e::r,x=>yV fr e x.1::B_ fr r x.2
theorem HX (fr:Bool) (e:aU) (x:e.T):(yV fr e x).bq=iE fr e x:=by cases e<;>rfl
theorem QL (fr:Bool): ∀(es:List aU) (x:cA es),cC (B_ fr es x)=h8 fr es x
 | [],_=>rfl
 | e::r,x=>by rw[B_,cC,h8,HX,QL fr r]
def iC (fr:Bool) (e:aU) (x:e.T):List TV:=B_ fr e.b2 (e.un x)
theorem zA (fr:Bool) (e:aU) (x:e.T):cC (iC fr e x)=cq fr e x:=by rw[iC,QL,ml]
structure TS where
 T:List (Nat×TV)
 B:List (Nat×TV)
 vs:List (Nat×Nat)
 bb:Nat
 deriving Inhabited
def gG:List (Nat×TV)→Nat→TV→TV
 | [],_,d=>d
 | (k,v)::r,t,d=>match Nat.beq k t with
  | true=>v
  | false=>gG r t d
def iN (v c:Nat):Nat:=1000010+(1000*v+c)
def dj:Nat:=1000000
def fH:Nat:=1000001
def bJ (b:Nat):Nat:=1000000000000+b
def TS.get (s:TS) (k:Nat):TV:=gG s.T k (gG s.B k .u)
def TS.put (s:TS) (k:Nat) (v:TV):TS:=⟨(k,v)::s.T,s.B,s.vs,s.bb⟩
def hl (s:TS) (v:Nat):Nat→Nat→List TV
 | _,0=>[]
 | c,m+1=>s.get (iN v c)::hl s v (c+1) m
def TS.tT (n:Nat) (s:TS):List AV:=(List.range n).map fun t=>(s.get t).bq
def TS.cg (s:TS):List (Nat×List AV):=s.vs.map fun p=>(p.1,cC (hl s p.1 0 p.2))
def iv (s:TS):Bool:=match s.get dj with
 | .gy _ _ _ _=>false
 | _=>true
def gN [Z:FZ] (s:TS):List Blk:=match iv s with
 | true=>[]
 | false=>Z.bs.map bR
def TS.f_ [FZ] (s:TS):List Blk:=(List.range s.bb).map fun b=>(s.get (bJ b)).eM
def TS.ay [FZ] (n:Nat) (s:TS):St:=⟨s.tT n,s.cg,s.f_++gN s⟩
def Fits [Z:FZ] (s:TS):Prop:=
 (∀V ids n h,s.get dj= .gy V ids n h→jN Z.ws ids Z.bs∧view Z.ws ids Z.bs=V∧ ∀id xs,s.get fH= .new id xs→id<Z.bs.length∧Z.bs.getD id []=xs∧ ∀j:Nat,ids[j]?≠some id)
theorem Fits.congr [FZ] {s s':TS} (h:Fits s) (e: ∀k,1000000≤k→k<1000010→s'.get k=s.get k):Fits s':=fun V ids n h' lh=>by
 rw[e dj (by unfold dj;omega) (by unfold dj;omega)] at lh
 obtain⟨h1,h2,bx⟩:=h V ids n h' lh
 refine⟨h1,h2,fun id xs hi=>bx id xs ?_⟩
 rw[←hi,e fH (by unfold fH;omega) (by unfold fH;omega)]
theorem Fits.none [FZ] {s:TS} (h:iv s=true):Fits s:=fun V ids n h' lh=>by
 unfold iv at h;rw[lh] at h;cases h
theorem gP (k:Nat) (v:TV) (r:List (Nat×TV)) (t:Nat) (d:TV):gG ((k,v)::r) t d=if k=t then v else gG r t d:=by
 show(match Nat.beq k t with
  | true=>v
  | false=>gG r t d)=_
 by_cases h:k=t
 ·subst h;rw[Nat.beq_refl,if_pos rfl]
 ·rw[if_neg h]
  cases hb:Nat.beq k t with
  | true=>exact absurd (Nat.eq_of_beq_eq_true hb) h
  | false=>rfl
theorem tk (A B:List (Nat×TV)) (t:Nat) (d:TV):gG (A++B) t d=gG A t (gG B t d):=by
 induction A with
 | nil=>rfl
 | cons p r bE=>obtain⟨k,v⟩:=p;rw[List.cons_append,gP,gP,bE]
theorem rT {A:List (Nat×TV)} {t:Nat} {d:TV} (h: ∀v,(t,v) ∉ A):gG A t d=d:=by
 induction A with
 | nil=>rfl
 | cons p r bE=>
  obtain⟨k,v⟩:=p
  rw[gP,if_neg,bE fun w hw=>h w (List.mem_cons_of_mem _ hw)]
  rintro rfl;exact h v (List.mem_cons_self ..)
theorem TS.D4 (s:TS) (k:Nat) (v:TV) (t:Nat):(s.put k v).get t=if k=t then v else s.get t:=gP ..
inductive aJ:Type 1 where
 | j2 (ex:Exit) (s:TS)
 | hg
 | no
 | p (φ:Prop) (t:aJ)
 | jc (φ:Prop) (t:aJ)
 | ic (b:dJ) (s:TS) (x y:aJ)
 | two (x y:aJ)
 | gX (x:aJ) (dY:List Prop) (b:dJ) (y:aJ)
 | all (α:Type) (f:α→aJ)
 | eq {α:Type} (a b:α) (t:aJ)
def pb:List Prop→Prop
 | []=>True
 | φ::r=>match r with
  | []=>φ
  | r=>φ∧pb r
theorem I9: ∀{l:List Prop},(∀φ∈l,φ)→pb l
 | [],_=>trivial
 | [φ],h=>h φ (by simp)
 | φ::ψ::r,h=>⟨h φ (by simp),I9 (l:=ψ::r) fun x hx=>h x (List.mem_cons_of_mem _ hx)⟩
def uQ (dY:List Prop):dJ→List Prop
 | .t=>dY
 | b=>dY++[b.den=true]
def w7 (dY:List Prop) (b:dJ):Prop:=pb (uQ dY b)
theorem TB {dY:List Prop} {b:dJ} (h: ∀φ∈dY,φ) (hb:b.den=true):w7 dY b:=by
 unfold w7
 refine I9 fun φ ep=> ?_
 unfold uQ at ep
 split at ep
 ·exact h φ ep
 ·rcases List.mem_append.1 ep with q | q
  ·exact h φ q
  ·rw[List.mem_singleton.1 q];exact hb
def aJ.den:aJ→(Exit→TS→Prop)→Prop
 | .j2 ex s,R=>R ex s
 | .hg,_=>True
 | .no,_=>False
 | .p φ t,R=>φ∧t.den R
 | .jc φ t,R=>φ→t.den R
 | .ic b _ x y,R=>(b.den=true→x.den R)∧(b.den=false→y.den R)
 | .two x y,R=>x.den R∧y.den R
 | .gX x dY b y,R=>x.den R∧(w7 dY b→y.den R)
 | .all _ f,R=> ∀a,(f a).den R
 | .eq a b t,R=>a=b∧t.den R
def aJ.bind:aJ→(Exit→TS→aJ)→aJ
 | .j2 ex s,K=>K ex s
 | .hg,_=> .hg
 | .no,_=> .no
 | .p φ t,K=> .p φ (t.bind K)
 | .jc φ t,K=> .jc φ (t.bind K)
 | .ic b s x y,K=> .ic b s (x.bind K) (y.bind K)
 | .two x y,K=> .two (x.bind K) (y.bind K)
 | .gX x dY b y,K=> .gX (x.bind K) dY b (y.bind K)
 | .all α f,K=> .all α fun a=>(f a).bind K
 | .eq a b t,K=> .eq a b (t.bind K)
theorem aJ.R6 (t:aJ) (K:Exit→TS→aJ) (R:Exit→TS→Prop):(t.bind K).den R=t.den fun ex s=>(K ex s).den R:=by
 induction t with
 | j2 ex s=>rfl
 | hg=>rfl
 | no=>rfl
 | p φ t bE=>simp only[aJ.bind,aJ.den,bE]
 | jc φ t bE=>simp only[aJ.bind,aJ.den,bE]
 | ic b s x y ho gW=>simp only[aJ.bind,aJ.den,ho,gW]
 | two x y ho gW=>simp only[aJ.bind,aJ.den,ho,gW]
 | gX x dY b y ho gW=>simp only[aJ.bind,aJ.den,ho,gW]
 | all α f bE=>simp only[aJ.bind,aJ.den,bE]
 | eq a b t bE=>simp only[aJ.bind,aJ.den,bE]
theorem aJ.p_ {t:aJ} {R wO:Exit→TS→Prop} (h:t.den R) (k: ∀ex s,R ex s→wO ex s):t.den wO:=by
 induction t with
 | j2 ex s=>exact k _ _ h
 | hg=>trivial
 | no=>exact h
 | p φ t bE=>exact⟨h.1,bE h.2⟩
 | jc φ t bE=>exact fun q=>bE (h q)
 | ic b s x y ho gW=>exact⟨fun q=>ho (h.1 q),fun q=>gW (h.2 q)⟩
 | two x y ho gW=>exact⟨ho h.1,gW h.2⟩
 | gX x dY b y ho gW=>exact⟨ho h.1,fun q=>gW (h.2 q)⟩
 | all α f bE=>exact fun a=>bE a (h a)
 | eq a b t bE=>exact⟨h.1,bE h.2⟩
inductive fC:Type 1 where
 | hg
 | p (φ:Prop)
 | and (a b:fC)
 | jc (φ:Prop) (c:fC)
 | all (α:Type) (f:α→fC)
def fC.and' (a b:fC):fC:=match a with
 | .hg=>b
 | a=>match b with
  | .hg=>a
  | b=> .and a b
def fC.vo (φ:Prop) (c:fC):fC:=match c with
 | .hg=> .hg
 | c=> .jc φ c
def fC.den:fC→Prop
 | .hg=>True
 | .p φ=>φ
 | .and a b=>a.den∧b.den
 | .jc φ c=>φ→c.den
 | .all _ f=> ∀a,(f a).den
theorem fC.zl (a b:fC):(fC.and' a b).den↔a.den∧b.den:=by
 cases a<;>cases b<;>simp[fC.and',fC.den]
theorem fC.AO (φ:Prop) (c:fC):(fC.vo φ c).den↔(φ→c.den):=by
 cases c<;>simp[fC.vo,fC.den]
def fC.fact (dY:List Prop) (b:dJ) (c:fC):fC:=match uQ dY b with
 | []=>c
 | φ::r=> .vo (pb (φ::r)) c
theorem fC.TC (dY:List Prop) (b:dJ) (c:fC):(fC.fact dY b c).den↔(w7 dY b→c.den):=by
 unfold fC.fact w7
 split
 ·rename_i h;rw[h];simp[pb]
 ·rename_i h;rw[h];exact fC.AO _ _
def aJ.mT:aJ→fC
 | .j2 _ _=> .hg
 | .hg=> .hg
 | .no=> .p False
 | .p φ t=> .and' (.p φ) t.mT
 | .jc φ t=> .vo φ t.mT
 | .ic b _ x y=> .and' (.vo (b.den=true) x.mT) (.vo (b.den=false) y.mT)
 | .two x y=> .and' x.mT y.mT
 | .gX x dY b y=> .and' x.mT (.fact dY b y.mT)
 | .all α f=> .all α fun a=>(f a).mT
 | .eq _ _ t=>t.mT
inductive p1:Type 1 where
 | u
 | v {α:Type} (a:α) (t:p1)
 | n (a b:p1)
 | f {α:Type} (g:α→p1)
def aJ.lhs:aJ→p1
 | .j2 _ _ | .hg | .no=> .u
 | .p _ t | .jc _ t=>t.lhs
 | .ic _ _ x y | .two x y | .gX x _ _ y=> .n x.lhs y.lhs
 | .all _ f=> .f fun a=>(f a).lhs
 | .eq a _ t=> .v a t.lhs
def aJ.rhs:aJ→p1
 | .j2 _ _ | .hg | .no=> .u
 | .p _ t | .jc _ t=>t.rhs
 | .ic _ _ x y | .two x y | .gX x _ _ y=> .n x.rhs y.rhs
 | .all _ f=> .f fun a=>(f a).rhs
 | .eq _ b t=> .v b t.rhs
theorem aJ.full {t:aJ} (h:t.mT.den) (e:t.lhs=t.rhs):t.den fun _ _=>True:=by
 induction t with
 | j2 ex s=>trivial
 | hg=>trivial
 | no=>exact h
 | p φ t bE=>
  have h:=(fC.zl _ _).1 h
  exact⟨h.1,bE h.2 e⟩
 | jc φ t bE=>exact fun q=>bE ((fC.AO _ _).1 h q) e
 | ic b s x y ho gW=>
  have h:=(fC.zl _ _).1 h
  injection e with aR e2
  exact⟨fun q=>ho ((fC.AO _ _).1 h.1 q) aR,fun q=>gW ((fC.AO _ _).1 h.2 q) e2⟩
 | two x y ho gW=>
  have h:=(fC.zl _ _).1 h
  injection e with aR e2
  exact⟨ho h.1 aR,gW h.2 e2⟩
 | gX x dY b y ho gW=>
  have h:=(fC.zl _ _).1 h
  injection e with aR e2
  exact⟨ho h.1 aR,fun q=>gW ((fC.TC _ _ _).1 h.2 q) e2⟩
 | all α f bE=>
  injection e with _ e
  exact fun a=>bE a (h a) (congrFun e a)
 | eq a b t bE=>
  injection e with _ aR e2
  exact⟨aR,bE h e2⟩
def Env.wd (W:World):Env:={w:=W,PA:=fun c=>c<W.heap.size,PF:=fun c=>c<W.heap.size∧Plain W c,m:=fun _=>none,bi:=fun _=>0,sz:=fun _=>0,cp:=fun _=>0,mL:=fun _=>none}
theorem SimH.K9 {E:Env} {H:List Blk} (hs:SimH E H) {c:Nat} (h:E.fk c):Plain E.w c:=by
 obtain⟨b,hb⟩:=h
 obtain⟨_,aw,ty,_,_,q,_⟩:=hs.heap b c hb
 exact⟨aw,ty,q⟩
theorem ez.wd {E:Env} (aB:SimH E []) (bN: ∀t,E.mL t=none) {a:AV} {v:Value} (h:ez E a v):ez (Env.wd E.w) a v:=by
 have lV: ∀a v,aW E.w E.PA E.PF a v→aW E.w (fun c=>c<E.w.heap.size) (fun c=>c<E.w.heap.size∧Plain E.w c) a v:=fun a v k=>k.mono (fun _ _=>rfl) (fun _ _=>rfl) aB.dy (fun c hc=>⟨aB.dy c (aB.dr c hc),aB.fh c hc⟩)
 have hm:=fun b=>aB.fresh b (Nat.zero_le _)
 cases a with
 | ref b g off n full=>
  rcases h with⟨h,_⟩ | ⟨_,h⟩
  ·rw[(hm b).2] at h;cases h
  ·rcases h with⟨h,_⟩ | ⟨c,cap,h,_⟩<;>rw[(hm b).1] at h<;>cases h
 | ptr b g r c=>
  rcases h with⟨h,_⟩ | ⟨_,bl,h,_⟩
  ·rw[(hm b).2] at h;cases h
  ·rw[(hm b).1] at h;cases h
 | e7 t c=>obtain⟨bl,h,_⟩:=h;rw[bN t] at h;cases h
 | _=>exact lV _ _ h
theorem b1.wd {E:Env} (aB:SimH E []) (bN: ∀t,E.mL t=none) {a:AV} {v:Value} (h:b1 E a v):b1 (Env.wd E.w) a v:=by
 by_cases hf: ∃f caps,a= .fn f caps
 ·obtain⟨f,caps,rfl⟩:=hf
  obtain⟨vs,e,ai⟩:=h
  exact⟨vs,e,ai.mono fun _ _ k=>k.wd aB bN⟩
 ·rw[o5 fun f c e=>hf ⟨f,c,e⟩] at h ⊢
  exact h.wd aB bN
theorem V2.wd {E:Env} (aB:SimH E []) (bN: ∀t,E.mL t=none) {a:AV} {v:Value} (h:V2 E a v):V2 (Env.wd E.w) a v:=by
 by_cases hf: ∃l,a= .agg l
 ·obtain⟨l,rfl⟩:=hf
  obtain⟨vs,e,ai⟩:=h
  exact⟨vs,e,ai.mono fun _ _ k=>k.wd aB bN⟩
 ·rw[ny fun l e=>hf ⟨l,e⟩] at h ⊢
  exact h.wd aB bN
def Rows (w:World) (A:Option Addr) (sz:Nat) (rows:List (List AV)):Prop:=rows=[]∨ ∃c o,A=some ⟨c,o,none⟩∧c<w.heap.size∧ ∀(i j:Nat) (row:List AV) (a:AV),rows[i]?=some row→row[j]?=some a→ ∃u,w.cell? ⟨c,o+(i*sz+j),none⟩=some u∧b1 (Env.wd w) a u
def cn (f:Nat→Nat):Nat→Nat
 | 0=>0
 | n+1=>cn f n+f n
theorem HW {f:Nat→Nat} {c:Nat}: ∀{n:Nat},(∀i,i<n→f i=c)→cn f n=n*c
 | 0,_=>by simp[cn]
 | n+1,h=>by
  show cn f n+f n=_
  rw[HW fun i hi=>h i (by omega),h n (by omega),Nat.succ_mul]
theorem B8 {f:Nat→Nat}: ∀{n k:Nat},k≤n→cn f k≤cn f n
 | 0,k,h=>by obtain rfl:k=0:=by omega
             exact Nat.le_refl _
 | n+1,k,h=>by
  by_cases e:k=n+1
  ·subst e;exact Nat.le_refl _
  ·exact Nat.le_trans (B8 (n:=n) (by omega)) (Nat.le_add_right _ _)
inductive dP (w:World) (S:Nat→Prop):aU→Nat→Value→Prop where
 | int (n:Int):dP w S .int 1 (.int .i64 n)
 | bool (b:Bool):dP w S .bool 1 (.bool b)
 | aV {e:aU} {n cap:Nat} {A:Option Addr} {ca:Nat→Nat→Nat} {vs:Nat→Nat→Value} (h1:n≤cap∧n≤4611686018427387904)
   (hc:0<n→ ∃c o aw ty,A=some ⟨c,o,none⟩∧S c∧w.heap[c]?=some (.cells aw ty (0,0))∧ ∀i j,i<n→j<e.b2.length→aw[o+(i*e.b2.length+j)]?=some (vs i j))
   (av: ∀i j b3,i<n→e.b2[j]?=some b3→dP w S b3 (ca i j) (vs i j)):dP w S (.l e) (cn (fun i=>cn (ca i) e.b2.length) n) (.slice A n cap)
theorem dP.nb {w:World} {S:Nat→Prop} {e:aU} {m:Nat} {n:Int} (h:dP w S e m (.int .i64 n)):e= .int∧m=1:=by cases h;exact⟨rfl,rfl⟩
theorem dP.mS {w:World} {S:Nat→Prop} {e:aU} {m:Nat} {b:Bool} (h:dP w S e m (.bool b)):e= .bool∧m=1:=by cases h;exact⟨rfl,rfl⟩
theorem dP.of_int {w:World} {S:Nat→Prop} {m:Nat} {v:Value} (h:dP w S .int m v):m=1∧ ∃n,v= .int .i64 n:=by cases h;exact⟨rfl,_,rfl⟩
theorem dP.of_bool {w:World} {S:Nat→Prop} {m:Nat} {v:Value} (h:dP w S .bool m v):m=1∧ ∃b,v= .bool b:=by cases h;exact⟨rfl,_,rfl⟩
theorem dP.nT {w:World} {S:Nat→Prop} {e:aU} {m:Nat} {v:Value} (h:dP w S (.l e) m v): ∃A n cap,v= .slice A n cap:=by cases h;exact⟨_,_,_,rfl⟩
theorem dP.sub {w:World} {S S':Nat→Prop} {e:aU} {m:Nat} {v:Value} (h:dP w S e m v) (hs: ∀c,S c→S' c):dP w S' e m v:=by
 induction h with
 | int n=>exact .int n
 | bool b=>exact .bool b
 | aV h1 hc av bE=>
  refine .aV h1 (fun ao=> ?_) bE
  obtain⟨c,o,aw,ty,q1,q2,q3⟩:=hc ao
  exact⟨c,o,aw,ty,q1,hs c q2,q3⟩
def mO (a b:Option Value):Prop:=b=a∨(∃n m,a=some (.int .i64 n)∧b=some (.int .i64 m))∨ ∃x y,a=some (.bool x)∧b=some (.bool y)
theorem mO.trans {a b c:Option Value} (h:mO a b) (k:mO b c):mO a c:=by
 rcases h with rfl | ⟨n,m,rfl,rfl⟩ | ⟨x,y,rfl,rfl⟩
 ·exact k
 ·rcases k with rfl | ⟨iO,e3,h1,rfl⟩ | ⟨x,y,h1,rfl⟩
  ·exact .inr (.inl ⟨_,_,rfl,rfl⟩)
  ·exact .inr (.inl ⟨_,_,rfl,rfl⟩)
  ·cases h1
 ·rcases k with rfl | ⟨iO,e3,h1,rfl⟩ | ⟨k_,Q8,h1,rfl⟩
  ·exact .inr (.inr ⟨_,_,rfl,rfl⟩)
  ·cases h1
  ·exact .inr (.inr ⟨_,_,rfl,rfl⟩)
structure dm (S:Nat→Prop) (w w':World):Prop where
 os:w'.os=w.os
 tape:w'.tape=w.tape
 output:w'.output=w.output
 size:w.heap.size≤w'.heap.size
 other: ∀c,c<w.heap.size→ ¬S c→w'.heap[c]?=w.heap[c]?
 qI: ∀(c:Nat) (aw:Array Value) (ty:TypeId),S c→w.heap[c]?=some (.cells aw ty (0,0))→ ∃bX:Array Value,w'.heap[c]?=some (.cells bX ty (0,0))∧bX.size=aw.size∧ ∀j:Nat,mO aw[j]? bX[j]?
theorem dm.refl (S:Nat→Prop) (w:World):dm S w w:=⟨rfl,rfl,rfl,Nat.le_refl _,fun _ _ _=>rfl,fun c aw ty _ h=>⟨aw,h,rfl,fun _=> .inl rfl⟩⟩
theorem rD {w:World} {c:Nat} {o:Obj} (h:w.heap[c]?=some o):c<w.heap.size:=by
 rcases Nat.lt_or_ge c w.heap.size with h' | h'
 ·exact h'
 ·simp[Array.getElem?_eq_none h'] at h
theorem dm.trans {S:Nat→Prop} {a b c:World} (h:dm S a b) (k:dm S b c):dm S a c where
 os:=k.os.trans h.os
 tape:=k.tape.trans h.tape
 output:=k.output.trans h.output
 size:=Nat.le_trans h.size k.size
 other:=fun x hx hs=>(k.other x (Nat.lt_of_lt_of_le hx h.size) hs).trans (h.other x hx hs)
 qI:=fun x aw ty hs hx=>by
  obtain⟨SX,q1,q2,q3⟩:=h.qI x aw ty hs hx
  obtain⟨uJ,cZ,dg,fK⟩:=k.qI x SX ty hs q1
  exact⟨uJ,cZ,dg.trans q2,fun j=>(q3 j).trans (fK j)⟩
theorem dm.sub {S S':Nat→Prop} {w w':World} (h:dm S w w') (hs: ∀c,S c→S' c):dm S' w w' where
 os:=h.os
 tape:=h.tape
 output:=h.output
 size:=h.size
 other:=fun c hc ao=>h.other c hc fun k=>ao (hs c k)
 qI:=fun c aw ty hc hx=>by
  by_cases k:S c
  ·exact h.qI c aw ty k hx
  ·exact⟨aw,(h.other c (rD hx) k).trans hx,rfl,fun _=> .inl rfl⟩
theorem dm.below {S:Nat→Prop} {w w':World} (h:RowKit.Below w.heap.size w w'):dm S w w':=
 ⟨h.os,h.tape,h.output,h.size,fun c hc _=>h.block c hc,fun c aw ty _ hx=>⟨aw,(h.block c (rD hx)).trans hx,rfl,fun _=> .inl rfl⟩⟩
theorem dm.at {S:Nat→Prop} {w w':World} (h:dm S w w') {c:Nat} {aw:Array Value} {ty:TypeId} (hx:w.heap[c]?=some (.cells aw ty (0,0))): ∃bX:Array Value,w'.heap[c]?=some (.cells bX ty (0,0))∧bX.size=aw.size∧ ∀j:Nat,mO aw[j]? bX[j]?:=by
 by_cases k:S c
 ·exact h.qI c aw ty k hx
 ·exact⟨aw,(h.other c (rD hx) k).trans hx,rfl,fun _=> .inl rfl⟩
theorem dP.fy {w w':World} {S S':Nat→Prop} (hw:dm S' w w') {e:aU} {m:Nat} {v:Value} (h:dP w S e m v):dP w' S e m v:=by
 induction h with
 | int n=>exact .int n
 | bool b=>exact .bool b
 | @aV e n cap A ca vs h1 hc av bE=>
  by_cases ao:0<n
  ·obtain⟨c,o,aw,ty,cN,db,bD,hv⟩:=hc ao
   obtain⟨bX,q1,q2,q3⟩:=hw.at bD
   have key: ∀i j,i<n→j<e.b2.length→ ∃u,bX[o+(i*e.b2.length+j)]?=some u:=fun i j hi ap=>by
    rcases q3 (o+(i*e.b2.length+j)) with q | ⟨_,_,_,q⟩ | ⟨_,_,_,q⟩
    ·exact⟨_,q.trans (hv i j hi ap)⟩
    ·exact⟨_,q⟩
    ·exact⟨_,q⟩
   refine .aV (vs:=fun i j=>(bX[o+(i*e.b2.length+j)]?).getD undef) h1 (fun _=>⟨c,o,bX,ty,cN,db,q1,fun i j hi ap=> ?_⟩) fun i j b3 hi ap=> ?_
   ·obtain⟨u,hu⟩:=key i j hi ap
    rw[hu];rfl
   ·have kA:j<e.b2.length:=(List.getElem?_eq_some_iff.1 ap).1
    have hk:=av i j b3 hi ap
    have s_:=hv i j hi kA
    show dP w' S b3 (ca i j) ((bX[o+(i*e.b2.length+j)]?).getD undef)
    rcases q3 (o+(i*e.b2.length+j)) with q | ⟨a,b,jh,oL⟩ | ⟨a,b,jh,oL⟩
    ·rw[q,s_];exact bE i j b3 hi ap
    ·rw[s_] at jh
     rw[Option.some.inj jh] at hk
     obtain⟨rfl,hm⟩:=hk.nb
     rw[oL,hm];exact .int b
    ·rw[s_] at jh
     rw[Option.some.inj jh] at hk
     obtain⟨rfl,hm⟩:=hk.mS
     rw[oL,hm];exact .bool b
  ·exact .aV (vs:=vs) h1 (fun h=>absurd h ao) fun i j b3 hi _=>absurd (Nat.lt_of_le_of_lt (Nat.zero_le _) hi) ao
theorem dm.head {S:Nat→Prop} {w w':World} (h:dm S w w') {c o:Nat} {aw:Array Value} {ty:TypeId} (hx:w.heap[c]?=some (.cells aw ty (0,0))) {A:Option Addr} {n cap:Nat} (hv:aw[o]?=some (.slice A n cap)):w'.cell? ⟨c,o,none⟩=some (.slice A n cap):=by
 obtain⟨bX,q1,q2,q3⟩:=h.at hx
 rcases q3 o with q | ⟨a,b,jh,_⟩ | ⟨a,b,jh,_⟩
 ·simp only[World.cell?,q1];rw[q];exact hv
 ·rw[hv] at jh;cases jh
 ·rw[hv] at jh;cases jh
theorem dm.setCell {S:Nat→Prop} {w:World} {c o:Nat} {aw:Array Value} {ty:TypeId} {v:Value} (hx:w.heap[c]?=some (.cells aw ty (0,0))) (db:S c) (hv:mO aw[o]? (some v)):dm S w (w.setCell ⟨c,o,none⟩ v) where
 os:=rfl
 tape:=rfl
 output:=rfl
 size:=by simp
 other:=fun b _ hs=>RowKit.Below.heap_setCell _ _ _ _ (fun e=>by subst e;exact hs db)
 qI:=fun b bX hC hs hb=>by
  by_cases e:b=c
  ·subst e
   rw[hx] at hb
   cases hb
   refine⟨aw.setIfInBounds o v,by simp[World.setCell,Array.getElem?_modify,hx],by simp,fun j=> ?_⟩
   rw[Array.getElem?_setIfInBounds]
   by_cases ap:o=j
   ·subst ap
    rw[if_pos rfl]
    split
    ·exact hv
    ·rename_i aX;rw[Array.getElem?_eq_none (by omega)];exact .inl rfl
   ·rw[if_neg ap];exact .inl rfl
  ·exact⟨bX,by rw[RowKit.Below.heap_setCell _ _ _ _ e];exact hb,rfl,fun _=> .inl rfl⟩
structure jP (w w':World) (c o n:Nat) (val:Nat→Value):Prop where
 os:w'.os=w.os
 tape:w'.tape=w.tape
 output:w'.output=w.output
 size:w'.heap.size=w.heap.size
 other: ∀b,b≠c→w'.heap[b]?=w.heap[b]?
 blk: ∀aw ty,w.heap[c]?=some (.cells aw ty (0,0))→ ∃bX:Array Value,w'.heap[c]?=some (.cells bX ty (0,0))∧bX.size=aw.size∧ ∀j,j<aw.size→bX[j]?=if o≤j∧j<o+n then some (val (j - o)) else aw[j]?
theorem jP.refl (w:World) (c o:Nat) (val:Nat→Value):jP w w c o 0 val:=
 ⟨rfl,rfl,rfl,rfl,fun _ _=>rfl,fun aw ty h=>⟨aw,h,rfl,fun j _=>by rw[if_neg (by omega)]⟩⟩
theorem jP.snoc {w w':World} {c o n:Nat} {val:Nat→Value} (h:jP w w' c o n val) {v:Value} (hv:v=val n):jP w (w'.setCell ⟨c,o+n,none⟩ v) c o (n+1) val where
 os:=h.os
 tape:=h.tape
 output:=h.output
 size:=by rw[←h.size];simp
 other:=fun b hb=>by rw[RowKit.Below.heap_setCell _ _ _ _ hb];exact h.other b hb
 blk:=fun aw ty jX=>by
  obtain⟨bX,h1,h2,aM⟩:=h.blk aw ty jX
  refine⟨bX.setIfInBounds (o+n) v,?_,by simp[h2],fun j ap=> ?_⟩
  ·simp[World.setCell,Array.getElem?_modify,h1]
  ·rw[Array.getElem?_setIfInBounds]
   by_cases e:o+n=j
   ·subst e
    rw[if_pos rfl,if_pos (by rw[h2];exact ap),if_pos ⟨by omega,by omega⟩,hv]
    simp
   ·rw[if_neg e,aM j ap]
    by_cases bx:o≤j∧j<o+n
    ·rw[if_pos bx,if_pos ⟨bx.1,by omega⟩]
    ·rw[if_neg bx,if_neg (by omega)]
theorem jP.cell {w w':World} {c o n:Nat} {val:Nat→Value} (h:jP w w' c o n val) {aw:Array Value} {ty:TypeId} (hw:w.heap[c]?=some (.cells aw ty (0,0))) {j:Nat} (ap:j<aw.size): ∃u,w'.cell? ⟨c,j,none⟩=some u∧w'.frozen? ⟨c,j,none⟩=false:=by
 obtain⟨bX,h1,h2,aM⟩:=h.blk aw ty hw
 have aE:j<bX.size:=by omega
 exact⟨bX[j],by simp[World.cell?,h1,aE],by simp[World.frozen?,h1]⟩
theorem jP.fy {w w':World} {c o n:Nat} {val:Nat→Value} {S:Nat→Prop} (h:jP w w' c o n val) (db:S c) (hk: ∀aw ty i,w.heap[c]?=some (.cells aw ty (0,0))→i<n→mO aw[o+i]? (some (val i))):dm S w w' where
 os:=h.os
 tape:=h.tape
 output:=h.output
 size:=by rw[h.size];exact Nat.le_refl _
 other:=fun b _ hs=>h.other b fun e=>by subst e;exact hs db
 qI:=fun b aw ty hs hb=>by
  by_cases e:b=c
  ·subst e
   obtain⟨bX,h1,h2,aM⟩:=h.blk aw ty hb
   refine⟨bX,h1,h2,fun j=> ?_⟩
   rcases Nat.lt_or_ge j aw.size with ap | ap
   ·rw[aM j ap]
    split
    ·rename_i hi
     have:=hk aw ty (j - o) hb (by omega)
     rw[show o+(j - o)=j by omega] at this
     exact this
    ·exact .inl rfl
   ·rw[Array.getElem?_eq_none (xs:=bX) (by omega),Array.getElem?_eq_none (xs:=aw) ap];exact .inl rfl
  ·exact⟨aw,(h.other b e).trans hb,rfl,fun _=> .inl rfl⟩
theorem jP.xU {w w':World} {o n:Nat} {val:Nat→Value} {S:Nat→Prop} (h:jP w w' w.heap.size o n val):dm S w w' where
 os:=h.os
 tape:=h.tape
 output:=h.output
 size:=by rw[h.size];exact Nat.le_refl _
 other:=fun b hb _=>h.other b (by omega)
 qI:=fun b aw ty _ hb=>⟨aw,(h.other b (by have:=rD hb;omega)).trans hb,rfl,fun _=> .inl rfl⟩
def pA (k:Int) (i:Nat):Value:= .int .i64 (k+i)
def IU (k:Int) (i:Nat):Value:= .bool ((k+i)%3==0)
theorem dP.cells {w:World} {S:Nat→Prop} {e:aU} {m n cap:Nat} {A:Option Addr} (h:dP w S (.l e) m (.slice A n cap)) (ao:0<n):
  ∃(c o:Nat) (aw:Array Value) (ty:TypeId) (ca:Nat→Nat→Nat),A=some ⟨c,o,none⟩∧S c∧w.heap[c]?=some (.cells aw ty (0,0))∧m=cn (fun i=>cn (ca i) e.b2.length) n∧(0<e.b2.length→o+n*e.b2.length≤aw.size)∧
   ∀i j b3,i<n→e.b2[j]?=some b3→ ∃u,aw[o+(i*e.b2.length+j)]?=some u∧dP w S b3 (ca i j) u:=by
 cases h with
 | @aV _ _ _ _ ca vs h1 hc av=>
  obtain⟨c,o,aw,ty,cN,db,bD,hv⟩:=hc ao
  refine⟨c,o,aw,ty,ca,cN,db,bD,rfl,fun aE=> ?_,fun i j b3 hi ap=>⟨_,hv i j hi (List.getElem?_eq_some_iff.1 ap).1,av i j b3 hi ap⟩⟩
  have:=hv (n - 1) (e.b2.length - 1) (by omega) (by omega)
  have aX:=(Array.getElem?_eq_some_iff.1 this).1
  have aR:(n - 1)*e.b2.length+e.b2.length=n*e.b2.length:=by
   rw[←Nat.succ_mul];congr 1;omega
  omega
theorem dP.zero {w:World} {S:Nat→Prop} {e:aU} {m cap:Nat} {A:Option Addr} (h:dP w S (.l e) m (.slice A 0 cap)):m=0:=by
 cases h;rfl
theorem dP.elem {w:World} {S:Nat→Prop} {e:aU} {m n cap:Nat} {A:Option Addr} (h:dP w S (.l e) m (.slice A n cap)):
  n≤4611686018427387904∧ ∃(c o:Nat) (ca:Nat→Nat→Nat),(0<n→A=some ⟨c,o,none⟩)∧m=cn (fun i=>cn (ca i) e.b2.length) n∧
   (∀i j b3,i<n→e.b2[j]?=some (.l b3)→ ∃A' iO p9,∀wr,dm S w wr→wr.cell? ⟨c,o+(i*e.b2.length+j),none⟩=some (.slice A' iO p9)∧dP wr S (.l b3) (ca i j) (.slice A' iO p9))∧
   (∀i j,i<n→e.b2[j]?=some .int→ca i j=1∧ ∀wr,dm S w wr→ ∃u,wr.cell? ⟨c,o+(i*e.b2.length+j),none⟩=some u∧wr.frozen? ⟨c,o+(i*e.b2.length+j),none⟩=false∧ ∀x,dm S w (wr.setCell ⟨c,o+(i*e.b2.length+j),none⟩ (.int .i64 x)))∧
   ∀i j,i<n→e.b2[j]?=some .bool→ca i j=1∧ ∀wr,dm S w wr→ ∃u,wr.cell? ⟨c,o+(i*e.b2.length+j),none⟩=some u∧wr.frozen? ⟨c,o+(i*e.b2.length+j),none⟩=false∧ ∀x,dm S w (wr.setCell ⟨c,o+(i*e.b2.length+j),none⟩ (.bool x)):=by
 refine⟨by cases h with | aV h1=>exact h1.2,?_⟩
 by_cases ao:0<n
 ·obtain⟨c,o,aw,ty,ca,cN,db,bD,hm,_,hv⟩:=h.cells ao
  refine⟨c,o,ca,fun _=>cN,hm,fun i j b3 hi ap=> ?_,fun i j hi ap=> ?_,fun i j hi ap=> ?_⟩
  ·obtain⟨u,hu,hk⟩:=hv i j _ hi ap
   obtain⟨A',iO,p9,rfl⟩:=hk.nT
   exact⟨A',iO,p9,fun wr hw=>⟨hw.head bD hu,hk.fy hw⟩⟩
  ·obtain⟨u,hu,hk⟩:=hv i j _ hi ap
   obtain⟨h1,aL,rfl⟩:=hk.of_int
   refine⟨h1,fun wr hw=> ?_⟩
   obtain⟨bX,q1,q2,q3⟩:=hw.at bD
   have af:=q3 (o+(i*e.b2.length+j))
   rw[hu] at af
   have hs: ∃y,bX[o+(i*e.b2.length+j)]?=some (.int .i64 y):=by
    rcases af with q | ⟨_,y,_,q⟩ | ⟨_,_,q,_⟩
    ·exact⟨_,q⟩
    ·exact⟨_,q⟩
    ·cases q
   obtain⟨y,ba⟩:=hs
   exact⟨_,by simp only[World.cell?,q1];exact ba,by simp[World.frozen?,q1],fun x=>hw.trans (dm.setCell q1 db (by rw[ba];exact .inr (.inl ⟨_,_,rfl,rfl⟩)))⟩
  ·obtain⟨u,hu,hk⟩:=hv i j _ hi ap
   obtain⟨h1,aL,rfl⟩:=hk.of_bool
   refine⟨h1,fun wr hw=> ?_⟩
   obtain⟨bX,q1,q2,q3⟩:=hw.at bD
   have af:=q3 (o+(i*e.b2.length+j))
   rw[hu] at af
   have hs: ∃y,bX[o+(i*e.b2.length+j)]?=some (.bool y):=by
    rcases af with q | ⟨_,_,q,_⟩ | ⟨_,y,_,q⟩
    ·exact⟨_,q⟩
    ·cases q
    ·exact⟨_,q⟩
   obtain⟨y,ba⟩:=hs
   exact⟨_,by simp only[World.cell?,q1];exact ba,by simp[World.frozen?,q1],fun x=>hw.trans (dm.setCell q1 db (by rw[ba];exact .inr (.inr ⟨_,_,rfl,rfl⟩)))⟩
 ·obtain rfl:n=0:=by omega
  exact⟨0,0,fun _ _=>0,fun h=>absurd h ao,h.zero,fun i j b3 hi=>by omega,fun i j hi=>by omega,fun i j hi=>by omega⟩
def su (P:Program) (f:FuncId) (e:aU):Prop:= ∀(w:World) (S:Nat→Prop) (m:Nat) (v:Value) (k:Int),dP w S e m v→0≤k→k+m≤4611686018427387904→
 Calls P f #[v,.int .i64 k] w fun iD w'=>iD= .returned (.int .i64 (k+m))∧dm S w w'
open Go Go.RowKit
set_option maxHeartbeats 1000000
set_option maxRecDepth 100000
theorem A2 (A:Option Addr) (c o n cap:Nat) (k:Int) (w:World) (aw:Array Value) (ty:TypeId) (cN:0<n→A=some ⟨c,o,none⟩∧w.heap[c]?=some (.cells aw ty (0,0))∧o+n≤aw.size) (aI:0≤k) (h1:k+n≤4611686018427387904):
    Calls Tryz.prog 58 #[.slice A n cap,.int .i64 k] w fun e w'=>e= .returned (.int .i64 (k+n))∧jP w w' c o n (pA k):=by
  have kP:=Lib.hid cN;clear cN
  go_enter Tryz.func58,Tryz.ntmps58
  go_wp2
  go_loopw [1,5] (fun q i wr=> ∃j:Nat,j≤n∧i= .int .i64 j∧q= .int .i64 (k+j)∧jP w wr c o j (pA k)) (fun _ i _=>n - (intOf i).toNat)
  case atStart=>exact⟨0,Nat.zero_le _,rfl,by simp,.refl _ _ _ _⟩
  case round=>
    obtain⟨j,ap,rfl,rfl,hm⟩:=hrel
    have gL:=Lib.hid hm;clear hm
    by_cases aX:j<n
    · obtain⟨aR,hw,ao⟩:=kP.out (by omega)
      have h4:=Lib.hid hw;clear hw
      subst aR
      obtain⟨u,hu,hf⟩:=gL.out.cell h4.out (j:=o+j) (by omega)
      go_wp2
      go_roundw
      case rel=>exact⟨j+1,by omega,by go_num,by go_num,gL.out.snoc rfl⟩
      case measure=>simp[intOf];omega
    · have e:j=n:=by omega
      subst e
      go_wp2
      go_ret
      exact⟨rfl,gL.out⟩
theorem Nt (A:Option Addr) (c o n cap:Nat) (k:Int) (w:World) (aw:Array Value) (ty:TypeId) (cN:0<n→A=some ⟨c,o,none⟩∧w.heap[c]?=some (.cells aw ty (0,0))∧o+n≤aw.size) (aI:0≤k) (h1:k+n≤4611686018427387904):
    Calls Tryz.prog 61 #[.slice A n cap,.int .i64 k] w fun e w'=>e= .returned (.int .i64 (k+n))∧jP w w' c o n (IU k):=by
  have kP:=Lib.hid cN;clear cN
  go_enter Tryz.func61,Tryz.ntmps61
  go_wp2
  go_loopw [1,5] (fun q i wr=> ∃j:Nat,j≤n∧i= .int .i64 j∧q= .int .i64 (k+j)∧jP w wr c o j (IU k)) (fun _ i _=>n - (intOf i).toNat)
  case atStart=>exact⟨0,Nat.zero_le _,rfl,by simp,.refl _ _ _ _⟩
  case round=>
    obtain⟨j,ap,rfl,rfl,hm⟩:=hrel
    have gL:=Lib.hid hm;clear hm
    by_cases aX:j<n
    · obtain⟨aR,hw,ao⟩:=kP.out (by omega)
      have h4:=Lib.hid hw;clear hw
      subst aR
      obtain⟨u,hu,hf⟩:=gL.out.cell h4.out (j:=o+j) (by omega)
      go_wp2
      go_roundw
      case rel=>exact⟨j+1,by omega,by go_num,by go_num,gL.out.snoc rfl⟩
      case measure=>simp[intOf];omega
    · have e:j=n:=by omega
      subst e
      go_wp2
      go_ret
      exact⟨rfl,gL.out⟩
theorem Nu (A:Option Addr) (c o n cap:Nat) (k:Int) (w:World) (aw:Array Value) (ty:TypeId) (cN:0<n→A=some ⟨c,o,none⟩∧w.heap[c]?=some (.cells aw ty (0,0))∧o+n*2≤aw.size) (aI:0≤k) (h1:k+2*n≤4611686018427387904):
    Calls Tryz.prog 103 #[.slice A n cap,.int .i64 k] w fun e w'=>e= .returned (.int .i64 (k+2*n))∧jP w w' c o (n*2) (pA k):=by
  have kP:=Lib.hid cN;clear cN
  go_enter Tryz.func103,Tryz.ntmps103
  go_wp2
  go_loopw [1,5] (fun q i wr=> ∃j:Nat,j≤n∧i= .int .i64 j∧q= .int .i64 (k+2*j)∧jP w wr c o (j*2) (pA k)) (fun _ i _=>n - (intOf i).toNat)
  case atStart=>exact⟨0,Nat.zero_le _,rfl,by simp,.refl _ _ _ _⟩
  case round=>
    obtain⟨j,ap,rfl,rfl,hm⟩:=hrel
    have gL:=Lib.hid hm;clear hm
    by_cases aX:j<n
    · obtain⟨aR,hw,ao⟩:=kP.out (by omega)
      have h4:=Lib.hid hw;clear hw
      subst aR
      obtain⟨QP,ES,xr⟩:=gL.out.cell h4.out (j:=o+j*2) (by omega)
      obtain⟨QQ,pu,xt⟩:=gL.out.cell h4.out (j:=o+j*2+1) (by omega)
      go_wp2
      go_roundw
      case rel=>exact⟨j+1,by omega,by go_num,by go_num,by
        have:=((gL.out.snoc (v:= .int .i64 (k+2*j)) (by unfold pA;congr 1;omega)).snoc (v:= .int .i64 (k+2*j+1)) (by unfold pA;congr 1;omega))
        rw[show(j+1)*2=j*2+1+1 by omega];exact this⟩
      case measure=>simp[intOf];omega
    · have e:j=n:=by omega
      subst e
      go_wp2
      go_ret
      exact⟨rfl,gL.out⟩
theorem Nv (A:Option Addr) (c o n cap:Nat) (k:Int) (w:World) (aw:Array Value) (ty:TypeId) (cN:0<n→A=some ⟨c,o,none⟩∧w.heap[c]?=some (.cells aw ty (0,0))∧o+n*2≤aw.size) (aI:0≤k) (h1:k+2*n≤4611686018427387904):
    Calls Tryz.prog 62 #[.slice A n cap,.int .i64 k] w fun e w'=>e= .returned (.int .i64 (k+2*n))∧jP w w' c o (n*2) (pA k):=by
  have kP:=Lib.hid cN;clear cN
  go_enter Tryz.func62,Tryz.ntmps62
  go_wp2
  go_loopw [1,5] (fun q i wr=> ∃j:Nat,j≤n∧i= .int .i64 j∧q= .int .i64 (k+2*j)∧jP w wr c o (j*2) (pA k)) (fun _ i _=>n - (intOf i).toNat)
  case atStart=>exact⟨0,Nat.zero_le _,rfl,by simp,.refl _ _ _ _⟩
  case round=>
    obtain⟨j,ap,rfl,rfl,hm⟩:=hrel
    have gL:=Lib.hid hm;clear hm
    by_cases aX:j<n
    · obtain⟨aR,hw,ao⟩:=kP.out (by omega)
      have h4:=Lib.hid hw;clear hw
      subst aR
      obtain⟨QP,ES,xr⟩:=gL.out.cell h4.out (j:=o+j*2) (by omega)
      obtain⟨QQ,pu,xt⟩:=gL.out.cell h4.out (j:=o+j*2+1) (by omega)
      go_wp2
      go_roundw
      case rel=>exact⟨j+1,by omega,by go_num,by go_num,by
        have:=((gL.out.snoc (v:= .int .i64 (k+2*j)) (by unfold pA;congr 1;omega)).snoc (v:= .int .i64 (k+2*j+1)) (by unfold pA;congr 1;omega))
        rw[show(j+1)*2=j*2+1+1 by omega];exact this⟩
      case measure=>simp[intOf];omega
    · have e:j=n:=by omega
      subst e
      go_wp2
      go_ret
      exact⟨rfl,gL.out⟩
open Go Go.RowKit
theorem dP.flat {w:World} {S:Nat→Prop} {nv e:aU} {L m n cap:Nat} {A:Option Addr} (E3:nv= .int∨nv= .bool) (bN:e.b2=List.replicate L nv) (aI:0<L) (h:dP w S (.l e) m (.slice A n cap)):
    m=n*L∧(0<n→ ∃(c o:Nat) (aw:Array Value) (ty:TypeId),A=some ⟨c,o,none⟩∧S c∧w.heap[c]?=some (.cells aw ty (0,0))∧o+n*L≤aw.size∧ ∀q,q<n*L→ ∃u,aw[o+q]?=some u∧dP w S nv 1 u):=by
  by_cases ao:0<n
  · obtain⟨c,o,aw,ty,ca,cN,db,bD,hm,cd,hv⟩:=h.cells ao
    have aE:e.b2.length=L:=by rw[bN,List.length_replicate]
    rw[aE] at hm cd
    have ap: ∀j,j<L→e.b2[j]?=some nv:=fun j ap=>by rw[bN,List.getElem?_replicate,if_pos ap]
    have one: ∀i j,i<n→j<L→ca i j=1∧ ∃u,aw[o+(i*L+j)]?=some u∧dP w S nv 1 u:=fun i j hi io=>by
      obtain⟨u,hu,hk⟩:=hv i j nv hi (ap j io)
      rw[aE] at hu
      have:ca i j=1:=by
        rcases E3 with rfl | rfl
        · exact hk.of_int.1
        · exact hk.of_bool.1
      exact⟨this,u,hu,this▸hk⟩
    refine⟨?_,fun _=>⟨c,o,aw,ty,cN,db,bD,cd aI,fun q af=> ?_⟩⟩
    · rw[hm]
      exact HW fun i hi=>(HW (c:=1) fun j ap=>(one i j hi ap).1).trans (Nat.mul_one _)
    · have h1:q / L<n:=(Nat.div_lt_iff_lt_mul aI).2 af
      obtain⟨_,u,hu,hk⟩:=one (q / L) (q%L) h1 (Nat.mod_lt _ aI)
      refine⟨u,?_,hk⟩
      rw[Nat.mul_comm,Nat.div_add_mod] at hu
      exact hu
  · obtain rfl:n=0:=by omega
    exact⟨by rw[h.zero];simp,fun h=>absurd h ao⟩
theorem dP.same {w:World} {S:Nat→Prop} {u:Value} (h:dP w S .int 1 u) (n:Int):mO (some u) (some (.int .i64 n)):=by
  obtain⟨_,m,rfl⟩:=h.of_int;exact .inr (.inl ⟨_,_,rfl,rfl⟩)
theorem dP.ab3 {w:World} {S:Nat→Prop} {u:Value} (h:dP w S .bool 1 u) (n:Bool):mO (some u) (some (.bool n)):=by
  obtain⟨_,m,rfl⟩:=h.of_bool;exact .inr (.inr ⟨_,_,rfl,rfl⟩)
theorem A5:su Tryz.prog 58 (.l .int):=fun w S m v k h aI h1=>by
  obtain⟨A,n,cap,rfl⟩:=h.nT
  obtain⟨rfl,hc⟩:=h.flat (.inl rfl) (L:=1) rfl (by omega)
  rw[Nat.mul_one] at h1 hc ⊢
  have h2:k+n≤4611686018427387904:=by exact h1
  have av:(Ending.returned (.int .i64 (k+n)):Ending)= .returned (.int .i64 (k+((n:Nat):Int))):=by rfl
  by_cases ao:0<n
  · obtain⟨c,o,aw,ty,cN,db,bD,aH,hv⟩:=hc ao
    refine(A2 A c o n cap k w aw ty (fun _=>⟨cN,bD,aH⟩) aI h2).mono ?_
    rintro e w' ⟨rfl,hm⟩
    refine⟨av,hm.fy db fun bX hC i hx hi=> ?_⟩
    rw[bD] at hx;cases hx
    obtain⟨u,hu,hk⟩:=hv i hi
    rw[hu];exact hk.same _
  · refine(A2 A w.heap.size 0 n cap k w #[] 0 (fun h=>absurd h ao) aI h2).mono ?_
    rintro e w' ⟨rfl,hm⟩
    exact⟨av,hm.xU⟩
theorem F9:su Tryz.prog 61 (.l .bool):=fun w S m v k h aI h1=>by
  obtain⟨A,n,cap,rfl⟩:=h.nT
  obtain⟨rfl,hc⟩:=h.flat (.inr rfl) (L:=1) rfl (by omega)
  rw[Nat.mul_one] at h1 hc ⊢
  have h2:k+n≤4611686018427387904:=by exact h1
  have av:(Ending.returned (.int .i64 (k+n)):Ending)= .returned (.int .i64 (k+((n:Nat):Int))):=by rfl
  by_cases ao:0<n
  · obtain⟨c,o,aw,ty,cN,db,bD,aH,hv⟩:=hc ao
    refine(Nt A c o n cap k w aw ty (fun _=>⟨cN,bD,aH⟩) aI h2).mono ?_
    rintro e w' ⟨rfl,hm⟩
    refine⟨av,hm.fy db fun bX hC i hx hi=> ?_⟩
    rw[bD] at hx;cases hx
    obtain⟨u,hu,hk⟩:=hv i hi
    rw[hu];exact hk.ab3 _
  · refine(Nt A w.heap.size 0 n cap k w #[] 0 (fun h=>absurd h ao) aI h2).mono ?_
    rintro e w' ⟨rfl,hm⟩
    exact⟨av,hm.xU⟩
theorem NA:su Tryz.prog 103 (.l .bO):=fun w S m v k h aI h1=>by
  obtain⟨A,n,cap,rfl⟩:=h.nT
  obtain⟨rfl,hc⟩:=h.flat (.inl rfl) (L:=2) rfl (by omega)
  have h2:k+2*n≤4611686018427387904:=by omega
  have av:(Ending.returned (.int .i64 (k+2*n)):Ending)= .returned (.int .i64 (k+((n*2:Nat):Int))):=by congr 2;omega
  by_cases ao:0<n
  · obtain⟨c,o,aw,ty,cN,db,bD,aH,hv⟩:=hc ao
    refine(Nu A c o n cap k w aw ty (fun _=>⟨cN,bD,aH⟩) aI h2).mono ?_
    rintro e w' ⟨rfl,hm⟩
    refine⟨av,hm.fy db fun bX hC i hx hi=> ?_⟩
    rw[bD] at hx;cases hx
    obtain⟨u,hu,hk⟩:=hv i hi
    rw[hu];exact hk.same _
  · refine(Nu A w.heap.size 0 n cap k w #[] 0 (fun h=>absurd h ao) aI h2).mono ?_
    rintro e w' ⟨rfl,hm⟩
    exact⟨av,hm.xU⟩
theorem aaa:su Tryz.prog 62 (.l .ev):=fun w S m v k h aI h1=>by
  obtain⟨A,n,cap,rfl⟩:=h.nT
  obtain⟨rfl,hc⟩:=h.flat (.inl rfl) (L:=2) rfl (by omega)
  have h2:k+2*n≤4611686018427387904:=by omega
  have av:(Ending.returned (.int .i64 (k+2*n)):Ending)= .returned (.int .i64 (k+((n*2:Nat):Int))):=by congr 2;omega
  by_cases ao:0<n
  · obtain⟨c,o,aw,ty,cN,db,bD,aH,hv⟩:=hc ao
    refine(Nv A c o n cap k w aw ty (fun _=>⟨cN,bD,aH⟩) aI h2).mono ?_
    rintro e w' ⟨rfl,hm⟩
    refine⟨av,hm.fy db fun bX hC i hx hi=> ?_⟩
    rw[bD] at hx;cases hx
    obtain⟨u,hu,hk⟩:=hv i hi
    rw[hu];exact hk.same _
  · refine(Nv A w.heap.size 0 n cap k w #[] 0 (fun h=>absurd h ao) aI h2).mono ?_
    rintro e w' ⟨rfl,hm⟩
    exact⟨av,hm.xU⟩
open Go Go.RowKit
theorem Z7:su Tryz.prog 60 (.l (.l .bool)):=fun w S m v k h aI h1=>by
  obtain⟨A,n,cap,rfl⟩:=h.nT
  obtain⟨qs,c,o,ca,cN,rfl,aE,_,_⟩:=h.elem
  have H1:=Lib.hid h1;clear h1
  have kP:=Lib.hid cN;clear cN
  have cA:=Lib.hid aE;clear aE
  clear h
  go_enter Tryz.func60,Tryz.ntmps60
  go_wp2
  go_loopw [1,5] (fun q i wr=> ∃j:Nat,j≤n∧i= .int .i64 j∧q= .int .i64 (k+(cn (fun i=>cn (ca i) 1) j:Nat))∧dm S w wr) (fun _ i _=>n - (intOf i).toNat)
  case atStart=>exact⟨0,Nat.zero_le _,rfl,by simp[cn],.refl _ _⟩
  case round=>
    obtain⟨j,ap,rfl,rfl,hm⟩:=hrel
    have gL:=Lib.hid hm;clear hm
    by_cases aX:j<n
    · obtain rfl:=kP.out (by omega)
      obtain⟨bQ,bZ,bA,h2⟩:=cA.out j 0 .bool aX rfl
      obtain⟨El,u_⟩:=h2 wr gL.out
      rw[show o+(j*(aU.l aU.bool).b2.length+0)=o+j from by show o+(j*1+0)=_;omega] at El
      have wB:=Lib.hid u_;clear u_ h2
      have bn:cn (fun i=>cn (ca i) 1) (j+1)=cn (fun i=>cn (ca i) 1) j+ca j 0:=by show _+(0+ca j 0)=_;rw[Nat.zero_add]
      have hle:cn (fun i=>cn (ca i) 1) (j+1)≤cn (fun i=>cn (ca i) 1) n:=B8 (by omega)
      have mb:Hid (k+(cn (fun i=>cn (ca i) 1) j:Nat)+(ca j 0:Nat)≤4611686018427387904∧0≤k+(cn (fun i=>cn (ca i) 1) j:Nat)):=by
        unfold Hid
        have h1:k+(cn (fun i=>cn (ca i) 1) n:Nat)≤4611686018427387904:=H1.out
        omega
      have st:=Lib.hid bn;clear bn hle
      go_wp2_with (go_at_call 61;refine(F9 _ S _ _ _ wB.out mb.out.2 mb.out.1).mono ?_)
      first
      | (rintro e bz rfl Eg)
      | (rintro e bz ⟨rfl,Eg⟩)
      have n7:=Lib.hid (gL.out.trans Eg);clear Eg
      go_wp2
      go_roundw
      case rel=>exact⟨j+1,by omega,by go_num,by rw[st.out];congr 1;omega,n7.out⟩
      case measure=>simp[intOf];omega
    · have e:j=n:=by omega
      subst e
      go_wp2
      go_ret
      exact⟨rfl,gL.out⟩
theorem aab:su Tryz.prog 59 (.l .ei):=fun w S m v k h aI h1=>by
  obtain⟨A,n,cap,rfl⟩:=h.nT
  obtain⟨qs,c,o,ca,cN,rfl,aE,_,_⟩:=h.elem
  have H1:=Lib.hid h1;clear h1
  have kP:=Lib.hid cN;clear cN
  have cA:=Lib.hid aE;clear aE
  clear h
  go_enter Tryz.func59,Tryz.ntmps59
  go_wp2
  go_loopw [1,5] (fun q i wr=> ∃j:Nat,j≤n∧i= .int .i64 j∧q= .int .i64 (k+(cn (fun i=>cn (ca i) 5) j:Nat))∧dm S w wr) (fun _ i _=>n - (intOf i).toNat)
  case atStart=>exact⟨0,Nat.zero_le _,rfl,by simp[cn],.refl _ _⟩
  case round=>
    obtain⟨j,ap,rfl,rfl,hm⟩:=hrel
    have gL:=Lib.hid hm;clear hm
    by_cases aX:j<n
    · obtain rfl:=kP.out (by omega)
      obtain⟨bQ,bZ,bA,Kb⟩:=cA.out j 0 .int aX rfl
      have gJ:=Lib.hid Kb;clear Kb
      obtain⟨bL,cu,br,uX⟩:=cA.out j 1 .bO aX rfl
      have gK:=Lib.hid uX;clear uX
      obtain⟨bK,n2,bm,nH⟩:=cA.out j 2 .bO aX rfl
      have ga:=Lib.hid nH;clear nH
      obtain⟨Rg,k5,hT,Kc⟩:=cA.out j 3 .int aX rfl
      have Ig:=Lib.hid Kc;clear Kc
      obtain⟨Rh,A7,kv,Kd⟩:=cA.out j 4 .int aX rfl
      have Ih:=Lib.hid Kd;clear Kd
      have bn:cn (fun i=>cn (ca i) 5) (j+1)=cn (fun i=>cn (ca i) 5) j+(ca j 0+ca j 1+ca j 2+ca j 3+ca j 4):=by
        show _+(0+ca j 0+ca j 1+ca j 2+ca j 3+ca j 4)=_
        rw[Nat.zero_add]
      have hle:cn (fun i=>cn (ca i) 5) (j+1)≤cn (fun i=>cn (ca i) 5) n:=B8 (by omega)
      have mb:Hid (0≤k+(cn (fun i=>cn (ca i) 5) j:Nat)∧k+(cn (fun i=>cn (ca i) 5) j:Nat)+((ca j 0:Nat)+(ca j 1:Nat)+(ca j 2:Nat)+(ca j 3:Nat)+(ca j 4:Nat))≤4611686018427387904):=by
        unfold Hid
        have h1:k+(cn (fun i=>cn (ca i) 5) n:Nat)≤4611686018427387904:=H1.out
        omega
      have st:=Lib.hid bn;clear bn hle
      have El:wr.cell? ⟨c,o+j*5,none⟩=some (.slice bQ bZ bA):=by
        have:=(gJ.out wr gL.out).1
        rw[show o+(j*(aU.b2 .ei).length+0)=o+j*5 from by show o+(j*5+0)=_;omega] at this
        exact this
      have mc:Hid (0≤k+(cn (fun i=>cn (ca i) 5) j:Nat)∧k+(cn (fun i=>cn (ca i) 5) j:Nat)+(ca j 0:Nat)≤4611686018427387904):=by unfold Hid;have:=mb.out;omega
      go_wp2_with (go_at_call 58;refine(A5 wr S _ _ _ (gJ.out wr gL.out).2 mc.out.1 mc.out.2).mono ?_)
      first
      | (rintro e bz rfl hb)
      | (rintro e bz ⟨rfl,hb⟩)
      have Cq:=Lib.hid (gL.out.trans hb);clear hb El
      have ou:bz.cell? ⟨c,o+j*5+1,none⟩=some (.slice bL cu br):=by
        have:=(gK.out bz Cq.out).1
        rw[show o+(j*(aU.b2 .ei).length+1)=o+j*5+1 from by show o+(j*5+1)=_;omega] at this
        exact this
      have me:Hid (0≤k+(cn (fun i=>cn (ca i) 5) j:Nat)+(ca j 0:Nat)∧k+(cn (fun i=>cn (ca i) 5) j:Nat)+(ca j 0:Nat)+(ca j 1:Nat)≤4611686018427387904):=by unfold Hid;have:=mb.out;omega
      go_wp2_with (go_at_call 103;refine(NA bz S _ _ _ (gK.out bz Cq.out).2 me.out.1 me.out.2).mono ?_)
      first
      | (rintro e bM rfl hb)
      | (rintro e bM ⟨rfl,hb⟩)
      have wK:=Lib.hid (Cq.out.trans hb);clear hb ou
      have qk:bM.cell? ⟨c,o+j*5+2,none⟩=some (.slice bK n2 bm):=by
        have:=(ga.out bM wK.out).1
        rw[show o+(j*(aU.b2 .ei).length+2)=o+j*5+2 from by show o+(j*5+2)=_;omega] at this
        exact this
      have kQ:Hid (0≤k+(cn (fun i=>cn (ca i) 5) j:Nat)+(ca j 0:Nat)+(ca j 1:Nat)∧k+(cn (fun i=>cn (ca i) 5) j:Nat)+(ca j 0:Nat)+(ca j 1:Nat)+(ca j 2:Nat)≤4611686018427387904):=by unfold Hid;have:=mb.out;omega
      go_wp2_with (go_at_call 103;refine(NA bM S _ _ _ (ga.out bM wK.out).2 kQ.out.1 kQ.out.2).mono ?_)
      first
      | (rintro e cU rfl hb)
      | (rintro e cU ⟨rfl,hb⟩)
      have Cr:=Lib.hid (wK.out.trans hb);clear hb qk
      have Vj:cU.cell? ⟨c,o+j*5+3,none⟩=some (.slice Rg k5 hT):=by
        have:=(Ig.out cU Cr.out).1
        rw[show o+(j*(aU.b2 .ei).length+3)=o+j*5+3 from by show o+(j*5+3)=_;omega] at this
        exact this
      have Ii:Hid (0≤k+(cn (fun i=>cn (ca i) 5) j:Nat)+(ca j 0:Nat)+(ca j 1:Nat)+(ca j 2:Nat)∧k+(cn (fun i=>cn (ca i) 5) j:Nat)+(ca j 0:Nat)+(ca j 1:Nat)+(ca j 2:Nat)+(ca j 3:Nat)≤4611686018427387904):=by unfold Hid;have:=mb.out;omega
      go_wp2_with (go_at_call 58;refine(A5 cU S _ _ _ (Ig.out cU Cr.out).2 Ii.out.1 Ii.out.2).mono ?_)
      first
      | (rintro e iT rfl hb)
      | (rintro e iT ⟨rfl,hb⟩)
      have Cs:=Lib.hid (Cr.out.trans hb);clear hb Vj
      have Vk:iT.cell? ⟨c,o+j*5+4,none⟩=some (.slice Rh A7 kv):=by
        have:=(Ih.out iT Cs.out).1
        rw[show o+(j*(aU.b2 .ei).length+4)=o+j*5+4 from by show o+(j*5+4)=_;omega] at this
        exact this
      have Ij:Hid (0≤k+(cn (fun i=>cn (ca i) 5) j:Nat)+(ca j 0:Nat)+(ca j 1:Nat)+(ca j 2:Nat)+(ca j 3:Nat)∧k+(cn (fun i=>cn (ca i) 5) j:Nat)+(ca j 0:Nat)+(ca j 1:Nat)+(ca j 2:Nat)+(ca j 3:Nat)+(ca j 4:Nat)≤4611686018427387904):=by unfold Hid;have:=mb.out;omega
      go_wp2_with (go_at_call 58;refine(A5 iT S _ _ _ (Ih.out iT Cs.out).2 Ij.out.1 Ij.out.2).mono ?_)
      first
      | (rintro e k9 rfl hb)
      | (rintro e k9 ⟨rfl,hb⟩)
      have Rv:=Lib.hid (Cs.out.trans hb);clear hb Vk
      go_wp2
      go_roundw
      case rel=>exact⟨j+1,by omega,by go_num,by rw[st.out];congr 1;omega,Rv.out⟩
      case measure=>simp[intOf];omega
    · have e:j=n:=by omega
      subst e
      go_wp2
      go_ret
      exact⟨rfl,gL.out⟩
theorem Z9:su Tryz.prog 63 (.l .held):=fun w S m v k h aI h1=>by
  obtain⟨A,n,cap,rfl⟩:=h.nT
  obtain⟨qs,c,o,ca,cN,rfl,aE,hi,hb⟩:=h.elem
  have H1:=Lib.hid h1;clear h1
  have kP:=Lib.hid cN;clear cN
  have cA:=Lib.hid aE;clear aE
  have sr:=Lib.hid hi;clear hi
  have Rq:=Lib.hid hb;clear hb
  clear h
  go_enter Tryz.func63,Tryz.ntmps63
  go_wp2
  go_loopw [1,5] (fun q i wr=> ∃j:Nat,j≤n∧i= .int .i64 j∧q= .int .i64 (k+(cn (fun i=>cn (ca i) 5) j:Nat))∧dm S w wr) (fun _ i _=>n - (intOf i).toNat)
  case atStart=>exact⟨0,Nat.zero_le _,rfl,by simp[cn],.refl _ _⟩
  case round=>
    obtain⟨j,ap,rfl,rfl,hm⟩:=hrel
    have gL:=Lib.hid hm;clear hm
    by_cases aX:j<n
    · obtain rfl:=kP.out (by omega)
      obtain⟨cs,cL⟩:=sr.out j 0 aX rfl
      rw[show o+(j*(aU.b2 .held).length+0)=o+j*5 from by show o+(j*5+0)=_;omega] at cL
      have cL:=Lib.hid cL
      obtain⟨aR,cI⟩:=sr.out j 1 aX rfl
      rw[show o+(j*(aU.b2 .held).length+1)=o+j*5+1 from by show o+(j*5+1)=_;omega] at cI
      have cI:=Lib.hid cI
      obtain⟨hH,ka⟩:=sr.out j 4 aX rfl
      rw[show o+(j*(aU.b2 .held).length+4)=o+j*5+4 from by show o+(j*5+4)=_;omega] at ka
      have ka:=Lib.hid ka
      obtain⟨dq,j_⟩:=Rq.out j 3 aX rfl
      rw[show o+(j*(aU.b2 .held).length+3)=o+j*5+3 from by show o+(j*5+3)=_;omega] at j_
      have j_:=Lib.hid j_
      obtain⟨bK,n2,bm,nH⟩:=cA.out j 2 .bool aX rfl
      rw[show o+(j*(aU.b2 .held).length+2)=o+j*5+2 from by show o+(j*5+2)=_;omega] at nH
      have ga:=Lib.hid nH;clear nH
      have bn:cn (fun i=>cn (ca i) 5) (j+1)=cn (fun i=>cn (ca i) 5) j+(4+ca j 2):=by
        show _+(0+ca j 0+ca j 1+ca j 2+ca j 3+ca j 4)=_
        omega
      have hle:cn (fun i=>cn (ca i) 5) (j+1)≤cn (fun i=>cn (ca i) 5) n:=B8 (by omega)
      obtain⟨y,ba⟩: ∃y:Int,k+(cn (fun i=>cn (ca i) 5) j:Nat)=y:=⟨_,rfl⟩
      obtain⟨bj,k4⟩: ∃bj:Nat,ca j 2=bj:=⟨_,rfl⟩
      rw[k4] at ga
      have h1:k+(cn (fun i=>cn (ca i) 5) n:Nat)≤4611686018427387904:=H1.out
      have afi:0≤y:=by omega
      have EZ:y+bj+4≤4611686018427387904:=by omega
      have st:Hid (k+(cn (fun i=>cn (ca i) 5) (j+1):Nat)=y+1+1+bj+1+1):=by unfold Hid;omega
      rw[ba]
      clear bn hle h1 cs aR dq hH ba k4
      obtain⟨QP,ES,xr,mf⟩:=cL.out wr gL.out
      obtain⟨QQ,pu,xt,_⟩:=cI.out wr gL.out
      obtain⟨rN,_⟩:=ga.out wr gL.out
      have RC:=Lib.hid mf;clear mf
      have Im:Hid (∀x k_,dm S w ((wr.setCell ⟨c,o+j*5,none⟩ (.int .i64 x)).setCell ⟨c,o+j*5+1,none⟩ (.int .i64 k_))):=fun x k_=>by
        obtain⟨_,_,_,lI⟩:=cI.out _ (RC.out x)
        exact lI k_
      have kQ:Hid (0≤y+1+1∧y+1+1+(bj:Nat)≤4611686018427387904):=by unfold Hid;omega
      go_wp2_with (go_at_call 61;refine(F9 _ S _ _ _ (ga.out _ (Im.out _ _)).2 kQ.out.1 kQ.out.2).mono ?_)
      first
      | (rintro e bz rfl hb)
      | (rintro e bz ⟨rfl,hb⟩)
      have n7:=Lib.hid ((Im.out _ _).trans hb);clear hb
      clear ES xr pu xt rN
      obtain⟨afr,afg,ae7,uj⟩:=j_.out bz n7.out
      obtain⟨afs,afh,ae8,_⟩:=ka.out bz n7.out
      have RD:=Lib.hid uj;clear uj
      have RE:Hid (∀x k_,dm S w ((bz.setCell ⟨c,o+j*5+3,none⟩ (.bool x)).setCell ⟨c,o+j*5+4,none⟩ (.int .i64 k_))):=fun x k_=>by
        obtain⟨_,_,_,Rz⟩:=ka.out _ (RD.out x)
        exact Rz k_
      go_wp2
      go_roundw
      case rel=>exact⟨j+1,by omega,by go_num,by rw[st.out],RE.out _ _⟩
      case measure=>simp[intOf];omega
    · have e:j=n:=by omega
      subst e
      go_wp2
      go_ret
      exact⟨rfl,gL.out⟩
open Go Go.RowKit
theorem Z_ (w:World) (S:Nat→Prop) (vZ cS:Int) (bQ bL bK:Option Addr) (bZ bA an cu br aY n2 bm bj:Nat) (k:Int) (mf:dP w S (.l .int) an (.slice bQ bZ bA)) (lI:dP w S (.l .ei) aY (.slice bL cu br)) (mM:dP w S (.l (.l .bool)) bj (.slice bK n2 bm)) (aI:0≤k) (h1:k+(an:Nat)+(aY:Nat)+(bj:Nat)≤4611686018427387904):
    Calls Tryz.prog 15 #[.agg #[.int .i64 vZ,.slice bQ bZ bA,.slice bL cu br,.slice bK n2 bm,.int .i64 cS],.int .i64 k] w fun iD w'=>iD= .returned (.int .i64 (k+(an:Nat)+(aY:Nat)+(bj:Nat)))∧dm S w w':=by
  have h4:Hid (dm S w (w.alloc (.cells #[.int .i64 vZ,.slice bQ bZ bA,.slice bL cu br,.slice bK n2 bm,.int .i64 cS] 39))):=dm.below ((Below.refl _ _).alloc (Nat.le_refl _) _)
  have o3:Hid ((w.alloc (.cells #[.int .i64 vZ,.slice bQ bZ bA,.slice bL cu br,.slice bK n2 bm,.int .i64 cS] 39)).heap[w.heap.size]?=some (.cells #[.int .i64 vZ,.slice bQ bZ bA,.slice bL cu br,.slice bK n2 bm,.int .i64 cS] 39 (0,0))):=nA _ _
  have gJ:=Lib.hid mf;clear mf
  have gK:=Lib.hid lI;clear lI
  have ga:=Lib.hid mM;clear mM
  go_enter Tryz.func15,Tryz.ntmps15
  have Cp:Hid (dm S (w.alloc (.cells #[.int .i64 vZ,.slice bQ bZ bA,.slice bL cu br,.slice bK n2 bm,.int .i64 cS] 39)) (w.alloc (.cells #[.int .i64 vZ,.slice bQ bZ bA,.slice bL cu br,.slice bK n2 bm,.int .i64 cS] 39))):=dm.refl _ _
  have mc:Hid (0≤k∧k+(an:Nat)≤4611686018427387904):=by unfold Hid;omega
  go_wp2_with (go_at_call 58;refine(A5 _ S _ _ _ (gJ.out.fy h4.out) mc.out.1 mc.out.2).mono ?_)
  first
  | (rintro e bz rfl hb)
  | (rintro e bz ⟨rfl,hb⟩)
  have la:=Lib.hid (Cp.out.trans hb);clear hb
  have ou:bz.cell? ⟨w.heap.size,2,none⟩=some (.slice bL cu br):=la.out.head o3.out rfl
  have me:Hid (0≤k+(an:Nat)∧k+(an:Nat)+(aY:Nat)≤4611686018427387904):=by unfold Hid;omega
  go_wp2_with (go_at_call 59;refine(aab _ S _ _ _ (gK.out.fy (h4.out.trans la.out)) me.out.1 me.out.2).mono ?_)
  first
  | (rintro e bM rfl hb)
  | (rintro e bM ⟨rfl,hb⟩)
  have lb:=Lib.hid (la.out.trans hb);clear hb ou
  have qk:bM.cell? ⟨w.heap.size,3,none⟩=some (.slice bK n2 bm):=lb.out.head o3.out rfl
  have kQ:Hid (0≤k+(an:Nat)+(aY:Nat)∧k+(an:Nat)+(aY:Nat)+(bj:Nat)≤4611686018427387904):=by unfold Hid;omega
  go_wp2_with (go_at_call 60;refine(Z7 _ S _ _ _ (ga.out.fy (h4.out.trans lb.out)) kQ.out.1 kQ.out.2).mono ?_)
  first
  | (rintro e cU rfl hb)
  | (rintro e cU ⟨rfl,hb⟩)
  have ss:=Lib.hid (lb.out.trans hb);clear hb qk
  go_wp2
  go_ret
  exact⟨rfl,h4.out.trans ss.out⟩
theorem Z8 (w:World) (S:Nat→Prop) (ok:Bool) (bQ bL bK:Option Addr) (bZ bA an cu br aY n2 bm bj:Nat) (k:Int) (mf:dP w S (.l .bool) an (.slice bQ bZ bA)) (lI:dP w S (.l .ev) aY (.slice bL cu br)) (mM:dP w S (.l .held) bj (.slice bK n2 bm)) (aI:0≤k) (h1:k+(an:Nat)+(aY:Nat)+(bj:Nat)≤4611686018427387904):
    Calls Tryz.prog 16 #[.agg #[.bool ok,.slice bQ bZ bA,.slice bL cu br,.slice bK n2 bm],.int .i64 k] w fun iD w'=>iD= .returned (.int .i64 (k+(an:Nat)+(aY:Nat)+(bj:Nat)))∧dm S w w':=by
  have h4:Hid (dm S w (w.alloc (.cells #[.bool ok,.slice bQ bZ bA,.slice bL cu br,.slice bK n2 bm] 44))):=dm.below ((Below.refl _ _).alloc (Nat.le_refl _) _)
  have o3:Hid ((w.alloc (.cells #[.bool ok,.slice bQ bZ bA,.slice bL cu br,.slice bK n2 bm] 44)).heap[w.heap.size]?=some (.cells #[.bool ok,.slice bQ bZ bA,.slice bL cu br,.slice bK n2 bm] 44 (0,0))):=nA _ _
  have gJ:=Lib.hid mf;clear mf
  have gK:=Lib.hid lI;clear lI
  have ga:=Lib.hid mM;clear mM
  go_enter Tryz.func16,Tryz.ntmps16
  have Cp:Hid (dm S (w.alloc (.cells #[.bool ok,.slice bQ bZ bA,.slice bL cu br,.slice bK n2 bm] 44)) (w.alloc (.cells #[.bool ok,.slice bQ bZ bA,.slice bL cu br,.slice bK n2 bm] 44))):=dm.refl _ _
  have mc:Hid (0≤k∧k+(an:Nat)≤4611686018427387904):=by unfold Hid;omega
  go_wp2_with (go_at_call 61;refine(F9 _ S _ _ _ (gJ.out.fy h4.out) mc.out.1 mc.out.2).mono ?_)
  first
  | (rintro e bz rfl hb)
  | (rintro e bz ⟨rfl,hb⟩)
  have la:=Lib.hid (Cp.out.trans hb);clear hb
  have ou:bz.cell? ⟨w.heap.size,2,none⟩=some (.slice bL cu br):=la.out.head o3.out rfl
  have me:Hid (0≤k+(an:Nat)∧k+(an:Nat)+(aY:Nat)≤4611686018427387904):=by unfold Hid;omega
  go_wp2_with (go_at_call 62;refine(aaa _ S _ _ _ (gK.out.fy (h4.out.trans la.out)) me.out.1 me.out.2).mono ?_)
  first
  | (rintro e bM rfl hb)
  | (rintro e bM ⟨rfl,hb⟩)
  have lb:=Lib.hid (la.out.trans hb);clear hb ou
  have qk:bM.cell? ⟨w.heap.size,3,none⟩=some (.slice bK n2 bm):=lb.out.head o3.out rfl
  have kQ:Hid (0≤k+(an:Nat)+(aY:Nat)∧k+(an:Nat)+(aY:Nat)+(bj:Nat)≤4611686018427387904):=by unfold Hid;omega
  go_wp2_with (go_at_call 63;refine(Z9 _ S _ _ _ (ga.out.fy (h4.out.trans lb.out)) kQ.out.1 kQ.out.2).mono ?_)
  first
  | (rintro e cU rfl hb)
  | (rintro e cU ⟨rfl,hb⟩)
  have ss:=Lib.hid (lb.out.trans hb);clear hb qk
  go_wp2
  go_ret
  exact⟨rfl,h4.out.trans ss.out⟩
abbrev dT:=List (Nat×Nat×Bool)
def lM (f:Nat→dT):Nat→dT
 | 0=>[]
 | n+1=>lM f n++f n
def rY:Bool→Int→Value
 | true,k=> .bool (k%3==0)
 | false,k=> .int .i64 k
def kb (L:dT):Prop:=L.Pairwise fun x y=> ¬(x.1=y.1∧x.2.1=y.2.1)
def fE (w:World):dT→Int→Prop
 | [],_=>True
 | x::L,k=>w.cell? ⟨x.1,x.2.1,none⟩=some (rY x.2.2 k)∧fE w L (k+1)
theorem fE.uv {w:World} {M:dT}: ∀{L:dT} {k:Int},fE w (L++M) k↔fE w L k∧fE w M (k+(L.length:Nat))
 | [],k=>by simp[fE]
 | x::L,k=>by
  show(_∧fE w (L++M) (k+1))↔(_∧fE w L (k+1))∧_
  rw[fE.uv (L:=L),and_assoc,show k+1+(L.length:Nat)=k+((x::L).length:Nat) by simp;omega]
theorem fE.cT {w w':World}: ∀{L:dT} {k:Int},fE w L k→(∀x∈L,(∃u,w.cell? ⟨x.1,x.2.1,none⟩=some u)→w'.cell? ⟨x.1,x.2.1,none⟩=w.cell? ⟨x.1,x.2.1,none⟩)→fE w' L k
 | [],k,_,_=>trivial
 | x::L,k,h,hk=>⟨(hk x (List.mem_cons_self ..) ⟨_,h.1⟩).trans h.1,fE.cT h.2 fun y ba=>hk y (List.mem_cons_of_mem _ ba)⟩
theorem fE.here {w:World}: ∀{L:dT} {k:Int},fE w L k→ ∀x∈L,∃u,w.cell? ⟨x.1,x.2.1,none⟩=some u
 | x::L,k,h,y,ba=>by
  rcases List.mem_cons.1 ba with rfl | ba
  ·exact⟨_,h.1⟩
  ·exact fE.here h.2 y ba
theorem I1 {w:World} {b o:Nat} {u:Value} (h:w.cell? ⟨b,o,none⟩=some u):b<w.heap.size:=by
 rcases Nat.lt_or_ge b w.heap.size with h' | h'
 ·exact h'
 ·simp[World.cell?,Array.getElem?_eq_none h'] at h
inductive ee (w:World) (S:Nat→Prop):aU→Nat→Nat→dT→Value→Prop where
 | int (c o:Nat) (n:Int):ee w S .int c o [(c,o,false)] (.int .i64 n)
 | bool (c o:Nat) (b:Bool):ee w S .bool c o [(c,o,true)] (.bool b)
 | aV {e:aU} {a b n cap:Nat} {A:Option Addr} {Ls:Nat→Nat→dT} {vs:Nat→Nat→Value} (c o:Nat) (h1:n≤cap∧n≤4611686018427387904)
   (hc:0<n→ ∃aw ty,A=some ⟨c,o,none⟩∧S c∧w.heap[c]?=some (.cells aw ty (0,0))∧ ∀i j,i<n→j<e.b2.length→aw[o+(i*e.b2.length+j)]?=some (vs i j))
   (av: ∀i j b3,i<n→e.b2[j]?=some b3→ee w S b3 c (o+(i*e.b2.length+j)) (Ls i j) (vs i j)):ee w S (.l e) a b (lM (fun i=>lM (Ls i) e.b2.length) n) (.slice A n cap)
theorem ee.nT {w:World} {S:Nat→Prop} {e:aU} {a b:Nat} {L:dT} {v:Value} (h:ee w S (.l e) a b L v): ∃A n cap,v= .slice A n cap:=by cases h;exact⟨_,_,_,rfl⟩
theorem ee.of_int {w:World} {S:Nat→Prop} {a b:Nat} {L:dT} {v:Value} (h:ee w S .int a b L v):L=[(a,b,false)]∧ ∃n,v= .int .i64 n:=by cases h;exact⟨rfl,_,rfl⟩
theorem ee.of_bool {w:World} {S:Nat→Prop} {a b:Nat} {L:dT} {v:Value} (h:ee w S .bool a b L v):L=[(a,b,true)]∧ ∃n,v= .bool n:=by cases h;exact⟨rfl,_,rfl⟩
theorem ee.nb {w:World} {S:Nat→Prop} {e:aU} {a b:Nat} {L:dT} {n:Int} (h:ee w S e a b L (.int .i64 n)):e= .int∧L=[(a,b,false)]:=by cases h;exact⟨rfl,rfl⟩
theorem ee.mS {w:World} {S:Nat→Prop} {e:aU} {a b:Nat} {L:dT} {n:Bool} (h:ee w S e a b L (.bool n)):e= .bool∧L=[(a,b,true)]:=by cases h;exact⟨rfl,rfl⟩
theorem ee.abz {w:World} {S:Nat→Prop} {e:aU} {a b:Nat} {L:dT} {v:Value} (h:ee w S (.l e) a b L v) (gk bT:Nat):ee w S (.l e) gk bT L v:=by
 cases h with
 | aV c o h1 hc av=>exact .aV c o h1 hc av
theorem ee.zero {w:World} {S:Nat→Prop} {e:aU} {a b cap:Nat} {A:Option Addr} {L:dT} (h:ee w S (.l e) a b L (.slice A 0 cap)):L=[]:=by
 cases h;rfl
theorem ee.cT {w w':World} {S S':Nat→Prop} (hk: ∀c,S c→w'.heap[c]?=w.heap[c]?) (hs: ∀c,S c→S' c) {e:aU} {a b:Nat} {L:dT} {v:Value} (h:ee w S e a b L v):ee w' S' e a b L v:=by
 induction h with
 | int c o n=>exact .int c o n
 | bool c o b=>exact .bool c o b
 | aV c o h1 hc av bE=>
  refine .aV c o h1 (fun ao=> ?_) bE
  obtain⟨aw,ty,q1,q2,q3,q4⟩:=hc ao
  exact⟨aw,ty,q1,hs c q2,(hk c q2).trans q3,q4⟩
theorem ee.fy {w w':World} {S S':Nat→Prop} (hw:dm S' w w') {e:aU} {a b:Nat} {L:dT} {v:Value} (h:ee w S e a b L v):ee w' S e a b L v:=by
 induction h with
 | int c o n=>exact .int c o n
 | bool c o b=>exact .bool c o b
 | @aV e a b n cap A Ls vs c o h1 hc av bE=>
  by_cases ao:0<n
  ·obtain⟨aw,ty,cN,db,bD,hv⟩:=hc ao
   obtain⟨bX,q1,q2,q3⟩:=hw.at bD
   have key: ∀i j,i<n→j<e.b2.length→ ∃u,bX[o+(i*e.b2.length+j)]?=some u:=fun i j hi ap=>by
    rcases q3 (o+(i*e.b2.length+j)) with q | ⟨_,_,_,q⟩ | ⟨_,_,_,q⟩
    ·exact⟨_,q.trans (hv i j hi ap)⟩
    ·exact⟨_,q⟩
    ·exact⟨_,q⟩
   refine .aV (vs:=fun i j=>(bX[o+(i*e.b2.length+j)]?).getD undef) c o h1 (fun _=>⟨bX,ty,cN,db,q1,fun i j hi ap=> ?_⟩) fun i j b3 hi ap=> ?_
   ·obtain⟨u,hu⟩:=key i j hi ap
    rw[hu];rfl
   ·have kA:j<e.b2.length:=(List.getElem?_eq_some_iff.1 ap).1
    have hk:=av i j b3 hi ap
    have s_:=hv i j hi kA
    show ee w' S b3 c _ (Ls i j) ((bX[o+(i*e.b2.length+j)]?).getD undef)
    rcases q3 (o+(i*e.b2.length+j)) with q | ⟨x,y,jh,oL⟩ | ⟨x,y,jh,oL⟩
    ·rw[q,s_];exact bE i j b3 hi ap
    ·rw[s_] at jh
     rw[Option.some.inj jh] at hk
     obtain⟨rfl,hm⟩:=hk.nb
     rw[oL,hm];exact .int _ _ y
    ·rw[s_] at jh
     rw[Option.some.inj jh] at hk
     obtain⟨rfl,hm⟩:=hk.mS
     rw[oL,hm];exact .bool _ _ y
  ·exact .aV (vs:=vs) c o h1 (fun h=>absurd h ao) fun i j b3 hi _=>absurd (Nat.lt_of_le_of_lt (Nat.zero_le _) hi) ao
theorem ee.elem {w:World} {S:Nat→Prop} {e:aU} {a b n cap:Nat} {A:Option Addr} {L:dT} (h:ee w S (.l e) a b L (.slice A n cap)):
  n≤4611686018427387904∧ ∃(c o:Nat) (Ls:Nat→Nat→dT),(0<n→A=some ⟨c,o,none⟩)∧L=lM (fun i=>lM (Ls i) e.b2.length) n∧
   (∀i j b3,i<n→e.b2[j]?=some (.l b3)→ ∃A' iO p9,∀wr,dm S w wr→wr.cell? ⟨c,o+(i*e.b2.length+j),none⟩=some (.slice A' iO p9)∧ee wr S (.l b3) 0 0 (Ls i j) (.slice A' iO p9))∧
   (∀i j,i<n→e.b2[j]?=some .int→Ls i j=[(c,o+(i*e.b2.length+j),false)]∧ ∀wr,dm S w wr→(∃u,wr.cell? ⟨c,o+(i*e.b2.length+j),none⟩=some u)∧wr.frozen? ⟨c,o+(i*e.b2.length+j),none⟩=false∧ ∀x,dm S w (wr.setCell ⟨c,o+(i*e.b2.length+j),none⟩ (.int .i64 x)))∧
   ∀i j,i<n→e.b2[j]?=some .bool→Ls i j=[(c,o+(i*e.b2.length+j),true)]∧ ∀wr,dm S w wr→(∃u,wr.cell? ⟨c,o+(i*e.b2.length+j),none⟩=some u)∧wr.frozen? ⟨c,o+(i*e.b2.length+j),none⟩=false∧ ∀x,dm S w (wr.setCell ⟨c,o+(i*e.b2.length+j),none⟩ (.bool x)):=by
 cases h with
 | @aV _ _ _ _ _ _ Ls vs c o h1 hc av=>
 refine⟨h1.2,c,o,Ls,fun ao=> ?_,rfl,fun i j b3 hi ap=> ?_,fun i j hi ap=> ?_,fun i j hi ap=> ?_⟩
 ·obtain⟨aw,ty,cN,_⟩:=hc ao
  exact cN
 ·obtain⟨aw,ty,cN,db,bD,hv⟩:=hc (by omega)
  have hk:=av i j _ hi ap
  have hu:=hv i j hi (List.getElem?_eq_some_iff.1 ap).1
  obtain⟨A',iO,p9,aR⟩:=hk.nT
  rw[aR] at hk hu
  exact⟨A',iO,p9,fun wr hw=>⟨hw.head bD hu,(hk.fy hw).abz 0 0⟩⟩
 ·obtain⟨aw,ty,cN,db,bD,hv⟩:=hc (by omega)
  have hk:=av i j _ hi ap
  have hu:=hv i j hi (List.getElem?_eq_some_iff.1 ap).1
  obtain⟨h1,aL,aR⟩:=hk.of_int
  refine⟨h1,fun wr hw=> ?_⟩
  obtain⟨bX,q1,q2,q3⟩:=hw.at bD
  have af:=q3 (o+(i*e.b2.length+j))
  rw[hu,aR] at af
  have hs: ∃y,bX[o+(i*e.b2.length+j)]?=some (.int .i64 y):=by
   rcases af with q | ⟨_,y,_,q⟩ | ⟨_,_,q,_⟩
   ·exact⟨_,q⟩
   ·exact⟨_,q⟩
   ·cases q
  obtain⟨y,ba⟩:=hs
  exact⟨⟨_,by simp only[World.cell?,q1];exact ba⟩,by simp[World.frozen?,q1],fun x=>hw.trans (dm.setCell q1 db (by rw[ba];exact .inr (.inl ⟨_,_,rfl,rfl⟩)))⟩
 ·obtain⟨aw,ty,cN,db,bD,hv⟩:=hc (by omega)
  have hk:=av i j _ hi ap
  have hu:=hv i j hi (List.getElem?_eq_some_iff.1 ap).1
  obtain⟨h1,aL,aR⟩:=hk.of_bool
  refine⟨h1,fun wr hw=> ?_⟩
  obtain⟨bX,q1,q2,q3⟩:=hw.at bD
  have af:=q3 (o+(i*e.b2.length+j))
  rw[hu,aR] at af
  have hs: ∃y,bX[o+(i*e.b2.length+j)]?=some (.bool y):=by
   rcases af with q | ⟨_,_,q,_⟩ | ⟨_,y,_,q⟩
   ·exact⟨_,q⟩
   ·cases q
   ·exact⟨_,q⟩
  obtain⟨y,ba⟩:=hs
  exact⟨⟨_,by simp only[World.cell?,q1];exact ba⟩,by simp[World.frozen?,q1],fun x=>hw.trans (dm.setCell q1 db (by rw[ba];exact .inr (.inr ⟨_,_,rfl,rfl⟩)))⟩
structure iW (w w':World) (S:Nat→Prop) (L:dT) (k:Int):Prop where
 fy:dm S w w'
 r6: ∀c o,c<w.heap.size→(∀x∈L,¬(x.1=c∧x.2.1=o))→w'.cell? ⟨c,o,none⟩=w.cell? ⟨c,o,none⟩
 rX:fE w' L k
theorem iW.nil (w:World) (S:Nat→Prop) (k:Int):iW w w S [] k:=⟨.refl _ _,fun _ _ _ _=>rfl,trivial⟩
theorem kb.left {L M:dT} (h:kb (L++M)):kb L:=(List.pairwise_append.1 h).1
theorem kb.right {L M:dT} (h:kb (L++M)):kb M:=(List.pairwise_append.1 h).2.1
theorem iW.lM {w bz bM:World} {S:Nat→Prop} {L M:dT} {k iM:Int} (h:iW w bz S L k) (g:iW bz bM S M iM) (h_:kb (L++M)) (e:iM=k+(L.length:Nat)):iW w bM S (L++M) k where
 fy:=h.fy.trans g.fy
 r6:=fun c o hc hx=>(g.r6 c o (Nat.lt_of_lt_of_le hc h.fy.size) fun x hm=>hx x (List.mem_append.2 (.inr hm))).trans (h.r6 c o hc fun x hm=>hx x (List.mem_append.2 (.inl hm)))
 rX:=by
  subst e
  refine fE.uv.2 ⟨h.rX.cT fun x hx ⟨u,hu⟩=>g.r6 _ _ (I1 hu) fun y ba e=> ?_,g.rX⟩
  exact(List.pairwise_append.1 h_).2.2 x hx y ba ⟨e.1.symm,e.2.symm⟩
theorem CV {w:World} {b o:Nat} {u v:Value} (h:w.cell? ⟨b,o,none⟩=some u):(w.setCell ⟨b,o,none⟩ v).cell? ⟨b,o,none⟩=some v:=by
 unfold World.cell? at h ⊢
 simp only at h ⊢
 cases hb:w.heap[b]? with
 | none=>rw[hb] at h;simp at h
 | some x=>
  rw[hb] at h
  cases x with
  | cells aw ty J1=>
   simp only at h
   have aE:=(Array.getElem?_eq_some_iff.1 h).1
   simp[World.setCell,Array.getElem?_modify,hb,aE]
  | _=>simp at h
theorem CX {w:World} {b o c q:Nat} {v:Value} (h: ¬(b=c∧o=q)):(w.setCell ⟨b,o,none⟩ v).cell? ⟨c,q,none⟩=w.cell? ⟨c,q,none⟩:=by
 by_cases e:b=c
 ·subst e
  have e2:o≠q:=fun e=>h ⟨rfl,e⟩
  unfold World.cell?
  simp only[World.setCell,Array.getElem?_modify,if_pos]
  cases hb:w.heap[b]? with
  | none=>simp
  | some x=>cases x<;>simp[e2]
 ·unfold World.cell?
  rw[RowKit.Below.heap_setCell _ _ _ _ (fun b3=>e b3.symm)]
theorem iW.one {w:World} {S:Nat→Prop} {c o:Nat} {b:Bool} {v:Value} {k:Int} (hc: ∃u,w.cell? ⟨c,o,none⟩=some u) (hk:dm S w (w.setCell ⟨c,o,none⟩ v)) (hv:v=rY b k):iW w (w.setCell ⟨c,o,none⟩ v) S [(c,o,b)] k where
 fy:=hk
 r6:=fun ck hr _ hx=>CX (hx _ (List.mem_singleton.2 rfl))
 rX:=by subst hv;obtain⟨u,hu⟩:=hc;exact⟨CV hu,trivial⟩
theorem iW.below {w bz bM:World} {S:Nat→Prop} {L:dT} {k:Int} (hb:RowKit.Below w.heap.size w bz) (h:iW bz bM S L k):iW w bM S L k:=
 ⟨(dm.below hb).trans h.fy,fun c o hc hx=>(h.r6 c o (Nat.lt_of_lt_of_le hc hb.size) hx).trans (by simp only[World.cell?,hb.block c hc]),h.rX⟩
theorem iW.snoc {w wr:World} {S:Nat→Prop} {L:dT} {k:Int} (h:iW w wr S L k) {c o:Nat} {b:Bool} {v:Value} (hc: ∃u,wr.cell? ⟨c,o,none⟩=some u) (hk:dm S w (wr.setCell ⟨c,o,none⟩ v)) (h_:kb (L++[(c,o,b)])) (hv:v=rY b (k+(L.length:Nat))):iW w (wr.setCell ⟨c,o,none⟩ v) S (L++[(c,o,b)]) k where
 fy:=hk
 r6:=fun ck hr aE hx=>(CX (hx _ (List.mem_append.2 (.inr (List.mem_singleton.2 rfl))))).trans (h.r6 ck hr aE fun x hm=>hx x (List.mem_append.2 (.inl hm)))
 rX:=by
  subst hv
  obtain⟨u,hu⟩:=hc
  refine fE.uv.2 ⟨h.rX.cT fun x hx _=>CX fun e=> ?_,CV hu,trivial⟩
  exact(List.pairwise_append.1 h_).2.2 x hx _ (List.mem_singleton.2 rfl) ⟨e.1.symm,e.2.symm⟩
def row (c o:Nat) (b:Bool):Nat→dT
 | 0=>[]
 | m+1=>row c o b m++[(c,o+m,b)]
theorem tH (c o:Nat) (b:Bool): ∀m,(row c o b m).length=m
 | 0=>rfl
 | m+1=>by show(row c o b m++_).length=_;rw[List.length_append,tH c o b m];rfl
theorem OT (c o:Nat) (b:Bool) (m:Nat): ∀n,row c o b (m+n)=row c o b m++row c (o+m) b n
 | 0=>(List.append_nil _).symm
 | n+1=>by
  show row c o b (m+n)++[(c,o+(m+n),b)]=_++(row c (o+m) b n++[(c,o+m+n,b)])
  rw[OT c o b m n,List.append_assoc,Nat.add_assoc]
theorem BK {c o:Nat} {b:Bool} {x:Nat×Nat×Bool}: ∀{m},x∈row c o b m↔ ∃i,i<m∧x=(c,o+i,b)
 | 0=>by simp[row]
 | m+1=>by
  show x∈row c o b m++_↔_
  rw[List.mem_append,BK (m:=m),List.mem_singleton]
  constructor
  ·rintro(⟨i,h1,h2⟩ | h)
   ·exact⟨i,by omega,h2⟩
   ·exact⟨m,by omega,h⟩
  ·rintro⟨i,h1,h2⟩
   by_cases e:i=m
   ·subst e;exact .inr h2
   ·exact .inl ⟨i,by omega,h2⟩
theorem fE.row {w:World} {c o:Nat} {b:Bool} {k:Int}: ∀{m:Nat},fE w (Fw.row c o b m) k↔ ∀i,i<m→w.cell? ⟨c,o+i,none⟩=some (rY b (k+(i:Nat)))
 | 0=>⟨fun _ i h=>by omega,fun _=>trivial⟩
 | m+1=>by
  show fE w (Fw.row c o b m++_) k↔_
  rw[fE.uv,fE.row (m:=m),tH]
  constructor
  ·rintro⟨h1,h2,_⟩ i hi
   by_cases e:i=m
   ·subst e;exact h2
   ·exact h1 i (by omega)
  ·intro h
   exact⟨fun i hi=>h i (by omega),h m (by omega),trivial⟩
theorem CU {g:Nat→dT} {c o:Nat} {b:Bool}: ∀{m:Nat},(∀j,j<m→g j=[(c,o+j,b)])→Fw.lM g m=row c o b m
 | 0,_=>rfl
 | m+1,h=>by show Fw.lM g m++g m=_;rw[CU fun j ap=>h j (by omega),h m (by omega)];rfl
theorem CT {g:Nat→dT} {c o q:Nat} {b:Bool}: ∀{m:Nat},(∀j,j<m→g j=row c (o+j*q) b q)→Fw.lM g m=row c o b (m*q)
 | 0,_=>by rw[Nat.zero_mul];rfl
 | m+1,h=>by show Fw.lM g m++g m=_;rw[CT fun j ap=>h j (by omega),h m (by omega),←OT,Nat.succ_mul]
theorem ee.flat {w:World} {S:Nat→Prop} {nv e:aU} {uy:Bool} {q n cap a b:Nat} {A:Option Addr} {L:dT} (E3:nv= .int∧uy=false∨nv= .bool∧uy=true) (bN:e.b2=List.replicate q nv) (h:ee w S (.l e) a b L (.slice A n cap)):
  n≤4611686018427387904∧ ∃c o:Nat,(0<n→A=some ⟨c,o,none⟩)∧L=row c o uy (n*q)∧
   (0<n→S c∧ ∃(aw:Array Value) (ty:TypeId),w.heap[c]?=some (.cells aw ty (0,0))∧(0<q→o+n*q≤aw.size)∧ ∀i,i<n*q→ ∃u,aw[o+i]?=some u∧ ∀z,mO (some u) (some (rY uy z))):=by
 cases h with
 | @aV _ _ _ _ _ _ Ls vs c o h1 hc av=>
 have aE:e.b2.length=q:=by rw[bN,List.length_replicate]
 rw[aE] at hc av ⊢
 have ap: ∀j,j<q→e.b2[j]?=some nv:=fun j ap=>by rw[bN,List.getElem?_replicate,if_pos ap]
 have one: ∀i j,i<n→j<q→Ls i j=[(c,o+i*q+j,uy)]∧ ∀z,mO (some (vs i j)) (some (rY uy z)):=fun i j hi io=>by
  have hk:=av i j nv hi (ap j io)
  rw[show o+(i*q+j)=o+i*q+j by omega] at hk
  rcases E3 with⟨rfl,rfl⟩ | ⟨rfl,rfl⟩
  ·obtain⟨aR,m,e2⟩:=hk.of_int
   exact⟨aR,fun z=> .inr (.inl ⟨_,_,by rw[e2],rfl⟩)⟩
  ·obtain⟨aR,m,e2⟩:=hk.of_bool
   exact⟨aR,fun z=> .inr (.inr ⟨_,_,by rw[e2],rfl⟩)⟩
 refine⟨h1.2,c,o,fun ao=> ?_,CT fun i hi=>CU fun j io=>(one i j hi io).1,fun ao=> ?_⟩
 ·obtain⟨aw,ty,cN,_⟩:=hc ao
  exact cN
 ·obtain⟨aw,ty,cN,db,bD,hv⟩:=hc ao
  refine⟨db,aw,ty,bD,fun aI=> ?_,fun i hi=> ?_⟩
  ·have:=(Array.getElem?_eq_some_iff.1 (hv (n - 1) (q - 1) (by omega) (by omega))).1
   have aR:(n - 1)*q+q=n*q:=by rw[←Nat.succ_mul];congr 1;omega
   omega
  ·have aI:0<q:=by
    rcases Nat.eq_zero_or_pos q with e | e
    ·subst e;simp at hi
    ·exact e
   have h1:i / q<n:=(Nat.div_lt_iff_lt_mul aI).2 hi
   have hu:=hv (i / q) (i%q) h1 (Nat.mod_lt _ aI)
   rw[Nat.mul_comm,Nat.div_add_mod] at hu
   exact⟨_,hu,(one (i / q) (i%q) h1 (Nat.mod_lt _ aI)).2⟩
theorem iW.NT {w w':World} {S:Nat→Prop} {c o m:Nat} {b:Bool} {k:Int} {val:Nat→Value} (h:jP w w' c o m val) (hv: ∀i,val i=rY b (k+(i:Nat))) (hc:0<m→S c∧ ∃(aw:Array Value) (ty:TypeId),w.heap[c]?=some (.cells aw ty (0,0))∧o+m≤aw.size∧ ∀i,i<m→ ∃u,aw[o+i]?=some u∧ ∀z,mO (some u) (some (rY b z))) (aI:m=0→c=w.heap.size):iW w w' S (Fw.row c o b m) k:=by
 by_cases hm:0<m
 ·obtain⟨db,aw,ty,bD,aH,hu⟩:=hc hm
  obtain⟨bX,q1,q2,q3⟩:=h.blk aw ty bD
  refine⟨h.fy db fun uJ ty2 i hx hi=> ?_,fun ck hr aE hx=> ?_,fE.row.2 fun i hi=> ?_⟩
  ·rw[bD] at hx;cases hx
   obtain⟨u,h1,h2⟩:=hu i hi
   rw[h1,hv];exact h2 _
  ·by_cases e:ck=c
   ·subst e
    have rJ: ¬(o≤hr∧hr<o+m):=fun bD=>hx (ck,o+(hr - o),b) (BK.2 ⟨hr - o,by omega,rfl⟩) ⟨rfl,by show o+(hr - o)=hr;omega⟩
    simp only[World.cell?,bD,q1]
    rcases Nat.lt_or_ge hr aw.size with ap | ap
    ·rw[q3 hr ap,if_neg rJ]
    ·rw[Array.getElem?_eq_none (by omega),Array.getElem?_eq_none ap]
   ·simp only[World.cell?,h.other ck e]
  ·have e:bX[o+i]?=some (val (o+i - o)):=(q3 (o+i) (by omega)).trans (if_pos ⟨by omega,by omega⟩)
   rw[show o+i - o=i by omega,hv] at e
   simp only[World.cell?,q1]
   exact e
 ·obtain rfl:m=0:=by omega
  obtain rfl:=aI rfl
  exact⟨h.xU,fun ck hr aE _=>by simp only[World.cell?,h.other ck (by omega)],trivial⟩
def RF (P:Program) (f:FuncId) (e:aU):Prop:= ∀(w:World) (S:Nat→Prop) (L:dT) (v:Value) (k:Int),ee w S e 0 0 L v→kb L→0≤k→k+(L.length:Nat)≤4611686018427387904→
 Calls P f #[v,.int .i64 k] w fun iD w'=>iD= .returned (.int .i64 (k+(L.length:Nat)))∧iW w w' S L k
def Ry (P:Program) (f:FuncId) (e:aU):Prop:= ∀(w:World) (S:Nat→Prop) (L:dT) (v:Value) (k:Int),ee w S e 0 0 L v→fE w L k→0≤k→k+(L.length:Nat)≤4611686018427387904→
 Calls P f #[v,.int .i64 k] w fun iD w'=>iD= .returned (.int .i64 (k+(L.length:Nat)))∧RowKit.Below w.heap.size w w'
open Go Go.RowKit
theorem HM:RF Tryz.prog 58 (.l .int):=fun w S L v k h h_ aI h1=>by
  obtain⟨A,n,cap,rfl⟩:=h.nT
  obtain⟨qs,c,o,cN,rfl,hc⟩:=h.flat (.inl ⟨rfl,rfl⟩) (q:=1) rfl
  rw[tH] at h1 ⊢
  have h2:k+n≤4611686018427387904:=by omega
  have av:(Ending.returned (.int .i64 (k+n)):Ending)= .returned (.int .i64 (k+((n*1:Nat):Int))):=by congr 2;omega
  rw[←av]
  by_cases ao:0<n
  · obtain⟨db,aw,ty,bD,aH,hu⟩:=hc ao
    refine(A2 A c o n cap k w aw ty (fun _=>⟨cN ao,bD,by have:=aH (by omega);omega⟩) aI h2).mono ?_
    rintro e w' ⟨rfl,hm⟩
    refine⟨rfl,?_⟩
    rw[Nat.mul_one] at aH hu ⊢
    exact .NT hm (fun i=>rfl) (fun _=>⟨db,aw,ty,bD,aH (by omega),hu⟩) (fun e=>by omega)
  · obtain rfl:n=0:=by omega
    refine(A2 A w.heap.size 0 0 cap k w #[] 0 (fun h=>absurd h ao) aI h2).mono ?_
    rintro e w' ⟨rfl,hm⟩
    exact⟨rfl,show iW w w' S (row w.heap.size 0 false 0) k from iW.NT (m:=0) hm (fun i=>rfl) (fun h=>by omega) (fun _=>rfl)⟩
open Go Go.RowKit
theorem Sb (b:Bool):(b !=b)=false:=by cases b<;>rfl
theorem Vv (A:Option Addr) (c o n cap:Nat) (k:Int) (w:World) (cN:0<n→A=some ⟨c,o,none⟩) (hv: ∀i:Nat,i<n→w.cell? ⟨c,o+i,none⟩=some (.int .i64 (k+i))) (aI:0≤k) (h1:k+n≤4611686018427387904):
    Calls Tryz.prog 64 #[.slice A n cap,.int .i64 k] w fun e w'=>e= .returned (.int .i64 (k+n))∧w'=w:=by
  have kP:=Lib.hid cN;clear cN
  replace hv:=Lib.hid hv
  go_enter Tryz.func64,Tryz.ntmps64
  go_wp2
  go_loopw [1,5] (fun q i wr=> ∃j:Nat,j≤n∧i= .int .i64 j∧q= .int .i64 (k+j)∧wr=w) (fun _ i _=>n - (intOf i).toNat)
  case atStart=>exact⟨0,Nat.zero_le _,rfl,by simp,rfl⟩
  case round=>
    obtain⟨j,ap,rfl,rfl,rfl⟩:=hrel
    by_cases aX:j<n
    · obtain rfl:=kP.out (by omega)
      have aeT:=hv.out j aX
      have wH: ∀b:Bool,(b !=b)=false:=Sb
      go_wp2
      go_roundw
      case rel=>exact⟨j+1,by omega,by go_num,by go_num,trivial⟩
      case measure=>simp[intOf];omega
    · have e:j=n:=by omega
      subst e
      go_wp2
      go_ret
      exact⟨rfl,rfl⟩
theorem Er:Ry Tryz.prog 64 (.l .int):=fun w S L v k h hm aI h1=>by
  obtain⟨A,n,cap,rfl⟩:=h.nT
  obtain⟨qs,c,o,cN,rfl,hc⟩:=h.flat (.inl ⟨rfl,rfl⟩) (q:=1) rfl
  rw[tH] at h1 ⊢
  have h2:k+n≤4611686018427387904:=by omega
  have av:(Ending.returned (.int .i64 (k+n)):Ending)= .returned (.int .i64 (k+((n*1:Nat):Int))):=by congr 2;omega
  rw[←av]
  have hv:=fE.row.1 hm
  refine(Vv A c o n cap k w cN (fun i hi=>hv i (by omega)) aI h2).mono ?_
  rintro e w' ⟨rfl,rfl⟩
  exact⟨rfl,.refl _ _⟩
theorem aeh {α:Type} (g:α→Nat): ∀(xs:List α) (f:Nat→Nat),(∀(i:Nat) (x:α),xs[i]?=some x→f i=g x)→cn f xs.length=(xs.map g).sum:=by
 intro xs f h
 have key: ∀(n:Nat),n≤xs.length→cn f n=((xs.take n).map g).sum:=by
  intro n
  induction n with
  | zero=>intro _;simp[cn]
  | succ n bE=>
   intro ao
   show cn f n+f n=_
   rw[List.take_succ_eq_append_getElem (by omega),List.map_append,List.sum_append,bE (by omega),h n _ (List.getElem?_eq_getElem (by omega))]
   simp
 have:=key xs.length (Nat.le_refl _)
 rw[List.take_length] at this
 exact this
theorem tf {w:World} {S PA PF:Nat→Prop} {e:aU} {xs:List e.T} {de fr:Bool} {v:Value} (Ch:e.T→Nat→Nat) (h:aW w PA PF (.aV (xs.map (cq false e)) de fr) v) (h1: ∀c,PA c→S c∧Plain w c) (h2: ∀c,PF c→S c∧Plain w c)
  (aE: ∀x∈xs,∀(PB:Nat→Prop) j b3 a u,(∀c,PB c→S c∧Plain w c)→e.b2[j]?=some b3→(cq false e x)[j]?=some a→aW w PB (fun _=>False) a u→dP w S b3 (Ch x j) u):
  dP w S (.l e) (xs.map fun x=>cn (Ch x) e.b2.length).sum v:=by
 cases h with
 | @aV _ _ PB _ _ _ A cap sz vs eU e1 fG cd dQ hrel=>
  have c5: ∀c,PB c→S c∧Plain w c:=fun c hc=>by
   have:=eU c hc
   split at this
   ·exact h2 c this
   ·exact h1 c this
  have row: ∀i (hi:i<xs.length),(xs.map (cq false e))[i]?=some (cq false e xs[i]):=fun i hi=>by rw[List.getElem?_map,List.getElem?_eq_getElem hi];rfl
  have Jn: ∀x:e.T,(cq false e x).length=e.b2.length:=fun x=>by
   rw[←ml]
   have: ∀(es:List aU) (y:cA es),(h8 false es y).length=es.length:=by
    intro es
    induction es with
    | nil=>intro _;rfl
    | cons e r bE=>intro y;show((_:List AV)).length=_;rw[h8,List.length_cons,bE y.2];rfl
   exact this _ _
  rw[←aeh (fun x=>cn (Ch x) e.b2.length) xs (fun i=>cn (fun j=>match xs[i]? with
   | some x=>Ch x j
   | none=>0) e.b2.length) fun i x hx=>by simp only[hx]]
  rw[List.length_map] at e1 dQ ⊢
  refine .aV (vs:=vs) e1 (fun ao=> ?_) fun i j b3 hi ap=> ?_
  ·obtain⟨c,o,q1,q2,q3⟩:=dQ ao
   obtain⟨aw,ty,ai⟩:=(c5 c q2).2
   have aH:sz=e.b2.length:=by rw[←cd 0 _ (row 0 ao),Jn]
   subst aH
   refine⟨c,o,aw,ty,q1,(c5 c q2).1,ai,fun i j hi ap=> ?_⟩
   have:=q3 i j hi ap
   simp only[World.cell?,ai] at this
   simpa using this
  ·have kA:=(List.getElem?_eq_some_iff.1 ap).1
   have aF:(cq false e xs[i])[j]?=some ((cq false e xs[i])[j]'(by rw[Jn];exact kA)):=List.getElem?_eq_getElem _
   rw[List.getElem?_eq_getElem hi]
   exact aE xs[i] (List.getElem_mem hi) PB j b3 _ _ c5 ap aF (hrel i j _ _ (row i hi) aF)
theorem yP {α:Type} (c:Nat): ∀xs:List α,(xs.map fun _=>c).sum=xs.length*c
 | []=>by simp
 | x::r=>by rw[List.map_cons,List.sum_cons,yP c r,List.length_cons,Nat.succ_mul];omega
section
variable {w:World} {S PA PF:Nat→Prop} {v:Value} {de fr:Bool}
theorem rS {PB:Nat→Prop} {n:Int} {u:Value} (h:aW w PB (fun _=>False) (.int .i64 n) u):dP w S .int 1 u:=by cases h;exact .int _
theorem L9 {PB:Nat→Prop} {n:Bool} {u:Value} (h:aW w PB (fun _=>False) (.bool n) u):dP w S .bool 1 u:=by cases h;exact .bool _
theorem AW {xs:List Int} (h:aW w PA PF (.aV (xs.map ct) de fr) v) (h1: ∀c,PA c→S c∧Plain w c) (h2: ∀c,PF c→S c∧Plain w c):dP w S (.l .int) xs.length v:=by
 have:=tf (e:= .int) (fun _ _=>1) h h1 h2 fun x _ PB j b3 a u _ ap aF av=>by
  match j,ap,aF with
  | 0,ap,aF=>cases ap;cases aF;exact rS av
 have e:(xs.map fun x=>cn (fun _=>1) (aU.b2 .int).length).sum=xs.length:=by
  show(xs.map fun _=>1).sum=_
  rw[yP,Nat.mul_one]
 rw[e] at this;exact this
theorem FK {xs:List Bool} (h:aW w PA PF (.aV (xs.map a7) de fr) v) (h1: ∀c,PA c→S c∧Plain w c) (h2: ∀c,PF c→S c∧Plain w c):dP w S (.l .bool) xs.length v:=by
 have:=tf (e:= .bool) (fun _ _=>1) h h1 h2 fun x _ PB j b3 a u _ ap aF av=>by
  match j,ap,aF with
  | 0,ap,aF=>cases ap;cases aF;exact L9 av
 have e:(xs.map fun x=>cn (fun _=>1) (aU.b2 .bool).length).sum=xs.length:=by
  show(xs.map fun _=>1).sum=_
  rw[yP,Nat.mul_one]
 rw[e] at this;exact this
theorem L_ {xs:List cr} (h:aW w PA PF (.aV (xs.map dL) de fr) v) (h1: ∀c,PA c→S c∧Plain w c) (h2: ∀c,PF c→S c∧Plain w c):dP w S (.l .bO) (xs.length*2) v:=by
 have:=tf (e:= .bO) (fun _ _=>1) h h1 h2 fun x _ PB j b3 a u _ ap aF av=>by
  match j,ap,aF with
  | 0,ap,aF=>cases ap;cases aF;exact rS av
  | 1,ap,aF=>cases ap;cases aF;exact rS av
 have e:(xs.map fun x=>cn (fun _=>1) (aU.b2 .bO).length).sum=xs.length*2:=yP 2 xs
 rw[e] at this;exact this
theorem X4 {xs:List cJ} (h:aW w PA PF (.aV (xs.map bH) de fr) v) (h1: ∀c,PA c→S c∧Plain w c) (h2: ∀c,PF c→S c∧Plain w c):dP w S (.l .ev) (xs.length*2) v:=by
 have:=tf (e:= .ev) (fun _ _=>1) h h1 h2 fun x _ PB j b3 a u _ ap aF av=>by
  match j,ap,aF with
  | 0,ap,aF=>cases ap;cases aF;exact rS av
  | 1,ap,aF=>cases ap;cases aF;exact rS av
 have e:(xs.map fun x=>cn (fun _=>1) (aU.b2 .ev).length).sum=xs.length*2:=yP 2 xs
 rw[e] at this;exact this
def tn (x:Way):Nat:=x.ad.length+x.a1.length*2+x.bP.length*2+x.b4.length+x.dv.length
theorem X5 {xs:List Way} (h:aW w PA PF (.aV (xs.map (en false)) de fr) v) (h1: ∀c,PA c→S c∧Plain w c) (h2: ∀c,PF c→S c∧Plain w c):dP w S (.l .ei) (xs.map tn).sum v:=by
 have:=tf (e:= .ei) (fun x j=>[x.ad.length,x.a1.length*2,x.bP.length*2,x.b4.length,x.dv.length].getD j 0) h h1 h2 fun x _ PB j b3 a u c5 ap aF av=>by
  match j,ap,aF with
  | 0,ap,aF=>cases ap;cases aF;exact AW av c5 (fun _ h=>h.elim)
  | 1,ap,aF=>cases ap;cases aF;exact L_ av c5 (fun _ h=>h.elim)
  | 2,ap,aF=>cases ap;cases aF;exact L_ av c5 (fun _ h=>h.elim)
  | 3,ap,aF=>cases ap;cases aF;exact AW av c5 (fun _ h=>h.elim)
  | 4,ap,aF=>cases ap;cases aF;exact AW av c5 (fun _ h=>h.elim)
 have e:(xs.map fun x:Way=>cn (fun j=>[x.ad.length,x.a1.length*2,x.bP.length*2,x.b4.length,x.dv.length].getD j 0) (aU.b2 .ei).length).sum=(xs.map tn).sum:=by
  congr 1
  refine List.map_congr_left fun x _=> ?_
  show 0+x.ad.length+x.a1.length*2+x.bP.length*2+x.b4.length+x.dv.length=tn x
  unfold tn;omega
 rw[e] at this;exact this
theorem X2 {xs:List (List Bool)} (h:aW w PA PF (.aV (xs.map (fR a7 false)) de fr) v) (h1: ∀c,PA c→S c∧Plain w c) (h2: ∀c,PF c→S c∧Plain w c):dP w S (.l (.l .bool)) (xs.map List.length).sum v:=by
 have:=tf (e:= .l .bool) (fun x j=>x.length) h h1 h2 fun x _ PB j b3 a u c5 ap aF av=>by
  match j,ap,aF with
  | 0,ap,aF=>cases ap;cases aF;exact FK av c5 (fun _ h=>h.elim)
 have e:(xs.map fun x:List Bool=>cn (fun j=>x.length) (aU.b2 (.l .bool)).length).sum=(xs.map List.length).sum:=by
  congr 1
  refine List.map_congr_left fun x _=> ?_
  show 0+x.length=_
  omega
 rw[e] at this;exact this
def tm (x:ac):Nat:=4+x.aa.length
theorem X3 {xs:List ac} (h:aW w PA PF (.aV (xs.map (cR false)) de fr) v) (h1: ∀c,PA c→S c∧Plain w c) (h2: ∀c,PF c→S c∧Plain w c):dP w S (.l .held) (xs.map tm).sum v:=by
 have:=tf (e:= .held) (fun x j=>[1,1,x.aa.length,1,1].getD j 0) h h1 h2 fun x _ PB j b3 a u c5 ap aF av=>by
  match j,ap,aF with
  | 0,ap,aF=>cases ap;cases aF;exact rS av
  | 1,ap,aF=>cases ap;cases aF;exact rS av
  | 2,ap,aF=>cases ap;cases aF;exact FK av c5 (fun _ h=>h.elim)
  | 3,ap,aF=>cases ap;cases aF;exact L9 av
  | 4,ap,aF=>cases ap;cases aF;exact rS av
 have e:(xs.map fun x:ac=>cn (fun j=>[1,1,x.aa.length,1,1].getD j 0) (aU.b2 .held).length).sum=(xs.map tm).sum:=by
  congr 1
  refine List.map_congr_left fun x _=> ?_
  show 0+1+1+x.aa.length+1+1=tm x
  unfold tm;omega
 rw[e] at this;exact this
end
def tx (b:dJ) (x y:TV):TV:=match x with
 | .i k n=>(match y with
  | .i iM m=>if k=iM then .i k (bif b.den then n else m) else .u
  | _=> .u)
 | .b x=>(match y with
  | .b y=> .b (dJ.tw b x y)
  | _=> .u)
 | .s x=>(match y with
  | .s y=> .s (bif b.den then x else y)
  | _=> .u)
 | _=> .u
def dJ.nf:dJ→dJ→Bool
 | .at i _,.at j _=>Nat.beq i j
 | .t,.t=>true
 | .f,.f=>true
 | .n x,.n y=>x.nf y
 | .bw x y,.bw z w=>x.nf z&&y.nf w
 | .or x y,.or z w=>x.nf z&&y.nf w
 | .ite c x y,.ite d z w=>c.nf d&&x.nf z&&y.nf w
 | .uO x y,.uO z w=>x.nf z&&y.nf w
 | .ne x y,.ne z w=>x.nf z&&y.nf w
 | _,_=>false
def FV (x y:TV):Bool:=match x with
 | .b x=>(match y with
  | .b y=>x.nf y
  | _=>false)
 | _=>false
def A6 (b:dJ) (x y:TV):TV:=match FV x y with
 | true=>x
 | false=>tx b x y
def th (s s':TS):List (Nat×TV)→List (List (Nat×TV)×List (Nat×TV))
 | []=>[]
 | p::r=>match FV (s.get p.1) (s'.get p.1) with
  | true=>([(p.1,s.get p.1)],[(p.1,s'.get p.1)])::th s s' r
  | false=>th s s' r
inductive p4 where
 | bad
 | none
 | some (s:TS) (iQ:List (List (Nat×TV)×List (Nat×TV)))
def kX {e b3:aU} (h:b3=e) (xs:List b3.T):List e.T:=h▸xs
def D1:(e:aU)→TV→e.T
 | .int,.i _ m=>m
 | .u64,.i _ m=>m
 | .bool,.b x=>x.den
 | .str,.s x=>x
 | .l e,.l b3 xs _ _=>if h:b3=e then kX h xs else[]
 | e,_=>e.td.default
def oj:(es:List aU)→List TV→cA es
 | [],_=>()
 | e::r,v::vs=>(D1 e v,oj r vs)
 | e::r,[]=>(e.td.default,oj r [])
def pE (c:List TV):jo:=aU.mk .gx (oj aU.gx.b2 c)
def AS:TV→Bool
 | .dB _ _=>true
 | _=>false
def vE (s s':TS):List (Nat×TV)→Bool
 | []=>true
 | (k,_)::r=>match Nat.blt k 1000000 with
  | true=>vE s s' r
  | false=>match AS (s.get k)&&AS (s'.get k)&&Nat.ble 1000010 k with
   | true=>vE s s' r
   | false=>false
def aae (b:dJ) (x y:TV):TV:=match x with
 | .dB g c=>(match y with
  | .dB _ ck=> .dB g (iC false .gx (bif b.den then pE c else pE ck))
  | _=> .u)
 | _=> .u
def qN (b:dJ) (k:Nat) (x y:TV):TV:=match Nat.blt k 1000000 with
 | true=>A6 b x y
 | false=>aae b x y
def abw (x y:TV):List (List (Nat×TV)×List (Nat×TV)):=match x with
 | .dB g c=>(match y with
  | .dB c8 ck=>[([(g,.agg c)],[(c8,.agg (iC false .gx (pE c)))]),([(0,.agg ck)],[(0,.agg (iC false .gx (pE ck)))])]
  | _=>[])
 | _=>[]
def tF (s s':TS):List (Nat×TV)→List (List (Nat×TV)×List (Nat×TV))
 | []=>[]
 | p::r=>match Nat.blt p.1 1000000 with
  | true=>tF s s' r
  | false=>abw (s.get p.1) (s'.get p.1)++tF s s' r
def zT:List (Nat×Nat)→List (Nat×Nat)→Bool
 | [],[]=>true
 | (a,b)::r,(c,d)::q=>Nat.beq a c&&Nat.beq b d&&zT r q
 | _,_=>false
def p4.ic (b:dJ) (eD:TS) (x y:p4):p4:=match x with
 | .bad=> .bad
 | .none=>(match y with
  | .bad=> .bad
  | .none=> .none
  | .some s q=> .some ⟨s.T++eD.T,eD.B,s.vs,s.bb⟩ ((s.B,eD.T++eD.B)::q))
 | .some s q=>(match y with
  | .bad=> .bad
  | .none=> .some ⟨s.T++eD.T,eD.B,s.vs,s.bb⟩ ((s.B,eD.T++eD.B)::q)
  | .some s' yl=>match vE s s' (s.T++s'.T)&&zT s.vs s'.vs&&Nat.beq s.bb s'.bb with
   | true=> .some ⟨(s.T++s'.T).map (fun p=>(p.1,qN b p.1 (s.get p.1) (s'.get p.1)))++eD.T,eD.B,s.vs,s.bb⟩ ((s.B,eD.T++eD.B)::(s'.B,eD.T++eD.B)::(q++(yl++(th s s' (s.T++s'.T)++tF s s' (s.T++s'.T)))))
   | false=> .bad)
def aJ.lY:aJ→p4
 | .j2 ex s=>(match ex with
  | .normal=> .some s []
  | _=> .none)
 | .hg | .no=> .none
 | .p _ t | .jc _ t | .eq _ _ t=>t.lY
 | .ic b s x y=>p4.ic b s x.lY y.lY
 | .two _ _ | .all _ _=> .bad
 | .gX x _ _ y=>(match x.lY with
  | .none=>y.lY
  | _=> .bad)
def aJ.ky:aJ→dJ
 | .j2 ex _=>(match ex with
  | .normal=> .t
  | _=> .f)
 | .hg | .no=> .f
 | .p _ t | .jc _ t | .eq _ _ t=>t.ky
 | .ic b _ x y=>dJ.tw b x.ky y.ky
 | .two _ _ | .all _ _=> .t
 | .gX _ _ b y=>(match b with
  | .t=>y.ky
  | b=>dJ.tw b y.ky .f)
def aJ.facts:aJ→List Prop
 | .j2 _ _ | .hg | .no | .two _ _ | .all _ _=>[]
 | .p _ t | .eq _ _ t=>t.facts
 | .jc φ t=>φ::t.facts
 | .ic _ _ x y=>(match x.ky with
  | .f=>y.facts
  | _=>match y.ky with
   | .f=>x.facts
   | _=>[])
 | .gX _ dY _ y=>dY++y.facts
def Iq (x y:TV):Prop:= ∃g c ck,x= .dB g c∧y= .dB g ck∧cC ck=cC c
structure TS.gj (s S:TS):Prop where
 vs:S.vs=s.vs
 bb:S.bb=s.bb
 get: ∀k,S.get k=s.get k∨(k<1000000∧((S.get k).bq=(s.get k).bq∨(S.get k).bq= .undef))∨(1000010≤k∧Iq (s.get k) (S.get k))
theorem TS.gj.refl (s:TS):s.gj s:=⟨rfl,rfl,fun _=> .inl rfl⟩
theorem TS.gj.trans {a b c:TS} (h:a.gj b) (k:b.gj c):a.gj c:=⟨k.vs.trans h.vs,k.bb.trans h.bb,fun t=>by
 rcases k.get t with e | ⟨aE,e⟩ | ⟨aE,e⟩
 ·rw[e];exact h.get t
 ·refine .inr (.inl ⟨aE,?_⟩)
  rcases e with e | e
  ·rcases h.get t with q | ⟨_,q⟩ | ⟨hb,_⟩
   ·rw[e,q];exact .inl rfl
   ·rw[e];exact q
   ·omega
  ·exact .inr e
 ·refine .inr (.inr ⟨aE,?_⟩)
  rcases h.get t with q | ⟨hb,_⟩ | ⟨_,q⟩
  ·rw[←q];exact e
  ·omega
  ·obtain⟨g,x,y,aR,e2,dq⟩:=e
   obtain⟨c8,k_,Q8,f1,f2,f3⟩:=q
   rw[aR] at f2
   cases f2
   exact⟨g,k_,y,f1,e2,dq.trans f3⟩⟩
theorem aaA {s s':TS} {l:List (Nat×TV)} (h:vE s s' l=true) {k:Nat} {v:TV} (hm:(k,v)∈l) (hk: ¬k<1000000):1000010≤k∧(∃g c,s.get k= .dB g c)∧ ∃g c,s'.get k= .dB g c:=by
 induction l with
 | nil=>cases hm
 | cons p r bE=>
  obtain⟨a,w⟩:=p
  unfold vE at h
  split at h
  ·rename_i aF
   rcases List.mem_cons.1 hm with e | hm
   ·cases e;exact absurd (by rw[←Nat.blt_eq];exact aF) hk
   ·exact bE h hm
  ·split at h
   ·rename_i hc
    rcases List.mem_cons.1 hm with e | hm
    ·cases e
     simp only[Bool.and_eq_true] at hc
     have OI: ∀x:TV,AS x=true→ ∃g c,x= .dB g c:=fun x hx=>by
      unfold AS at hx
      split at hx
      ·exact⟨_,_,rfl⟩
      ·cases hx
     exact⟨Nat.le_of_ble_eq_true hc.2,OI _ hc.1.1,OI _ hc.1.2⟩
    ·exact bE h hm
   ·cases h
theorem OG {s s':TS}: ∀{l:List (Nat×TV)},(∀p∈tF s s' l,p.1=p.2)→ ∀k v,(k,v)∈l→ ¬k<1000000→ ∀(g:Nat) (c:List TV) (c8:Nat) (ck:List TV),s.get k= .dB g c→s'.get k= .dB c8 ck→g=c8∧c=iC false .gx (pE c)∧ck=iC false .gx (pE ck)
 | [],_,k,v,h,_=>by cases h
 | p::r,af,k,v,h,hk=>fun g c c8 ck aR e2=>by
  unfold tF at af
  rcases List.mem_cons.1 h with e | h
  ·cases e
   have hb:Nat.blt k 1000000=false:=by
    cases hb:Nat.blt k 1000000 with
    | true=>rw[Nat.blt_eq] at hb;exact absurd hb hk
    | false=>rfl
   simp only[hb,aR,e2] at af
   have q1:=af _ (List.mem_append_left _ (List.mem_cons_self ..))
   have q2:=af _ (List.mem_append_left _ (List.mem_cons_of_mem _ (List.mem_cons_self ..)))
   injection q1 with J _
   injection q2 with a2 _
   have dF:=(Prod.mk.inj J)
   have b7:=(Prod.mk.inj a2)
   exact⟨dF.1,TV.agg.inj dF.2,TV.agg.inj b7.2⟩
  ·refine OG (fun q hm=>af q ?_) k v h hk g c c8 ck aR e2
   split
   ·exact hm
   ·exact List.mem_append_right _ hm
theorem Jr: ∀{l m:List (Nat×Nat)},zT l m=true→l=m
 | [],[],_=>rfl
 | [],_::_,h=>by cases h
 | _::_,[],h=>by cases h
 | (a,b)::r,(c,d)::q,h=>by
  simp only[zT,Bool.and_eq_true] at h
  rw[Nat.eq_of_beq_eq_true h.1.1,Nat.eq_of_beq_eq_true h.1.2,Jr h.2]
theorem aaY {b:dJ} {x y:TV} (h:b.den=true):(tx b x y).bq=x.bq∨(tx b x y).bq= .undef:=by
 unfold tx
 split
 ·split
  ·split
   ·left;simp[TV.bq,h]
   ·exact .inr rfl
  ·exact .inr rfl
 ·split
  ·left;simp[TV.bq,dJ.yf,h]
  ·exact .inr rfl
 ·split
  ·left;simp[TV.bq,h]
  ·exact .inr rfl
 ·exact .inr rfl
theorem aaX {b:dJ} {x y:TV} (h:b.den=false):(tx b x y).bq=y.bq∨(tx b x y).bq= .undef:=by
 unfold tx
 split
 ·split
  ·split
   ·rename_i e;left;subst e;simp[TV.bq,h]
   ·exact .inr rfl
  ·exact .inr rfl
 ·split
  ·left;simp[TV.bq,dJ.yf,h]
  ·exact .inr rfl
 ·split
  ·left;simp[TV.bq,h]
  ·exact .inr rfl
 ·exact .inr rfl
theorem abB {s eD:TS} (h:s.B=eD.T++eD.B) (vs:List (Nat×Nat)) (bb k:Nat):TS.get ⟨s.T++eD.T,eD.B,vs,bb⟩ k=s.get k:=by
 unfold TS.get
 simp only
 rw[h,tk,tk]
theorem ZP {l:List (Nat×TV)} {f:Nat→TV} {k:Nat} {d:TV}:((∃v,(k,v)∈l)∧gG (l.map fun p=>(p.1,f p.1)) k d=f k)∨((∀v,(k,v) ∉ l)∧gG (l.map fun p=>(p.1,f p.1)) k d=d):=by
 induction l with
 | nil=>exact .inr ⟨(fun v h=>by cases h),rfl⟩
 | cons p r bE=>
  obtain⟨a,w⟩:=p
  rw[List.map_cons,gP]
  by_cases e:a=k
  ·subst e;exact .inl ⟨⟨w,List.mem_cons_self ..⟩,if_pos rfl⟩
  ·rw[if_neg e]
   rcases bE with⟨⟨v,q⟩,h⟩ | ⟨q,h⟩
   ·exact .inl ⟨⟨v,List.mem_cons_of_mem _ q⟩,h⟩
   ·refine .inr ⟨fun v hv=> ?_,h⟩
    rcases List.mem_cons.1 hv with hv | hv
    ·cases hv;exact e rfl
    ·exact q v hv
theorem Nj {s s':TS}: ∀{l:List (Nat×TV)},(∀p∈th s s' l,p.1=p.2)→ ∀k v,(k,v)∈l→FV (s.get k) (s'.get k)=true→s.get k=s'.get k
 | [],_,k,v,h,_=>by cases h
 | p::r,af,k,v,h,aE=>by
  unfold th at af
  rcases List.mem_cons.1 h with e | h
  ·cases e
   rw[aE] at af
   have:=af _ (List.mem_cons_self ..)
   injection this with aR _
   exact(Prod.mk.inj aR).2
  ·refine Nj (fun q hm=>af q ?_) k v h aE
   split
   ·exact List.mem_cons_of_mem _ hm
   ·exact hm
theorem Z0 {b:dJ} {eD s s':TS} (h1:s.B=eD.T++eD.B) (h2:s'.B=eD.T++eD.B) (dA:vE s s' (s.T++s'.T)=true) (hv:s.vs=s'.vs) (ao:s.bb=s'.bb) (af: ∀p∈th s s' (s.T++s'.T)++tF s s' (s.T++s'.T),p.1=p.2):
  let S:TS:=⟨(s.T++s'.T).map (fun p=>(p.1,qN b p.1 (s.get p.1) (s'.get p.1)))++eD.T,eD.B,s.vs,s.bb⟩
  (b.den=true→s.gj S)∧(b.den=false→s'.gj S):=by
 intro S
 have EH: ∀p∈th s s' (s.T++s'.T),p.1=p.2:=fun p ai=>af p (List.mem_append_left _ ai)
 have jz: ∀p∈tF s s' (s.T++s'.T),p.1=p.2:=fun p ai=>af p (List.mem_append_right _ ai)
 have gD: ∀k,((∃v,(k,v)∈s.T++s'.T)∧S.get k=qN b k (s.get k) (s'.get k))∨((∀v,(k,v) ∉ s.T++s'.T)∧S.get k=gG eD.T k (gG eD.B k .u)):=fun k=>by
  have e:S.get k=gG (List.map (fun p=>(p.1,(fun k=>qN b k (s.get k) (s'.get k)) p.1)) (s.T++s'.T)) k (gG eD.T k (gG eD.B k .u)):=by
   show gG (_++eD.T) k _=_
   rw[tk]
  rw[e];exact ZP (f:=fun k=>qN b k (s.get k) (s'.get k))
 have base: ∀(x:TS),x.B=eD.T++eD.B→ ∀k,(∀v,(k,v) ∉ x.T)→x.get k=gG eD.T k (gG eD.B k .u):=fun x hx k hk=>by
  unfold TS.get;rw[rT hk,hx,tk]
 have Pr: ∀k,k<1000000→qN b k (s.get k) (s'.get k)=A6 b (s.get k) (s'.get k):=fun k hk=>by
  unfold qN;rw[show Nat.blt k 1000000=true by rw[Nat.blt_eq];exact hk]
 have IJ: ∀k v,(k,v)∈s.T++s'.T→ ¬k<1000000→1000010≤k∧ ∃g c ck,s.get k= .dB g c∧s'.get k= .dB g ck∧c=iC false .gx (pE c)∧ck=iC false .gx (pE ck)∧qN b k (s.get k) (s'.get k)= .dB g (iC false .gx (bif b.den then pE c else pE ck)):=fun k v hm hk=>by
  obtain⟨b5,⟨g,c,aR⟩,c8,ck,e2⟩:=aaA dA hm hk
  obtain⟨cZ,dg,fK⟩:=OG jz k v hm hk _ _ _ _ aR e2
  subst cZ
  refine⟨b5,g,c,ck,aR,e2,dg,fK,?_⟩
  unfold qN
  have hb:Nat.blt k 1000000=false:=by
   cases hb:Nat.blt k 1000000 with
   | true=>rw[Nat.blt_eq] at hb;exact absurd hb hk
   | false=>rfl
  rw[hb,aR,e2];rfl
 refine⟨fun hb=>⟨rfl,rfl,fun k=> ?_⟩,fun hb=>⟨hv,ao,fun k=> ?_⟩⟩
 ·rcases gD k with⟨⟨v,q⟩,h⟩ | ⟨q,h⟩
  ·by_cases hk:k<1000000
   ·rw[h,Pr k hk];refine .inr (.inl ⟨hk,?_⟩)
    unfold A6
    split
    ·exact .inl rfl
    ·exact aaY hb
   ·obtain⟨b5,g,c,ck,aR,e2,dg,fK,dq⟩:=IJ k v q hk
    refine .inr (.inr ⟨b5,g,c,_,aR,h.trans dq,?_⟩)
    rw[hb];exact congrArg cC dg.symm
  ·rw[h];exact .inl (base s h1 k fun v hv=>q v (List.mem_append_left _ hv)).symm
 ·rcases gD k with⟨⟨v,q⟩,h⟩ | ⟨q,h⟩
  ·by_cases hk:k<1000000
   ·rw[h,Pr k hk];refine .inr (.inl ⟨hk,?_⟩)
    unfold A6
    split
    ·rename_i aE;rw[Nj EH k v q aE];exact .inl rfl
    ·exact aaX hb
   ·obtain⟨b5,g,c,ck,aR,e2,dg,fK,dq⟩:=IJ k v q hk
    refine .inr (.inr ⟨b5,g,ck,_,e2,h.trans dq,?_⟩)
    rw[hb];exact congrArg cC fK.symm
  ·rw[h];exact .inl (base s' h2 k fun v hv=>q v (List.mem_append_right _ hv)).symm
theorem aJ.Nw: ∀{t:aJ} {R:Exit→TS→Prop},t.lY= .none→t.den R→t.den fun ex s=>R ex s∧ex≠ .normal:=by
 intro t
 induction t with
 | j2 ex s=>
  intro R h d
  refine⟨d,?_⟩
  rintro rfl;cases h
 | hg=>intros;trivial
 | no=>intro R h d;exact d
 | p φ t bE=>intro R h d;exact⟨d.1,bE h d.2⟩
 | jc φ t bE=>intro R h d;exact fun q=>bE h (d q)
 | eq a b t bE=>intro R h d;exact⟨d.1,bE h d.2⟩
 | two x y ho gW=>intro R h;cases h
 | all α f bE=>intro R h;cases h
 | gX x dY b y ho gW=>
  intro R h d
  unfold aJ.lY at h
  split at h
  ·rename_i hx;exact⟨ho hx d.1,fun q=>gW h (d.2 q)⟩
  ·cases h
 | ic b s x y ho gW=>
  intro R h d
  have h:p4.ic b s x.lY y.lY= .none:=h
  unfold p4.ic at h
  split at h
  ·cases h
  ·rename_i hx
   split at h
   ·cases h
   ·rename_i ba;exact⟨fun q=>ho hx (d.1 q),fun q=>gW ba (d.2 q)⟩
   ·cases h
  ·split at h
   ·cases h
   ·cases h
   ·split at h<;>cases h
theorem aJ.Z4: ∀{t:aJ} {R:Exit→TS→Prop} {S:TS} {iQ:List (List (Nat×TV)×List (Nat×TV))},t.lY= .some S iQ→(∀p∈iQ,p.1=p.2)→t.den R→
  t.den fun ex s=>R ex s∧(ex= .normal→s.gj S∧t.ky.den=true∧ ∀φ∈t.facts,φ):=by
 intro t
 induction t with
 | j2 ex s=>
  intro R S iQ h af d
  refine⟨d,?_⟩
  rintro rfl
  cases h
  exact⟨.refl s,rfl,fun φ h=>by cases h⟩
 | hg=>intros;trivial
 | no=>intro R S iQ h af d;exact d
 | p φ t bE=>intro R S iQ h af d;exact⟨d.1,bE h af d.2⟩
 | jc φ t bE=>
  intro R S iQ h af d q
  refine aJ.p_ (bE h af (d q)) fun ex s hs=>⟨hs.1,fun e=>⟨(hs.2 e).1,(hs.2 e).2.1,fun ψ E4=> ?_⟩⟩
  rcases List.mem_cons.1 E4 with rfl | E4
  ·exact q
  ·exact(hs.2 e).2.2 ψ E4
 | eq a b t bE=>intro R S iQ h af d;exact⟨d.1,bE h af d.2⟩
 | two x y ho gW=>intro R S iQ h;cases h
 | all α f bE=>intro R S iQ h;cases h
 | gX x dY b y ho gW=>
  intro R S iQ h af d
  unfold aJ.lY at h
  split at h
  ·rename_i hx
   refine⟨aJ.p_ (aJ.Nw hx d.1) fun ex s hs=>⟨hs.1,fun e=>absurd e hs.2⟩,fun q=>aJ.p_ (gW h af (d.2 q)) fun ex s hs=>⟨hs.1,fun e=> ?_⟩⟩
   obtain⟨h1,h2,aM⟩:=hs.2 e
   have d_: ∀(l:List Prop),pb l→ ∀φ∈l,φ:=by
    intro l
    induction l with
    | nil=>intro _ φ ep;cases ep
    | cons a r bE=>
     intro hc φ ep
     cases r with
     | nil=>rw[List.mem_singleton.1 ep];exact hc
     | cons gk BB=>
      have hc:a∧pb (gk::BB):=hc
      rcases List.mem_cons.1 ep with rfl | ep
      ·exact hc.1
      ·exact bE hc.2 φ ep
   have d_:=d_ _ q
   refine⟨h1,?_,fun φ ep=> ?_⟩
   ·unfold aJ.ky
    split
    ·exact h2
    ·rename_i bY
     have hb:b.den=true:=d_ _ (by
      unfold uQ
      split
      ·exact absurd rfl bY
      ·simp)
     rw[dJ.yf,hb,h2];rfl
   ·rcases List.mem_append.1 ep with ep | ep
    ·have hm: ∀b:dJ,φ∈uQ dY b:=fun b=>by
      unfold uQ
      split
      ·exact ep
      ·exact List.mem_append_left _ ep
     exact d_ φ (hm b)
    ·exact aM φ ep
  ·cases h
 | ic b eD x y ho gW=>
  intro R S iQ h af d
  have h:p4.ic b eD x.lY y.lY= .some S iQ:=h
  have NM: ∀{z:aJ} {R:Exit→TS→Prop},z.lY= .none→z.den R→z.den fun ex s=>R ex s∧(ex= .normal→False):=fun aH Ti=>aJ.Nw aH Ti
  have JZ:b.den=true→x.ky.den=true→(dJ.tw b x.ky y.ky).den=true:=fun h1 h2=>by rw[dJ.yf,h1,h2];rfl
  have J0:b.den=false→y.ky.den=true→(dJ.tw b x.ky y.ky).den=true:=fun h1 h2=>by rw[dJ.yf,h1,h2];rfl
  have J_:x.ky.den=true→(∀φ∈x.facts,φ)→ ∀φ∈(aJ.ic b eD x y).facts,φ:=fun h1 h2 φ ep=>by
   unfold aJ.facts at ep
   split at ep
   ·rename_i e;rw[e] at h1;cases h1
   ·split at ep
    ·exact h2 φ ep
    ·cases ep
  have Ka:y.ky.den=true→(∀φ∈y.facts,φ)→ ∀φ∈(aJ.ic b eD x y).facts,φ:=fun h1 h2 φ ep=>by
   unfold aJ.facts at ep
   split at ep
   ·exact h2 φ ep
   ·split at ep
    ·rename_i e;rw[e] at h1;cases h1
    ·cases ep
  have dB: ∀{s:TS},s.B=eD.T++eD.B→s.gj ⟨s.T++eD.T,eD.B,s.vs,s.bb⟩:=fun c5=>⟨rfl,rfl,fun k=> .inl (abB c5 _ _ k)⟩
  unfold p4.ic at h
  split at h
  ·cases h
  ·rename_i hx
   split at h
   ·cases h
   ·cases h
   ·rename_i s q ba
    cases h
    have c5:=af _ (List.mem_cons_self ..)
    refine⟨fun hb=>aJ.p_ (NM hx (d.1 hb)) fun ex z aH=>⟨aH.1,fun e=>(aH.2 e).elim⟩,fun hb=>aJ.p_ (gW ba (fun p ai=>af p (List.mem_cons_of_mem _ ai)) (d.2 hb)) fun ex z aH=>⟨aH.1,fun e=> ?_⟩⟩
    obtain⟨h1,h2,aM⟩:=aH.2 e
    exact⟨h1.trans (dB c5),J0 hb h2,Ka h2 aM⟩
  ·rename_i s q hx
   split at h
   ·cases h
   ·rename_i ba
    cases h
    have c5:=af _ (List.mem_cons_self ..)
    refine⟨fun hb=>aJ.p_ (ho hx (fun p ai=>af p (List.mem_cons_of_mem _ ai)) (d.1 hb)) fun ex z aH=>⟨aH.1,fun e=> ?_⟩,fun hb=>aJ.p_ (NM ba (d.2 hb)) fun ex z aH=>⟨aH.1,fun e=>(aH.2 e).elim⟩⟩
    obtain⟨h1,h2,aM⟩:=aH.2 e
    exact⟨h1.trans (dB c5),JZ hb h2,J_ h2 aM⟩
   ·rename_i s' yl ba
    split at h
    ·rename_i hc
     cases h
     simp only[Bool.and_eq_true] at hc
     obtain⟨⟨br,hT⟩,kv⟩:=hc
     have U0:=af _ (List.mem_cons_self ..)
     have U1:=af _ (List.mem_cons_of_mem _ (List.mem_cons_self ..))
     obtain⟨aY,bj⟩:=Z0 (b:=b) U0 U1 br (Jr hT) (Nat.eq_of_beq_eq_true kv) (fun p ai=>af p (List.mem_cons_of_mem _ (List.mem_cons_of_mem _ (List.mem_append_right _ (List.mem_append_right _ ai)))))
     refine⟨fun hb=>aJ.p_ (ho hx (fun p ai=>af p (List.mem_cons_of_mem _ (List.mem_cons_of_mem _ (List.mem_append_left _ ai)))) (d.1 hb)) fun ex z aH=>⟨aH.1,fun e=> ?_⟩,
      fun hb=>aJ.p_ (gW ba (fun p ai=>af p (List.mem_cons_of_mem _ (List.mem_cons_of_mem _ (List.mem_append_right _ (List.mem_append_left _ ai))))) (d.2 hb)) fun ex z aH=>⟨aH.1,fun e=> ?_⟩⟩
     ·obtain⟨h1,h2,aM⟩:=aH.2 e
      exact⟨h1.trans (aY hb),JZ hb h2,J_ h2 aM⟩
     ·obtain⟨h1,h2,aM⟩:=aH.2 e
      exact⟨h1.trans (bj hb),J0 hb h2,Ka h2 aM⟩
    ·cases h
def j4:List (Nat×Nat)→Nat→Option Nat
 | [],_=>none
 | (k,m)::r,t=>match Nat.beq k t with
  | true=>some m
  | false=>j4 r t
section
variable [FZ] {n:Nat} {s:TS}
theorem yN (t:Nat):(s.ay n).T.getD t .undef=if t<n then(s.get t).bq else .undef:=by
 show((List.range n).map fun t=>(s.get t).bq).getD t .undef=_
 rw[List.getD_eq_getElem?_getD,List.getElem?_map]
 by_cases h:t<n
 ·rw[List.getElem?_range h,if_pos h];rfl
 ·rw[List.getElem?_eq_none (by simpa using h),if_neg h];rfl
theorem tV (v:Nat):dZ (s.ay n).L v=(j4 s.vs v).map fun m=>cC (hl s v 0 m):=by
 show dZ (s.vs.map fun p=>(p.1,cC (hl s p.1 0 p.2))) v=_
 induction s.vs with
 | nil=>rfl
 | cons p r bE=>
  obtain⟨k,m⟩:=p
  rw[List.map_cons]
  unfold dZ j4
  by_cases h:v=k
  ·subst h;simp
  ·have:Nat.beq k v=false:=by
    cases hb:Nat.beq k v with
    | true=>exact absurd (Nat.eq_of_beq_eq_true hb).symm h
    | false=>rfl
   simp only[h,if_false,this];exact bE
theorem oY (b:Nat):s.f_[b]?=if b<s.bb then some (s.get (bJ b)).eM else none:=by
 show((List.range s.bb).map fun b=>(s.get (bJ b)).eM)[b]?=_
 rw[List.getElem?_map]
 by_cases h:b<s.bb
 ·rw[List.getElem?_range h,if_pos h];rfl
 ·rw[List.getElem?_eq_none (by simpa using h),if_neg h];rfl
theorem l9:s.f_.length=s.bb:=by show((List.range s.bb).map _).length=_;simp
theorem q6 {b:Nat} (h:b<s.bb):(s.ay n).H[b]?=some (s.get (bJ b)).eM:=by
 show(s.f_++gN s)[b]?=_
 rw[List.getElem?_append_left (by rw[l9];exact h),oY,if_pos h]
theorem B2 (h:iv s=true):(s.ay n).H.length=s.bb:=by
 show(s.f_++gN s).length=_
 unfold gN;rw[h];simp[l9]
end
def zJ:Value→TV
 | .int k n=> .i k n
 | .bool b=> .b (match b with
  | true=> .t
  | false=> .f)
 | .string x=> .s x
 | .slice none 0 0=> .nil true true
 | .pointer none=> .o .fI
 | .nilIface=> .o .fY
 | _=> .u
theorem S5 (v:Value):(zJ v).bq=nE v:=by
 unfold zJ nE
 split
 ·rfl
 ·rename_i b;cases b<;>rfl
 ·rfl
 ·rfl
 ·rfl
 ·rfl
 ·rename_i h1 h2 aM bx c9 e6
  split
  ·exact absurd rfl (h1 _ _)
  ·exact absurd rfl (h2 _)
  ·exact absurd rfl (aM _)
  ·exact absurd rfl bx
  ·exact absurd rfl c9
  ·exact absurd rfl e6
  ·rfl
def cx (n:Nat) (s:TS):Operand→TV
 | .tmp t=>(match Nat.blt t n with
  | true=>s.get t
  | false=> .u)
 | .const v=>zJ v
 | .func f=> .fn f []
 | .global _=> .u
theorem ki [FZ] (n:Nat) (s:TS):cb (s.ay n).T=fun x=>(cx n s x).bq:=by
 funext x
 cases x with
 | tmp t=>
  show(s.ay n).T.getD t .undef=_
  rw[yN]
  unfold cx
  by_cases h:t<n
  ·have hb:Nat.blt t n=true:=by rw[Nat.blt_eq];exact h
   simp only[if_pos h,hb]
  ·have hb:Nat.blt t n=false:=by
    cases hb:Nat.blt t n with
    | true=>rw[Nat.blt_eq] at hb;exact absurd hb h
    | false=>rfl
   simp only[if_neg h,hb];rfl
 | const v=>exact(S5 v).symm
 | func f=>rfl
 | global g=>rfl
def JT (x:dJ) (K:dJ→aJ):aJ:=match x with
 | .t=>K .t
 | .f=>K .f
 | .v p=>K (.v p)
 | .at i p=>K (.at i p)
 | .n p=>K (.n p)
 | .bw p q=>K (.bw p q)
 | .or p q=>K (.or p q)
 | .ite p q r=>K (.ite p q r)
 | .uO p q=>K (.uO p q)
 | .ne p q=>K (.ne p q)
theorem Up (x:dJ) (K:dJ→aJ):JT x K=K x:=by cases x<;>rfl
def oh (v:TV) (K:TV→aJ):aJ:=match v with
 | .u=>K .u
 | .i k m=>K (.i k m)
 | .b x=>JT x fun x=>K (.b x)
 | .s x=>K (.s x)
 | .l e xs f r=>K (.l e xs f r)
 | .nil f r=>K (.nil f r)
 | .ref p g m f=>K (.ref p g m f)
 | .ptr p g j m c=>K (.ptr p g j m c)
 | .lp t c=>K (.lp t c)
 | .da e x c=>K (.da e x c)
 | .agg c=>K (.agg c)
 | .tup c=>K (.tup c)
 | .fn f c=>K (.fn f c)
 | .o a=>K (.o a)
 | .blk g e xs m h=>K (.blk g e xs m h)
 | .dB g c=>K (.dB g c)
 | .jL g m ids=>K (.jL g m ids)
 | .gy V ids n h=>K (.gy V ids n h)
 | .new id xs=>K (.new id xs)
 | .uV w ids m n=>K (.uV w ids m n)
 | .uU w ids m j=>K (.uU w ids m j)
 | .x_ id m n=>K (.x_ id m n)
theorem ph (v:TV) (K:TV→aJ):oh v K=K v:=by
 cases v with
 | b x=>exact Up x fun x=>K (.b x)
 | _=>rfl
def mX:(e:aU)→e.T→AV
 | .ptr e,x=> .da (cq false e x) 0
 | .hG f .unit,_=> .fn f []
 | .hG f e,x=> .fn f [mX e x]
 | e,x=>match e.isS with
  | true=> .agg (cq false e x)
  | false=>iE false e x
def mm:(es:List aU)→cA es→List AV
 | [],_=>[]
 | e::r,x=>mX e x.1::mm r x.2
def nF (e:aU) (x:e.T):AV:=match e.isS with
 | true=> .agg (cq true e x)
 | false=>iE true e x
def oc:(es:List aU)→cA es→List AV
 | [],_=>[]
 | e::r,x=>nF e x.1::oc r x.2
def pd:(es:List aU)→cA es→AV
 | [e],x=>nF e x.1
 | es,x=> .tup (oc es x)
def BF (e:aU) (x:e.T):TV:=match e.isS with
 | true=> .agg (iC true e x)
 | false=>yV true e x
def BG:(es:List aU)→cA es→List TV
 | [],_=>[]
 | e::r,x=>BF e x.1::BG r x.2
def BH:(es:List aU)→cA es→TV
 | [e],x=>BF e x.1
 | es,x=> .tup (BG es x)
theorem OQ (e:aU) (x:e.T):(BF e x).bq=nF e x:=by
 unfold BF nF
 cases e.isS with
 | true=>show AV.agg (cC _)=_;rw[zA]
 | false=>exact HX true e x
theorem OR: ∀(es:List aU) (x:cA es),cC (BG es x)=oc es x
 | [],_=>rfl
 | e::r,x=>by rw[BG,cC,oc,OQ,OR r]
theorem GM (es:List aU) (x:cA es):(BH es x).bq=pd es x:=by
 match es,x with
 | [],x=>rfl
 | [e],x=>exact OQ e x.1
 | e::b3::r,x=>show AV.tup (cC _)=_;rw[OR];rfl
structure cY (P:Program) where
 f:FuncId
 ps:List aU
 rs:List aU
 pre:Option (cA ps→Prop)
 fn:cA ps→cA rs
 ok: ∀x,(match pre with
  | none=>True
  | some p=>p x)→bg P f (mm ps x) (pd rs (fn x))
def SB {e b3:aU} (h:b3=e) (x:b3.T):e.T:=h▸x
def zI (bf:IntKind) (v:TV) (K:Int→List Prop→aJ):aJ:=match v with
 | .i k n=>if k=bf then K n [] else .no
 | _=> .no
def De (v:TV) (K:Bool→List Prop→aJ):aJ:=match v with
 | .b x=>K x.den []
 | _=> .no
def Di (v:TV) (K:ByteArray→List Prop→aJ):aJ:=match v with
 | .s x=>K x []
 | _=> .no
def Dd (e:aU) (g n:Nat) (v:TV) (K:List e.T→List Prop→aJ):aJ:=match v with
 | .blk c8 b3 xs iO _=>if h:b3=e then .eq c8 g (.eq iO n (K (kX h xs) [xs.length≤4611686018427387904])) else .no
 | _=> .no
def Dj (s:TS) (e:aU) (g n:Nat) (v:TV) (K:List e.T→List Prop→aJ):aJ:=match v with
 | .jL c8 m ids=>(match s.get dj with
  | .gy V c6 bU _=>if h:aU.held=e then .eq c6 ids (.eq c8 0 (.eq g 0 (.eq n bU (.eq m s.bb (K (kX h V) [V.length≤4611686018427387904]))))) else .no
  | _=> .no)
 | v=>Dd e g n v K
def Dg (s:TS) (e:aU) (v:TV) (K:List e.T→List Prop→aJ):aJ:=match v with
 | .l b3 xs _ _=>if h:b3=e then K (kX h xs) [] else .no
 | .nil _ _=>K [] []
 | .ref b g n _=>(match Nat.blt b s.bb with
  | true=>Dj s e g n (s.get (bJ b)) K
  | false=> .no)
 | _=> .no
def mU (s:TS):(e:aU)→TV→(e.T→List Prop→aJ)→aJ
 | .int,v,K=>zI .i64 v K
 | .u64,v,K=>zI .u64 v K
 | .bool,v,K=>De v K
 | .str,v,K=>Di v K
 | .l e,v,K=>Dg s e v K
 | _,_,_=> .no
def w3 (s:TS):(es:List aU)→List TV→(cA es→List Prop→aJ)→aJ
 | [],[],K=>K () []
 | e::r,v::vs,K=>mU s e v fun x o=>w3 s r vs fun y hr=>K (x,y) (o++hr)
 | _,_,_=> .no
def mV (s:TS) (e:aU) (v:TV) (K:e.T→List Prop→aJ):aJ:=match e.isS with
 | true=>(match v with
  | .agg c=>w3 s e.b2 c fun x o=>K (e.mk x) o
  | _=> .no)
 | false=>mU s e v K
def Dh (s:TS) (e:aU) (v:TV) (K:e.T→List Prop→aJ):aJ:=match v with
 | .lp t c=>(match Nat.beq c 0 with
  | true=>(match j4 s.vs t with
   | some m=>w3 s e.b2 (hl s t 0 m) fun x o=>K (e.mk x) o
   | none=> .no)
  | false=> .no)
 | .da b3 x c=>(match Nat.beq c 0 with
  | true=>if h:b3=e then K (SB h x) [] else .no
  | false=> .no)
 | _=> .no
def Df (f:Nat) (v:TV) (K:Unit→List Prop→aJ):aJ:=match v with
 | .fn g c=>(match Nat.beq f g with
  | true=>(match c with
   | []=>K () []
   | _=> .no)
  | false=> .no)
 | _=> .no
def zH (f:Nat) (v:TV) (K:TV→aJ):aJ:=match v with
 | .fn g c=>(match Nat.beq f g with
  | true=>(match c with
   | [w]=>K w
   | _=> .no)
  | false=> .no)
 | _=> .no
def conv (s:TS):(e:aU)→TV→(e.T→List Prop→aJ)→aJ
 | .ptr e,v,K=>Dh s e v K
 | .hG f .unit,v,K=>Df f v K
 | .hG f e,v,K=>zH f v fun w=>match e.isS with
  | true=> .no
  | false=>conv s e w K
 | .bO,v,K=>mV s .bO v K
 | .ei,v,K=>mV s .ei v K
 | .eh,v,K=>mV s .eh v K
 | .mo,v,K=>mV s .mo v K
 | .ev,v,K=>mV s .ev v K
 | .held,v,K=>mV s .held v K
 | .frame,v,K=>mV s .frame v K
 | .done,v,K=>mV s .done v K
 | .fault,v,K=>mV s .fault v K
 | .stays,v,K=>mV s .stays v K
 | .gx,v,K=>mV s .gx v K
 | .int,v,K=>mU s .int v K
 | .u64,v,K=>mU s .u64 v K
 | .u8,v,K=>mU s .u8 v K
 | .bool,v,K=>mU s .bool v K
 | .str,v,K=>mU s .str v K
 | .unit,v,K=>mU s .unit v K
 | .nat,v,K=>mU s .nat v K
 | .l e,v,K=>mU s (.l e) v K
def C9 (s:TS):(es:List aU)→List TV→(cA es→List Prop→aJ)→aJ
 | [],[],K=>K () []
 | e::r,v::vs,K=>conv s e v fun x o=>C9 s r vs fun y hr=>K (x,y) (o++hr)
 | _,_,_=> .no
section
variable {n:Nat} {s:TS} {R:Exit→TS→Prop}
theorem SF {L:List (Nat×List AV)} {H:List Blk} (e:aU) (x:e.T):nw L H (cq true e x) (cq false e x):=by
 rw[←ml,←ml]
 have key: ∀(es:List aU) (y:cA es),nw L H (h8 true es y) (h8 false es y):=by
  intro es
  induction es with
  | nil=>intro y;exact .nil
  | cons e r bE=>
   intro y
   refine .cons ?_ (bE y.2)
   cases e<;>first | exact .int _ _ | exact .bool _ | exact .str _ | exact gq | exact .undef _
 exact key _ _
end
section
variable {n:Nat} {s:TS} {R:Exit→TS→Prop}
theorem Jg {k:IntKind} {v:TV} {K:Int→List Prop→aJ} (h:(zI k v K).den R): ∃m,v= .i k m∧(K m []).den R:=by
 unfold zI at h
 split at h
 ·split at h
  ·rename_i e;subst e;exact⟨_,rfl,h⟩
  ·exact h.elim
 ·exact h.elim
end
section
variable {n:Nat} {s:TS} {R:Exit→TS→Prop}
theorem SZ {v:TV} {K:Bool→List Prop→aJ} (h:(De v K).den R): ∃x,v= .b x∧(K x.den []).den R:=by
 unfold De at h
 split at h
 ·exact⟨_,rfl,h⟩
 ·exact h.elim
end
section
variable {n:Nat} {s:TS} {R:Exit→TS→Prop}
theorem S4 {v:TV} {K:ByteArray→List Prop→aJ} (h:(Di v K).den R): ∃x,v= .s x∧(K x []).den R:=by
 unfold Di at h
 split at h
 ·exact⟨_,rfl,h⟩
 ·exact h.elim
end
section
variable {n:Nat} {s:TS} {R:Exit→TS→Prop}
theorem SY {e:aU} {g m:Nat} {v:TV} {K:List e.T→List Prop→aJ} (h:(Dd e g m v K).den R): ∃xs,∃hx:xs.length=m,v= .blk g e xs m hx∧(K xs [xs.length≤4611686018427387904]).den R:=by
 unfold Dd at h
 split at h
 ·rename_i c8 b3 xs iO hx
  split at h
  ·rename_i bD
   subst bD
   obtain⟨h1,h2,h⟩:=h
   subst h1;subst h2
   exact⟨xs,hx,rfl,h⟩
  ·exact h.elim
 ·exact h.elim
end
section
variable {n:Nat} {s:TS} {R:Exit→TS→Prop}
theorem acP {L:List (Nat×List AV)} {H:List Blk} {a b:AV} (h:ey L H a b) (hb: ∀l,b≠ .agg l):fF L H a b:=by
 rcases h with⟨l,eK,_,e,_⟩ | h
 ·exact absurd e (hb eK)
 ·exact h
end
section
variable {n:Nat} {s:TS} {R:Exit→TS→Prop}
theorem Tm (fr:Bool) (e:aU) (x:e.T): ∀l,iE fr e x≠ .agg l:=by
 intro l h;cases e<;>cases h
end
section
variable {n:Nat} {s:TS} {R:Exit→TS→Prop}
theorem S0 {f:Nat} {v:TV} {K:Unit→List Prop→aJ} (h:(Df f v K).den R):v= .fn f []∧(K () []).den R:=by
 unfold Df at h
 split at h
 ·split at h
  ·rename_i hf
   obtain rfl:=Nat.eq_of_beq_eq_true hf
   split at h
   ·exact⟨rfl,h⟩
   ·exact h.elim
  ·exact h.elim
 ·exact h.elim
end
section
variable {n:Nat} {s:TS} {R:Exit→TS→Prop}
theorem S1 {f:Nat} {v:TV} {K:TV→aJ} (h:(zH f v K).den R): ∃w,v= .fn f [w]∧(K w).den R:=by
 unfold zH at h
 split at h
 ·split at h
  ·rename_i hf
   obtain rfl:=Nat.eq_of_beq_eq_true hf
   split at h
   ·exact⟨_,rfl,h⟩
   ·exact h.elim
  ·exact h.elim
 ·exact h.elim
end
section
variable {n:Nat} {s:TS} {R:Exit→TS→Prop}
theorem Tq {e:aU} (h:e.isS=false) (x:e.T): ∀l,mX e x≠ .agg l:=by
 intro l
 cases e with
 | hG f e=>cases e<;>(intro h;cases h)
 | ptr e=>intro h;cases h
 | _=>first | (cases h;done) | exact Tm false _ x l
end
section
variable [FZ] {n:Nat} {s:TS} {R:Exit→TS→Prop}
theorem qa {V:List ac} {ids:List Nat} {bU:Nat} {hv:V.length=bU} (hk:s.get dj= .gy V ids bU hv):(s.ay n).H=s.f_++List.map bR ‹FZ›.bs:=by
 show s.f_++gN s=_
 unfold gN iv
 rw[hk]
theorem JE {V:List ac} {ids:List Nat} {bU:Nat} {hv:V.length=bU} (hk:s.get dj= .gy V ids bU hv) {id:Nat} {k:Blk} (h:(List.map bR ‹FZ›.bs)[id]?=some k):(s.ay n).H[id+s.bb]?=some k:=by
 rw[qa hk,List.getElem?_append_right (by rw[l9];omega),l9,Nat.add_sub_cancel];exact h
variable (aH:Fits s)
include aH in
theorem S6 {e:aU} {b g m:Nat} {de:Bool} {K:List e.T→List Prop→aJ} (hb:b<s.bb) (h:(Dj s e g m (s.get (bJ b)) K).den R): ∃x o,(K x o).den R∧((∀φ∈o,φ)→fF (s.ay n).L (s.ay n).H (.ref b g 0 m de) (.aV (List.map (cq false e) x) false false)):=by
 unfold Dj at h
 split at h
 ·rename_i c8 gY ids aQ
  split at h
  ·rename_i V c6 bU jZ hk
   split at h
   ·rename_i he
    subst he
    obtain⟨h1,h2,aM,bx,c9,h⟩:=h
    subst h1;subst h2;subst aM;subst bx;subst c9;subst jZ
    refine⟨_,_,h,fun aG=> ?_⟩
    have aE:=aG _ (List.mem_singleton.2 rfl)
    obtain⟨q1,q2,q3⟩:=aH V c6 _ _ hk
    have oA:V.length= ‹FZ›.ws.length:=by rw[←q2];exact jJ q1.ok
    have:=BO (L:=(s.ay n).L) (H:=(s.ay n).H) (b:=b) (s:=s.bb) (n:=V.length) (full:=de) (ws:= ‹FZ›.ws) (ids:=c6) (bs:= ‹FZ›.bs) oA (by rw[q6 hb,aQ];rfl) (fun id k jb=>JE hk jb) q1.ok (by omega) (fun x hx=>by have:=q1.len x hx;omega)
    rw[q2] at this
    exact this
   ·exact h.elim
  ·exact h.elim
 ·obtain⟨xs,hx,aQ,h'⟩:=SY h
  subst hx
  refine⟨_,_,h',fun aG=> ?_⟩
  have aE:=aG _ (List.mem_singleton.2 rfl)
  exact O5 (eT:=cq true e) (by rw[q6 hb,aQ];rfl) (fun x=>SF e x) aE
include aH in
theorem S2 {e:aU} {v:TV} {K:List e.T→List Prop→aJ} (h:(Dg s e v K).den R): ∃x o,(K x o).den R∧((∀φ∈o,φ)→fF (s.ay n).L (s.ay n).H v.bq (.aV (List.map (cq false e) x) false false)):=by
 unfold Dg at h
 split at h
 ·split at h
  ·rename_i bD;subst bD;exact⟨_,_,h,fun _=>gq⟩
  ·exact h.elim
 ·exact⟨_,_,h,fun _=>by rw[List.map_nil];exact gq⟩
 ·rename_i b g cu de
  split at h
  ·rename_i hb
   exact S6 aH (by rw[←Nat.blt_eq];exact hb) h
  ·exact h.elim
 ·exact h.elim
include aH in
theorem C8 {e:aU} {v:TV} {K:e.T→List Prop→aJ} (h:(mU s e v K).den R): ∃x o,(K x o).den R∧((∀φ∈o,φ)→fF (s.ay n).L (s.ay n).H v.bq (iE false e x)):=by
 cases e with
 | int=>obtain⟨m,rfl,h⟩:=Jg h;exact⟨m,_,h,fun _=> .int _ _⟩
 | u64=>obtain⟨m,rfl,h⟩:=Jg h;exact⟨m,_,h,fun _=> .int _ _⟩
 | bool=>obtain⟨x,rfl,h⟩:=SZ h;exact⟨_,_,h,fun _=> .bool _⟩
 | str=>obtain⟨x,rfl,h⟩:=S4 h;exact⟨_,_,h,fun _=> .str _⟩
 | l e=>exact S2 aH h
 | _=>exact h.elim
include aH in
theorem zF: ∀{es:List aU} {vs:List TV} {K:cA es→List Prop→aJ},(w3 s es vs K).den R→ ∃x o,(K x o).den R∧((∀φ∈o,φ)→aO (fF (s.ay n).L (s.ay n).H) (cC vs) (h8 false es x))
 | [],[],K,h=>⟨(),[],h,fun _=>aO.nil⟩
 | e::r,v::vs,K,h=>by
  obtain⟨x,o,h,dA⟩:=C8 aH (n:=n) (show(mU s e v _).den R from h)
  obtain⟨y,hr,h,hp⟩:=zF h
  exact⟨(x,y),o++hr,h,fun aG=>aO.cons (dA fun φ ep=>aG φ (List.mem_append_left _ ep)) (hp fun φ ep=>aG φ (List.mem_append_right _ ep))⟩
 | [],_::_,K,h=>h.elim
 | _::_,[],K,h=>h.elim
include aH in
theorem SV {e:aU} {v:TV} {K:e.T→List Prop→aJ} (h:(mV s e v K).den R): ∃x o,(K x o).den R∧((∀φ∈o,φ)→ey (s.ay n).L (s.ay n).H v.bq (match e.isS with
  | true=> .agg (cq false e x)
  | false=>iE false e x)):=by
 unfold mV at h
 cases db:e.isS with
 | true=>
  rw[db] at h
  simp only at h
  split at h
  ·rename_i c
   obtain⟨x,o,h,k⟩:=zF aH (n:=n) h
   refine⟨_,o,h,fun aG=> ?_⟩
   show ey _ _ (.agg (cC c)) (.agg (cq false e (e.mk x)))
   rw[←ml,aU.QR]
   exact ey.agg (k aG)
  ·exact h.elim
 | false=>
  rw[db] at h
  obtain⟨x,o,h,k⟩:=C8 aH (n:=n) (show(mU s e v K).den R from h)
  exact⟨x,o,h,fun aG=> .inr (k aG)⟩
include aH in
theorem S3 {e:aU} {v:TV} {K:e.T→List Prop→aJ} (h:(Dh s e v K).den R): ∃x o,(K x o).den R∧((∀φ∈o,φ)→ey (s.ay n).L (s.ay n).H v.bq (.da (cq false e x) 0)):=by
 unfold Dh at h
 split at h
 ·rename_i t c
  split at h
  ·rename_i hc
   obtain rfl:=Nat.eq_of_beq_eq_true hc
   split at h
   ·rename_i m hm
    obtain⟨x,o,h,k⟩:=zF aH (n:=n) h
    refine⟨_,o,h,fun aG=> .inr ?_⟩
    have k:=k aG
    show fF _ _ (.e7 t 0) (.da (cq false e (e.mk x)) 0)
    rw[←ml,aU.QR]
    exact .e7 (cells:=cC (hl s t 0 m)) (by rw[tV,hm];rfl) k.1 k.2
   ·exact h.elim
  ·exact h.elim
 ·rename_i b3 x c
  split at h
  ·rename_i hc
   obtain rfl:=Nat.eq_of_beq_eq_true hc
   split at h
   ·rename_i bD;subst bD;exact⟨_,_,h,fun _=> .inr (.da _ _)⟩
   ·exact h.elim
  ·exact h.elim
 ·exact h.elim
include aH in
theorem C_: ∀{e:aU} {v:TV} {K:e.T→List Prop→aJ},(conv s e v K).den R→ ∃x o,(K x o).den R∧((∀φ∈o,φ)→ey (s.ay n).L (s.ay n).H v.bq (mX e x)):=by
 intro e
 induction e with
 | ptr e bE=>intro v K h;exact S3 aH h
 | hG f e bE=>
  intro v K h
  have key:(∀x,mX (.hG f e) x= .fn f [mX e x])→(zH f v fun w=>match e.isS with
   | true=> .no
   | false=>conv s e w K).den R→ ∃x o,(K x o).den R∧((∀φ∈o,φ)→ey (s.ay n).L (s.ay n).H v.bq (mX (.hG f e) x)):=by
   intro he h
   obtain⟨w,rfl,h'⟩:=S1 h
   cases db:e.isS with
   | true=>rw[db] at h';exact h'.elim
   | false=>
    rw[db] at h'
    obtain⟨x,o,h2,k⟩:=bE h'
    refine⟨x,o,h2,fun aG=> .inr ?_⟩
    rw[he]
    refine fF.fn (caps:=[w.bq]) rfl fun j a b h1 h2=> ?_
    cases j with
    | zero=>cases h1;cases h2;exact acP (k aG) (Tq db x)
    | succ j=>cases h1
  cases e with
  | unit=>
   obtain⟨rfl,h'⟩:=S0 h
   exact⟨(),[],h',fun _=> .inr (fF.fn (caps:=[]) rfl fun j a b h1 _=>by cases h1)⟩
  | _=>exact key (fun x=>rfl) h
 | _=>
  intro v K h
  first
  | exact SV aH (n:=n) h
  | (obtain⟨x,o,h,k⟩:=C8 aH (n:=n) h;exact⟨x,o,h,fun aG=> .inr (k aG)⟩)
include aH in
theorem Ja: ∀{es:List aU} {vs:List TV} {K:cA es→List Prop→aJ},(C9 s es vs K).den R→ ∃x o,(K x o).den R∧((∀φ∈o,φ)→aO (ey (s.ay n).L (s.ay n).H) (cC vs) (mm es x))
 | [],[],K,h=>⟨(),[],h,fun _=>aO.nil⟩
 | e::r,v::vs,K,h=>by
  obtain⟨x,o,h,dA⟩:=C_ aH (n:=n) (show(conv s e v _).den R from h)
  obtain⟨y,hr,h,hp⟩:=Ja h
  exact⟨(x,y),o++hr,h,fun aG=>aO.cons (dA fun φ ep=>aG φ (List.mem_append_left _ ep)) (hp fun φ ep=>aG φ (List.mem_append_right _ ep))⟩
 | [],_::_,K,h=>h.elim
 | _::_,[],K,h=>h.elim
end
def Bj (l:List Prop) (t:aJ):aJ:=match l with
 | []=>t
 | l=> .p (pb l) t
theorem I_: ∀{l:List Prop},pb l→ ∀φ∈l,φ
 | [],_,φ,h=>by cases h
 | [a],hc,φ,h=>by rw[List.mem_singleton.1 h];exact hc
 | a::b::r,hc,φ,h=>by
  have hc:a∧pb (b::r):=hc
  rcases List.mem_cons.1 h with rfl | h
  ·exact hc.1
  ·exact I_ hc.2 φ h
theorem NY {l:List Prop} {t:aJ} {R:Exit→TS→Prop} (h:(Bj l t).den R):(∀φ∈l,φ)∧t.den R:=by
 unfold Bj at h
 split at h
 ·exact⟨(fun φ h=>by cases h),h⟩
 ·exact⟨I_ h.1,h.2⟩
def Aa {P:Program}:List (cY P)→FuncId→(cY P→aJ)→aJ
 | [],_,_=> .no
 | c::r,f,K=>match Nat.beq c.f f with
  | true=>K c
  | false=>Aa r f K
def vC:TV→Bool
 | .tup _=>false
 | .o a=>et a
 | _=>true
theorem Be {v:TV} (h:vC v=true):et v.bq=true:=by cases v<;>first | rfl | exact h | cases h
def Gs {P:Program} (c:cY P) (x:cA c.ps):List Prop:=match c.pre with
 | none=>[]
 | some p=>[p x]
def CR {P:Program} (l_:List (cY P)) (f:FuncId) (args:List TV) (s:TS) (K:TV→aJ):aJ:=match args.all vC with
 | false=> .no
 | true=>Aa l_ f fun c=>C9 s c.ps args fun x o=>Bj (o++Gs c x) (K (BH c.rs (c.fn x)))
theorem JL {P:Program} {f:FuncId} {K:cY P→aJ} {R:Exit→TS→Prop}: ∀{l_:List (cY P)},(Aa l_ f K).den R→ ∃c,c.f=f∧(K c).den R
 | [],h=>h.elim
 | c::r,h=>by
  unfold Aa at h
  split at h
  ·rename_i hf;exact⟨c,Nat.eq_of_beq_eq_true hf,h⟩
  ·exact JL h
theorem Sz [FZ] {P:Program} {l_:List (cY P)} {f:FuncId} {args:List TV} {s:TS} {K:TV→aJ} {R:Exit→TS→Prop} {n:Nat} {Kp:AV→Prop} (aH:Fits s) (hK: ∀v,(K v).den R→Kp v.bq) (h:(CR l_ f args s K).den R):
  nD P f (cC args) (s.ay n).L (s.ay n).H Kp:=by
 unfold CR at h
 split at h
 ·exact h.elim
 ·rename_i ao
  obtain⟨c,rfl,h1⟩:=JL h
  obtain⟨x,o,h2,k⟩:=Ja aH (n:=n) h1
  obtain⟨aG,aM⟩:=NY h2
  refine⟨?_,_,_,k fun φ ep=>aG φ (List.mem_append_left _ ep),c.ok x ?_,?_⟩
  ·rw[List.all_eq_true] at ao ⊢
   intro a aF
   rw[mQ] at aF
   obtain⟨v,hv,rfl⟩:=List.mem_map.1 aF
   exact Be (ao v hv)
  ·have ai: ∀φ∈Gs c x,φ:=fun φ ep=>aG φ (List.mem_append_right _ ep)
   unfold Gs at ai
   revert ai
   cases c.pre with
   | none=>intro _;trivial
   | some p=>intro ai;exact ai _ (List.mem_singleton.2 rfl)
  ·rw[←GM];exact hK _ aM
inductive y4:Type 1 where
 | no
 | v (x:TV)
 | c (φ:Prop) (x:TV)
 | bm (φ ψ:Prop) (x:TV)
def qg (F:List Blk→(AV→Prop)→Prop) (K:TV→aJ):y4→aJ
 | .no=> .no
 | .v x=> .eq F (fun _ Q=>Q x.bq) (oh x K)
 | .c φ x=> .eq F (fun _ Q=>φ∧Q x.bq) (.p φ (oh x K))
 | .bm φ ψ x=> .eq F (fun _ Q=>φ∧ψ∧Q x.bq) (.p (φ∧ψ) (oh x K))
theorem rA {F:List Blk→(AV→Prop)→Prop} (H:List Blk) {K:TV→aJ} {g:y4} {R:Exit→TS→Prop} {Kp:AV→Prop} (hK: ∀v,(K v).den R→Kp v.bq) (h:(qg F K g).den R):F H Kp:=by
 cases g with
 | no=>exact h.elim
 | v x=>obtain⟨e,h⟩:=h;rw[ph] at h;rw[e];exact hK _ h
 | c φ x=>obtain⟨e,h1,h⟩:=h;rw[ph] at h;rw[e];exact⟨h1,hK _ h⟩
 | bm φ ψ x=>obtain⟨e,h1,h⟩:=h;rw[ph] at h;rw[e];exact⟨h1.1,h1.2,hK _ h⟩
def pa:TV→List TV
 | .agg c=>c
 | v=>[v]
def tY (P:Program) (t:TypeId) (cells:List TV) (c:Nat):TV:=match vq P t with
 | true=> .agg ((cells.drop c).take (P.cellsOf t))
 | false=>cells.getD c .u
def UC (op:BinOp) (x y:TV):y4:=match x with
 | .i k a=>(match y with
  | .i _ b=>(match op with
   | .add=> .v (.i k (k.wrap (a+b)))
   | .sub=> .v (.i k (k.wrap (a - b)))
   | .mul=> .v (.i k (k.wrap (a*b)))
   | .quo=> .c (b≠0) (.i k (k.wrap (a.tdiv b)))
   | .rem=> .c (b≠0) (.i k (a.tmod b))
   | .and=> .v (.i k (k.wrap (BitVec.ofInt k.bits a&&&BitVec.ofInt k.bits b).toNat))
   | .shl=> .c (0≤b) (.i k (k.wrap (a*2 ^ (min b.toNat k.bits))))
   | .shr=> .c (0≤b) (.i k (a.fdiv (2 ^ (min b.toNat k.bits))))
   | .eql=> .v (.b (.v (a==b)))
   | .neq=> .v (.b (.v (a !=b)))
   | .lss=> .v (.b (.v (decide (a<b))))
   | .leq=> .v (.b (.v (decide (a≤b))))
   | .gtr=> .v (.b (.v (decide (a>b))))
   | .geq=> .v (.b (.v (decide (a ≥ b))))
   | _=> .no)
  | _=> .no)
 | .b p=>(match y with
  | .b q=>(match op with
   | .eql=> .v (.b (.uO p q))
   | .neq=> .v (.b (.ne p q))
   | _=> .no)
  | _=> .no)
 | .s p=>(match y with
  | .s q=>(match op with
   | .add=> .c (p.size+q.size≤9223372036854775807) (.s (p++q))
   | .eql=> .v (.b (.v (p.toList==q.toList)))
   | .neq=> .v (.b (.v (!(p.toList==q.toList))))
   | _=> .no)
  | _=> .no)
 | .agg l=>(match y with
  | .agg m=>(match l,m with
   | [.i _ a,.i _ b],[.i _ c,.i _ d]=>(match op with
    | .eql=> .v (.b (.v (a==c&&b==d)))
    | .neq=> .v (.b (.v (!(a==c&&b==d))))
    | _=> .no)
   | _,_=> .no)
  | _=> .no)
 | _=> .no
def y0 (P:Program) (t:TypeId):List TV:=match(P.info? t).bind (·.zero) with
 | some z=>z.cells.toList.map zJ
 | none=>[]
def JG (pl:List (Nat×Nat)) (cells:List TV):List (Nat×TV)→List TV
 | []=>cells
 | (i,v)::r=>match pl[i]? with
  | some p=>JG pl (cells.take p.1++pa v++cells.drop (p.1+(pa v).length)) r
  | none=>cells
def Uv (e:aU) (v:TV):e.T:=match e.isS with
 | true=>e.mk (oj e.b2 (pa v))
 | false=>D1 e v
def Ur:TV→Bool
 | .l _ _ _ fr=>fr
 | .nil _ fr=>fr
 | .agg c=>c.all fun v=>match v with
  | .l _ _ _ fr=>fr
  | .nil _ fr=>fr
  | _=>true
 | _=>true
def Nl (e:aU) (xs:List e.T) (l:List TV):TV:=match l with
 | []=> .nil true true
 | l=> .l e xs true (l.all Ur)
def AZ (s:TS) (e:aU):List TV→(List e.T→aJ)→aJ
 | [],K=>K []
 | v::r,K=>conv s e v fun x _=>AZ s e r fun xs=>K (x::xs)
theorem FX [FZ] {n:Nat} {s:TS} {e:aU} {R:Exit→TS→Prop} (aH:Fits s): ∀{l:List TV} {K:List e.T→aJ},(AZ s e l K).den R→ ∃xs,(K xs).den R
 | [],K,h=>⟨_,h⟩
 | v::r,K,h=>by
  obtain⟨x,o,h,_⟩:=C_ aH (n:=n) (show(conv s e v _).den R from h)
  obtain⟨xs,h⟩:=FX (n:=n) aH h
  exact⟨_,h⟩
def vu:List (Nat×aU)→Nat→(aU→aJ)→aJ
 | [],_,_=> .no
 | (k,e)::r,t,K=>match Nat.beq k t with
  | true=>K e
  | false=>vu r t K
structure gC (P:Program) where
 n:Nat
 Dx:List (Nat×aU)
 l_:List (cY P)
section
variable {P:Program} (cf:gC P) (s:TS)
def gs (P:Program) (n:Nat) (s:TS) (op:Op):y4:=match op with
 | .nilCheck x=> .v (cx n s x)
 | .load t a=>(match cx n s a with
  | .lp v c=>(match j4 s.vs v with
   | some m=> .v (tY P t (hl s v 0 m) c)
   | none=> .no)
  | .da e x c=> .v (tY P t (iC false e x) c)
  | _=> .no)
 | .fieldAddr t x f=>(match zZ P t f with
  | some fd=>(match cx n s x with
   | .lp v c=> .v (.lp v (c+fd.offset))
   | .da e x c=> .v (.da e x (c+fd.offset))
   | .ptr b g i m c=> .v (.ptr b g i m (c+fd.offset))
   | _=> .no)
  | none=> .no)
 | .unOp op _ x=>(match cx n s x with
  | .b z=>(match op with
   | .not=> .v (.b z.not)
   | _=> .no)
  | .i k m=>(match op with
   | .neg=> .v (.i k (k.wrap (0 - m)))
   | _=> .no)
  | _=> .no)
 | .convert _ d x=>(match cx n s x with
  | .i _ m=>(match vp P d with
   | some k=> .v (.i k (k.wrap m))
   | none=> .no)
  | _=> .no)
 | .binOp op _ x y _=>UC op (cx n s x) (cx n s y)
 | .build t ps=>(match Gn P t with
  | some pl=> .v (.agg (JG pl (y0 P t) (ps.toList.map fun p=>(p.1,cx n s p.2))))
  | none=> .no)
 | .index _ x i=>(match cx n s x with
  | .s z=>(match cx n s i with
   | .i _ m=> .bm (0≤m) (m<z.size) (.i .u8 (z.data.getD m.toNat 0).toNat)
   | _=> .no)
  | _=> .no)
 | .extract x i=>(match cx n s x with
  | .tup l=> .v (l.getD i .u)
  | _=> .no)
 | .makeFunc fn _ caps=>(match fn with
  | .func f=> .v (.fn f (caps.toList.map (cx n s)))
  | _=> .no)
 | _=> .no
def rP (P:Program) (t:TypeId):Option Nat:=match im P t with
 | some e=>(match(P.info? e).isSome with
  | true=>some (P.cellsOf e)
  | false=>none)
 | none=>none
theorem vn {P:Program} {t:TypeId} {m:Nat} (h:rP P t=some m): ∃e,im P t=some e∧(P.info? e).isSome=true∧P.cellsOf e=m:=by
 unfold rP at h
 split at h
 ·rename_i e he
  split at h
  ·rename_i hi;exact⟨e,he,hi,Option.some.inj h⟩
  ·cases h
 ·cases h
def p7 (s:TS) (b g:Nat) (K:(e:aU)→(xs:List e.T)→(m:Nat)→xs.length=m→aJ):aJ:=match Nat.blt b s.bb with
 | true=>(match s.get (bJ b) with
  | .blk c8 e xs m h=> .eq c8 g (K e xs m h)
  | _=> .no)
 | false=> .no
theorem uA [FZ] {n:Nat} {s:TS} {b g:Nat} {K:(e:aU)→(xs:List e.T)→(m:Nat)→xs.length=m→aJ} {R:Exit→TS→Prop} (h:(p7 s b g K).den R):
  ∃e xs m hm,(K e xs m hm).den R∧b<s.bb∧(s.ay n).H[b]?=some ⟨g,e.jB,xs.map (cq true e)⟩:=by
 unfold p7 at h
 split at h
 ·rename_i hb
  have hb:b<s.bb:=by rw[←Nat.blt_eq];exact hb
  split at h
  ·rename_i c8 e xs m hm aQ
   obtain⟨h1,h⟩:=h
   subst h1
   exact⟨e,xs,m,hm,h,hb,by rw[q6 hb,aQ];rfl⟩
  ·exact h.elim
 ·exact h.elim
def zC (V:List ac) (ids:List Nat) (m:Nat) (i:Int):List TV:=[.i .i64 (nth V i).az,.i .i64 (nth V i).ab,.uV i ids m (nth V i).aa.length,.b (.v (nth V i).ar),.i .i64 (nth V i).au]
theorem Cd {ws:List ac} {ids:List Nat} {bs:List (List Bool)} {i:Int} (ok:mK ws ids bs) (h:i.toNat<(view ws ids bs).length):nth (view ws ids bs) i={nth ws i with aa:=bs.getD (nth ids i) []}:=by
 have aE:=jJ ok
 have h1:=gZ (xs:=ws) (i:=i) (by omega)
 have h2:=gZ (xs:=ids) (i:=i) (by have:=ok.len;omega)
 have:=wm (bs:=bs) h1 h2
 rw[gZ h] at this
 exact Option.some.inj this
theorem abM [Z:FZ] {V:List ac} {ids:List Nat} {m:Nat} {i:Int} (G:jN Z.ws ids Z.bs) (e:view Z.ws ids Z.bs=V) (h:i.toNat<V.length):(bp m Z.ws ids)[i.toNat]?=some (cC (zC V ids m i)):=by
 subst e
 have aE:=jJ G.ok
 have VI:=G.ok.len
 rw[e0 VI (by omega)]
 have hb:=G.ok.aa i.toNat _ _ (gZ (xs:=Z.ws) (i:=i) (by omega)) (gZ (xs:=ids) (i:=i) (by omega))
 unfold zC
 rw[Cd G.ok h]
 show some (k0 m (nth Z.ws i) (nth ids i))=some _
 unfold k0
 rw[hb];rfl
def E7 (P:Program) (t:TypeId) (b g m:Nat) (i:Int) (s:TS) (v:TV) (K:TV→aJ):aJ:=match v with
 | .jL c8 _ _=>(match Nat.blt b s.bb with
  | true=> .eq c8 g (.eq (rP P t) (some 5) (.p (0≤i∧i.toNat<m) (K (.ptr b g i m 0))))
  | false=> .no)
 | _=>p7 s b g fun e _ _ _=> .eq (rP P t) (some e.jB) (.p (0≤i∧i.toNat<m) (K (.ptr b g i m 0)))
def E8 (P:Program) (t:TypeId) (w:Int) (ids:List Nat) (m k:Nat) (i:Int) (s:TS) (K:TV→aJ):aJ:=match s.get dj with
 | .gy V c6 _ _=> .eq c6 ids (.eq m s.bb (.eq (rP P t) (some 1) (.p (w.toNat<V.length∧0≤i∧i.toNat<k) (K (.uU w ids m i)))))
 | _=> .no
def E9 (P:Program) (t:TypeId) (x i:TV) (s:TS) (K:TV→aJ):aJ:=match i with
 | .i _ i=>(match x with
  | .l e xs _ _=> .eq (rP P t) (some e.jB) (.p (0≤i∧i.toNat<xs.length) (K (.da e (r4 e xs i) 0)))
  | .ref b g m _=>E7 P t b g m i s (s.get (bJ b)) K
  | .uV w ids m k=>E8 P t w ids m k i s K
  | _=> .no)
 | _=> .no
def FQ (P:Program) (t:TypeId) (w:Int) (ids:List Nat) (m:Nat) (j:Int) (s:TS) (K:TV→aJ):aJ:=match s.get dj with
 | .gy V c6 _ _=> .eq c6 ids (.eq m s.bb (.p (w.toNat<V.length∧j.toNat<(nth V w).aa.length) (qg (fun _ Q=>ix P t [AV.bool (nth (nth V w).aa j)] 0 Q) K (.v (tY P t [.b (.v (nth (nth V w).aa j))] 0)))))
 | _=> .no
def FR (P:Program) (t:TypeId) (b g:Nat) (i:Int) (m c:Nat) (s:TS) (K:TV→aJ):aJ:=match s.get (bJ b) with
 | .jL c8 gY ids=>(match Nat.blt b s.bb with
  | true=>(match s.get dj with
   | .gy V c6 _ _=> .eq c8 g (.eq c6 ids (.p (i.toNat<V.length) (qg (fun _ Q=>ix P t (cC (zC V ids gY i)) c Q) K (.v (tY P t (zC V ids gY i) c)))))
   | _=> .no)
  | false=> .no)
 | .dB c8 aw=>(match Nat.blt b s.bb with
  | true=> .eq c8 g (.eq i 0 (qg (fun _ Q=>ix P t (cC aw) c Q) K (.v (tY P t aw c))))
  | false=> .no)
 | _=>p7 s b g fun e xs e3 _=> .eq e3 m (.p (i.toNat<m) (qg (fun _ Q=>ix P t (cq true e (r4 e xs i)) c Q) K (.v (tY P t (iC true e (r4 e xs i)) c))))
def G7 (P:Program) (t:TypeId) (x:TV) (lo hi:Option TV) (K:TV→aJ):aJ:=match x with
 | .l e xs _ fr=>(match lo with
  | none=>(match hi with
   | some (.i _ b)=> .eq (rP P t) (some e.jB) (.p (0≤b∧b≤(xs.length:Int)) (K (.l e (xs.take b.toNat) false fr)))
   | _=> .no)
  | some (.i _ a)=>(match hi with
   | none=> .eq (rP P t) (some e.jB) (.p (0≤a∧a≤(xs.length:Int)) (K (.l e (xs.drop a.toNat) false fr)))
   | _=> .no)
  | _=> .no)
 | _=> .no
def FS (P:Program) (t:TypeId) (x:TV) (K:TV→aJ):aJ:=match x with
 | .l _ xs _ _=> .eq (jd P t x.bq) true (K (.i .i64 xs.length))
 | .nil _ _=> .eq (jd P t x.bq) true (K (.i .i64 (0:Nat)))
 | .s z=> .eq (jd P t x.bq) true (K (.i .i64 z.size))
 | .ref _ _ m _=> .eq (jd P t x.bq) true (K (.i .i64 m))
 | .uV _ _ _ k=> .eq (jd P t x.bq) true (K (.i .i64 k))
 | _=> .no
def qX (o:Oper) (K:TV→aJ):aJ:=match o.op with
 | .move x=>oh (cx cf.n s x) K
 | .assign x=>oh (cx cf.n s x) K
 | .indexAddr t x i=>E9 P t (cx cf.n s x) (cx cf.n s i) s K
 | .load t a=>(match cx cf.n s a with
  | .ptr b g i m c=>FR P t b g i m c s K
  | .uU w ids m j=>FQ P t w ids m j s K
  | _=>qg (fun H Q=>i_ P o (fun x=>(cx cf.n s x).bq) s.cg H Q) K (gs P cf.n s o.op))
 | .slice t x lo hi mx=>(match mx with
  | none=>G7 P t (cx cf.n s x) (lo.map (cx cf.n s)) (hi.map (cx cf.n s)) K
  | some _=> .no)
 | .call c=>(match c.callee with
  | .builtin b=>(match b with
   | .len=>(match c.args.toList,c.argTypes.toList with
    | [x],[t]=>FS P t (cx cf.n s x) K
    | _,_=> .no)
   | _=> .no)
  | .value f=>(match cx cf.n s f with
   | .fn g caps=>CR cf.l_ g (c.args.toList.map (cx cf.n s)++caps) s K
   | _=> .no)
  | _=> .no)
 | .buildSlice t m ps=>vu cf.Dx t fun e=>AZ s e (ps.toList.map fun p=>cx cf.n s p.2) fun xs=>qg (fun H Q=>i_ P o (fun x=>(cx cf.n s x).bq) s.cg H Q) K (.v (Nl e xs (ps.toList.map fun p=>cx cf.n s p.2)))
 | op=>qg (fun H Q=>i_ P o (fun x=>(cx cf.n s x).bq) s.cg H Q) K (gs P cf.n s op)
end
theorem Ge {e:aU} {xs:List e.T} {i:Int} (h:i.toNat<xs.length) (fr:Bool):(xs.map (cq fr e))[i.toNat]?=some (cq fr e (r4 e xs i)):=by
 rw[List.getElem?_map]
 have:xs[i.toNat]?=some (r4 e xs i):=by
  have:= @gZ e.T e.td xs i h
  exact this
 rw[this];rfl
section
variable {P:Program} {cf:gC P} {s:TS} {R:Exit→TS→Prop} {K:TV→aJ} {Kp:AV→Prop}
theorem acf {t:TypeId} {x:TV} {lo hi:Option TV} {H:List Blk} (hK: ∀v,(K v).den R→Kp v.bq) (h:(G7 P t x lo hi K).den R):tR P t x.bq (lo.map TV.bq) (hi.map TV.bq) H Kp:=by
 unfold G7 at h
 split at h
 ·rename_i e xs de fr
  have eO: ∀{m:Nat},m=e.jB→ ∀(i:Nat) (row:List AV),(List.map (cq false e) xs)[i]?=some row→row.length=m:=fun hm i row av=>by
   rw[List.getElem?_map] at av
   cases hx:xs[i]? with
   | none=>rw[hx] at av;cases av
   | some x=>rw[hx] at av;cases av;rw[sI,hm]
  split at h
  ·split at h
   ·rename_i k b
    obtain⟨h1,h2,h⟩:=h
    obtain⟨mF,q1,q2,q3⟩:=vn h1
    refine dN q1 ?_
    rw[if_pos q2]
    refine⟨h2.1,Nat.zero_le _,by rw[List.length_map];omega,eO q3,?_⟩
    rw[List.drop_zero,Nat.sub_zero,←List.map_take];exact hK _ h
   ·exact h.elim
  ·split at h
   ·rename_i k a
    obtain⟨h1,h2,h⟩:=h
    obtain⟨mF,q1,q2,q3⟩:=vn h1
    refine dN q1 ?_
    rw[if_pos q2]
    refine⟨h2.1,by rw[List.length_map];omega,Nat.le_refl _,eO q3,?_⟩
    rw[List.take_of_length_le (by rw[List.length_drop];omega),←List.map_drop];exact hK _ h
   ·exact h.elim
  ·exact h.elim
 ·exact h.elim
end
section
variable {P:Program} {cf:gC P} {s:TS} {R:Exit→TS→Prop} {K:TV→aJ} {Kp:AV→Prop}
theorem ZB {t:TypeId} {x:TV} (hK: ∀v,(K v).den R→Kp v.bq) (h:(FS P t x K).den R):eu (jd P t x.bq) (qK x.bq Kp):=by
 unfold FS at h
 split at h
 ·obtain⟨h1,h⟩:=h
  rw[h1]
  show Kp (.int .i64 ((List.map _ _).length:Nat))
  rw[List.length_map];exact hK _ h
 ·obtain⟨h1,h⟩:=h;rw[h1];exact hK _ h
 ·obtain⟨h1,h⟩:=h;rw[h1];exact hK _ h
 ·obtain⟨h1,h⟩:=h;rw[h1];exact hK _ h
 ·obtain⟨h1,h⟩:=h;rw[h1];exact hK _ h
 ·exact h.elim
end
section
variable {P:Program} {cf:gC P} {s:TS} {R:Exit→TS→Prop} {K:TV→aJ} {Kp:AV→Prop}
theorem FY {l:List (Nat×aU)} {t:Nat} {K:aU→aJ} (h:(vu l t K).den R): ∃e,(K e).den R:=by
 induction l with
 | nil=>exact h.elim
 | cons p r bE=>
  obtain⟨k,e⟩:=p
  unfold vu at h
  split at h
  ·exact⟨e,h⟩
  ·exact bE h
end
section
variable [FZ] {P:Program} {cf:gC P} {s:TS} {R:Exit→TS→Prop} {K:TV→aJ} {Kp:AV→Prop}
variable (aH:Fits s)
theorem WE {t:TypeId} {b g m:Nat} {i:Int} {k:IntKind} {de:Bool} (hK: ∀v,(K v).den R→Kp v.bq) (h:(E7 P t b g m i s (s.get (bJ b)) K).den R):vm P t (.ref b g 0 m de) (.int k i) (s.ay cf.n).H Kp:=by
 unfold E7 at h
 split at h
 ·rename_i c8 gY ids aQ
  split at h
  ·rename_i hb
   have hb:b<s.bb:=by rw[←Nat.blt_eq];exact hb
   obtain⟨h1,h2,aM,h⟩:=h
   subst h1
   obtain⟨mF,q1,q2,q3⟩:=vn h2
   refine dN q1 ?_
   rw[if_pos q2]
   refine dN (by rw[q6 hb,aQ]) ⟨rfl,q3.symm,aM.1,by have:=aM.2;omega,?_⟩
   rw[Nat.zero_add];exact hK _ h
  ·exact h.elim
 ·obtain⟨e,xs,e3,hm,h,hb,aB⟩:=uA (n:=cf.n) h
  obtain⟨h1,h2,h⟩:=h
  obtain⟨mF,q1,q2,q3⟩:=vn h1
  refine dN q1 ?_
  rw[if_pos q2]
  refine dN aB ⟨rfl,q3.symm,h2.1,by have:=h2.2;omega,?_⟩
  rw[Nat.zero_add];exact hK _ h
include aH in
theorem DM {V:List ac} {ids:List Nat} {w:Int} {bU:Nat} {hv:V.length=bU} (hk:s.get dj= .gy V ids bU hv) (hw:w.toNat<V.length):(s.ay cf.n).H[nth ids w+s.bb]?=some (bR (nth V w).aa):=by
 obtain⟨G,e,_⟩:=aH V ids _ _ hk
 have aE:=jJ G.ok
 rw[e] at aE
 have hid:=G.ok.lt w.toNat _ (gZ (xs:=ids) (i:=w) (by have:=G.ok.len;omega))
 refine JE hk ?_
 rw[rv hid,←e,Cd G.ok (by rw[e];exact hw)]
include aH in
theorem WH {t:TypeId} {w:Int} {ids:List Nat} {m c:Nat} {i:Int} {k:IntKind} (hK: ∀v,(K v).den R→Kp v.bq) (h:(E8 P t w ids m c i s K).den R):vm P t (.ref (nth ids w+m) 0 0 c false) (.int k i) (s.ay cf.n).H Kp:=by
 unfold E8 at h
 split at h
 ·rename_i V c6 bU jZ hk
  obtain⟨h1,h2,aM,bx,h⟩:=h
  subst h1;subst h2
  obtain⟨mF,q1,q2,q3⟩:=vn aM
  refine dN q1 ?_
  rw[if_pos q2]
  refine dN (DM aH hk bx.1) ⟨rfl,q3.symm,bx.2.1,by have:=bx.2.2;omega,?_⟩
  rw[Nat.zero_add];exact hK _ h
 ·exact h.elim
include aH in
theorem WK {t:TypeId} {x i:TV} (hK: ∀v,(K v).den R→Kp v.bq) (h:(E9 P t x i s K).den R):vm P t x.bq i.bq (s.ay cf.n).H Kp:=by
 unfold E9 at h
 split at h
 ·split at h
  ·obtain⟨h1,h2,h⟩:=h
   obtain⟨mF,q1,q2,q3⟩:=vn h1
   refine dN q1 ?_
   rw[if_pos q2]
   exact⟨h2.1,dN (Ge h2.2 false) ⟨by rw[sI,q3],hK _ h⟩⟩
  ·exact WE hK h
  ·exact WH aH hK h
  ·exact h.elim
 ·exact h.elim
include aH in
theorem Zr {t:TypeId} {w:Int} {ids:List Nat} {m:Nat} {j:Int} (hK: ∀v,(K v).den R→Kp v.bq) (h:(FQ P t w ids m j s K).den R):nN P t (.ptr (nth ids w+m) 0 j.toNat 0) (s.ay cf.n).L (s.ay cf.n).H Kp:=by
 unfold FQ at h
 split at h
 ·rename_i V c6 bU jZ hk
  obtain⟨h1,h2,aM,h⟩:=h
  subst h1;subst h2
  exact dN (DM aH hk aM.1) ⟨rfl,dN (w1 aM.2) (rA [] hK h)⟩
 ·exact h.elim
include aH in
theorem Zs {t:TypeId} {b g m c:Nat} {i:Int} (hK: ∀v,(K v).den R→Kp v.bq) (h:(FR P t b g i m c s K).den R):nN P t (.ptr b g i.toNat c) (s.ay cf.n).L (s.ay cf.n).H Kp:=by
 unfold FR at h
 split at h
 ·rename_i c8 gY ids aQ
  split at h
  ·rename_i hb
   have hb:b<s.bb:=by rw[←Nat.blt_eq];exact hb
   split at h
   ·rename_i V c6 bU jZ hk
    obtain⟨h1,h2,aM,h⟩:=h
    subst h1;subst h2
    obtain⟨G,e,_⟩:=aH V c6 _ _ hk
    exact dN (by rw[q6 hb,aQ]) ⟨rfl,dN (abM G e aM) (rA [] hK h)⟩
   ·exact h.elim
  ·exact h.elim
 ·rename_i c8 aw aQ
  split at h
  ·rename_i hb
   have hb:b<s.bb:=by rw[←Nat.blt_eq];exact hb
   obtain⟨h1,h2,h⟩:=h
   subst h1;subst h2
   exact dN (by rw[q6 hb,aQ]) ⟨rfl,dN (a:=cC aw) rfl (rA [] hK h)⟩
  ·exact h.elim
 ·obtain⟨e,xs,e3,hm,h,hb,aB⟩:=uA (n:=cf.n) h
  obtain⟨h1,h2,h⟩:=h
  refine dN aB ⟨rfl,dN (Ge (by omega) true) ?_⟩
  exact rA [] hK h
include aH in
theorem OJ {o:Oper} (hK: ∀v,(K v).den R→Kp v.bq) (h:(qX cf s o K).den R):i_ P o (cb (s.ay cf.n).T) (s.ay cf.n).L (s.ay cf.n).H Kp:=by
 rw[ki]
 obtain⟨dst,op,ty,pos,after,guard⟩:=o
 unfold qX at h
 split at h
 ·rename_i x fw;cases fw;rw[ph] at h;exact hK _ h
 ·rename_i x fw;cases fw;rw[ph] at h;exact hK _ h
 ·rename_i t x i fw;cases fw;exact WK aH hK h
 ·rename_i t a fw
  cases fw
  split at h
  ·rename_i b g i m c aF
   show nN P t (cx cf.n s a).bq _ _ Kp
   rw[aF];exact Zs aH hK h
  ·rename_i w ids m j aF
   show nN P t (cx cf.n s a).bq _ _ Kp
   rw[aF];exact Zr aH hK h
  ·exact rA (F:=fun H Q=>i_ P _ _ _ H Q) _ hK h
 ·rename_i t x lo hi mx fw
  cases fw
  split at h
  ·have:=acf (H:=(s.ay cf.n).H) hK h
   show tR P t _ (lo.map _) (hi.map _) _ Kp
   rw[Option.map_map,Option.map_map] at this
   exact this
  ·exact h.elim
 ·rename_i c fw
  cases fw
  obtain⟨callee,args,argTypes⟩:=c
  split at h
  ·rename_i b hb
   cases hb
   split at h
   ·show(match args.toList,argTypes.toList with
     | [x],[t]=>eu (jd P t ((fun x=>(cx cf.n s x).bq) x)) (qK ((fun x=>(cx cf.n s x).bq) x) Kp)
     | _,_=>False)
    split at h
    ·rename_i x t h1 h2
     simp only at h1 h2
     simp only[h1,h2];exact ZB hK h
    ·exact h.elim
   ·exact h.elim
  ·rename_i f hf
   cases hf
   show kW (cx cf.n s f).bq fun g caps=>nD P g (args.toList.map (fun x=>(cx cf.n s x).bq)++caps) _ _ Kp
   split at h
   ·rename_i g caps hc
    rw[hc]
    have:=Sz (n:=cf.n) aH hK h
    rw[mQ,List.map_append,List.map_map] at this
    show nD P g (_++cC caps) _ _ Kp
    rw[mQ];exact this
   ·exact h.elim
  ·exact h.elim
 ·rename_i t m ps fw
  cases fw
  obtain⟨e,h⟩:=FY h
  obtain⟨xs,h⟩:=FX (n:=cf.n) aH h
  exact rA (F:=fun H Q=>i_ P _ _ _ H Q) _ hK h
 ·exact rA (F:=fun H Q=>i_ P _ _ _ H Q) _ hK h
end
theorem iU {n:Int} (h1: -9223372036854775808≤n) (h2:n≤9223372036854775807):IntKind.i64.wrap n=n:=by
 rw[IntKind.wrap_i64];omega
def b8 (x a b:Int):Bool:=decide (a≤x)&&decide (x≤b)
theorem xS {x a b:Int}:b8 x a b=true↔a≤x∧x≤b:=by simp[b8]
theorem hW {α:Type} [Inhabited α] {xs:List α} {i:Int} (h:i.toNat<xs.length):nth xs i=xs[i.toNat]:=by
 have:=gZ h
 rw[List.getElem?_eq_getElem h] at this
 exact(Option.some.inj this).symm
theorem eR {α:Type} [Inhabited α] {xs:List α} {i:Int} (h:i.toNat<xs.length):nth xs i∈xs:=by rw[hW h];exact List.getElem_mem h
theorem je {α:Type} [Inhabited α] {xs:List α} {i:Nat} (h:i<xs.length):nth xs (i:Int)=xs[i]:=by rw[hW (by simpa using h)];simp
def first {α:Type} (xs:List α) (p:α→Bool):Option Nat:=xs.findIdx? p
theorem TL {α:Type} {xs:List α} {p:α→Bool} (h: ∀x∈xs,p x=false):first xs p=none:=by
 unfold first;rw[List.findIdx?_eq_none_iff];exact h
theorem TM {α:Type} [Inhabited α] {xs:List α} {p:α→Bool} {i:Int} (h: ∀x∈xs.take i.toNat,p x=false) (hi:i.toNat<xs.length) (ai:p (nth xs i)=true):first xs p=some i.toNat:=by
 unfold first
 rw[List.findIdx?_eq_some_iff_getElem]
 refine⟨hi,by rw[←hW hi];exact ai,fun j ap=> ?_⟩
 have:=h xs[j] (by rw[List.mem_take_iff_getElem];exact⟨j,by omega,rfl⟩)
 simp[this]
def Bh (o:Option Nat):Int:=match o with
 | some i=>i
 | none=> -1
def mu (xs:List Int) (v:Int):Int:=Bh (first xs (fun x=>v==x))
def fv (xs:List Int) (v:Int):Bool:=xs.contains v
def qE (xs:List Bool) (v:Bool):Int:=Bh (first xs (fun x=>v==x))
def ja (xs:List Bool) (v:Bool):Bool:=xs.contains v
def ak {α:Type} (x:α):α:=x
def meets (a b:List Int):Bool:=a.any fun x=>b.contains x
def dup (l:List Int):Bool:= !decide l.Nodup
def bS (w:Way):List cr:=w.a1++w.bP
def gO (l:List Int) (n:Int):Bool:=decide (l.length≤30)&&l.all (fun x=>b8 x 0 (n - 1))&&decide l.Nodup
def kE (p:aK) (l:List cr):Bool:=decide (l.length≤30)&&l.all (fun x=>b8 x.be 0 (p.bd.length - 1)&&b8 x.bO 1 2)&&decide (l.map (·.be)).Nodup
def hA (p:aK) (w:Way):Bool:=
 decide (w.ad≠[])&&gO w.ad p.ad&&gO w.b4 p.ad&&gO w.dv p.ad&&kE p w.a1&&kE p w.bP&&
 decide ((bS w).map (·.be)).Nodup&&w.a1.all (fun x=>w.ad.contains (nth p.bd x.be))&& !meets w.ad w.b4
def rk (p:aK) (i k:Nat):Bool:=nth (nth p.bt i) k
def n9 (p:aK) (i k:Nat):Bool:=(rk p i k !=rk p k i) || (decide (i≠k)&& !rk p i k&&meets (nth p.O i).ad (nth p.O k).ad)
def nV (p:aK):ij:=if p.bt.length=p.O.length then
  match first p.bt (fun b=>decide (b.length≠p.O.length)) with
  | some k=>⟨4,k⟩
  | none=>match first (List.range p.O.length) (fun i=>(List.range p.O.length).any fun k=>n9 p i k) with
   | some k=>⟨5,k⟩
   | none=>⟨0,0⟩
 else⟨4,0⟩
def vL (p:aK):ij:=match first p.O (fun w=> !hA p w) with
 | some k=>⟨3,k⟩
 | none=>nV p
def vK (p:aK):ij:=match first p.bd (fun s=> !b8 s 0 (p.ad - 1)) with
 | some k=>⟨2,k⟩
 | none=>vL p
def ht (p:aK):ij:=if b8 p.ad 1 60&&b8 p.cS 1 300&&decide (p.bd.length≤40)&&decide (p.O.length≤100) then vK p else⟨1,0⟩
def gp (p:aK):Bool:=decide (ht p=⟨0,0⟩)
def eQ (n:Nat) (left:Int):Int:=if left<n then -1 else left - n
def q_ (w:Way):Nat:=w.ad.length+w.a1.length+w.bP.length+w.b4.length+w.dv.length
def wu (ws:List Way):Nat:=ws.length+(ws.map q_).sum
def sD (bs:List (List Bool)):Nat:=bs.length+(bs.map List.length).sum
def kk (p:aK):Nat:=p.bd.length+wu p.O+sD p.bt
def sX (ws:List ac):Nat:=ws.length+(ws.map fun h=>h.aa.length).sum
def oi (f:Frame):Nat:=f.aC.length+f.aq.length+sX f.O
theorem Nf {n m:Nat} {left:Int} (aI:0≤left):eQ (n+m) left=if eQ n left<0 then -1 else eQ m (eQ n left):=by
 unfold eQ
 split<;>split<;>(try split)<;>(try split)<;>omega
def ci {α:Type} (a:List α) (left:Int):Int:=eQ a.length left
def pR (w:Way) (left:Int):Int:=eQ (q_ w) left
def oX (w:List Way) (left:Int):Int:=eQ (wu w) left
def sh (w:List (List Bool)) (left:Int):Int:=eQ (sD w) left
def oW (p:aK) (left:Int):Int:=eQ (kk p) left
def pQ (h:ac) (left:Int):Int:=eQ h.aa.length left
def si (h:List ac) (left:Int):Int:=eQ (sX h) left
def q7 (f:Frame) (left:Int):Int:=eQ (oi f) left
def fJ {α:Type} (a:α) (left:Int):Prop:=0≤left∧left≤1048576
def small {α:Type} (a:List α):Prop:=a.length≤1048576
def yK (w:Way):Prop:=q_ w≤1048576
def BW (w:List Way):Prop:=wu w≤1048576
def BT (w:List (List Bool)):Prop:=sD w≤1048576
def Ha (p:aK):Prop:=kk p≤1048576
def eqv {α:Type} [DecidableEq α] (a b:α):Bool:=decide (a=b)
def p0 {α:Type} (a:α):Bool:=true
def yh (l:List Int) (n:Int):Prop:= -9223372036854775808<n∧n≤9223372036854775807
def Gt (p:aK) (w:Way):Prop:= -9223372036854775808<p.ad∧p.ad≤9223372036854775807
def yi (w:Way):Prop:=w.a1.length≤1048576∧w.bP.length≤1048576
def pf {α β:Type} (a:List α) (f:α→β) (d:β) (i:Int):List β:=(a.take i.toNat).map f++List.replicate (a.length - i.toNat) d
theorem TH {α β:Type} (a:List α) (f:α→β) (d:β):pf a f d 0=List.replicate a.length d:=by simp[pf]
theorem DO {α β:Type} {a:List α} {f:α→β} {d:β} {i:Int} (h:i≤a.length):(pf a f d i).length=a.length:=by
 simp[pf];omega
theorem TI {α β:Type} [Inhabited α] {a:List α} {f:α→β} {d:β} {i:Int} (aI:0≤i) (h:i.toNat<a.length):(pf a f d i).set i.toNat (f (nth a i))=pf a f d (i+1):=by
 unfold pf
 rw[show(i+1).toNat=i.toNat+1 by omega,List.take_succ_eq_append_getElem h,List.set_append_right _ _ (by simp;omega)]
 have:List.replicate (a.length - i.toNat) d=d::List.replicate (a.length - (i.toNat+1)) d:=by
  rw[←List.replicate_succ];congr 1;omega
 rw[this,hW h]
 have aE:((a.take i.toNat).map f).length=i.toNat:=by simp;omega
 rw[aE]
 simp
 rw[←List.map_take,←List.map_take,List.take_succ_eq_append_getElem h,List.map_append]
 simp
theorem TG {α β:Type} {a:List α} {f:α→β} {d:β} {i:Int} (h:(a.length:Int)≤i):pf a f d i=a.map f:=by
 unfold pf
 rw[List.take_of_length_le (by omega),show a.length - i.toNat=0 by omega]
 simp
def cv (N:Int) (p:Int→Bool) (v:Int):Prop:=0≤v∧v≤N∧ ∀j:Int,0≤j→j<v→p j=false
def cK (N:Int) (v:Int):Nat:=(N - v).toNat
theorem dt {N:Int} {p:Int→Bool} (h:0≤N):cv N p 0:=⟨Int.le_refl _,h,fun j aI h1=>by omega⟩
theorem mJ {N v:Int} (ao:N≤4611686018427387904) (aI:0≤v) (hv:v<N):IntKind.i64.wrap (v+1)=v+1:=iU (by omega) (by omega)
theorem dl {N v:Int} {p:Int→Bool} (ao:N≤4611686018427387904) (h:cv N p v) (hv:decide (v<N)=true) (ai:p v=false):cv N p (IntKind.i64.wrap (v+1))∧cK N (IntKind.i64.wrap (v+1))<cK N v:=by
 obtain⟨aI,h1,h2⟩:=h
 have hv:v<N:=by simpa using hv
 rw[mJ ao aI hv]
 refine⟨⟨by omega,by omega,fun j b_ ef=> ?_⟩,by unfold cK;omega⟩
 rcases Int.lt_or_eq_of_le (show j≤v by omega) with aE | rfl
 ·exact h2 j b_ aE
 ·exact ai
theorem gr {N v:Int} {p:Int→Bool} (h:cv N p v) (hv:decide (v<N)=false): ∀j:Int,0≤j→j<N→p j=false:=by
 obtain⟨aI,h1,h2⟩:=h
 have hv: ¬v<N:=by simpa using hv
 exact fun j b_ ef=>h2 j b_ (by omega)
theorem cG {α:Type} {xs:List α} {v:Int} {p:Int→Bool} (h:cv xs.length p v) (hv:decide (v<(xs.length:Int))=true):0≤v∧v.toNat<xs.length:=by
 have hv:v<(xs.length:Int):=by simpa using hv
 exact⟨h.1,by have:=h.1;omega⟩
theorem c_ {α:Type} {xs:List α} (h:xs.length≤4611686018427387904):(xs.length:Int)≤4611686018427387904:=by omega
theorem df {α:Type} (xs:List α):0≤(xs.length:Int):=by omega
theorem lB {α:Type} [Inhabited α] {xs:List α} {q:α→Bool} (h: ∀j:Int,0≤j→j<xs.length→q (nth xs j)=false): ∀x∈xs,q x=false:=fun x hx=>by
 obtain⟨i,hi,rfl⟩:=List.mem_iff_getElem.1 hx
 have:=h i (by omega) (by omega)
 rwa [je hi] at this
theorem oZ {α:Type} [Inhabited α] {xs:List α} {q:α→Bool} {v:Int} (h:cv xs.length (fun j=>q (nth xs j)) v) (hv:decide (v<(xs.length:Int))=true) (ai:q (nth xs v)=true):first xs q=some v.toNat:=by
 have hi:=cG h hv
 refine TM (fun x hx=> ?_) hi.2 ai
 obtain⟨i,gE,rfl⟩:=List.mem_take_iff_getElem.1 hx
 have:q (nth xs (i:Int))=false:=h.2.2 i (by omega) (by omega)
 rwa [je (by omega)] at this
theorem o0 {α:Type} [Inhabited α] {xs:List α} {q:α→Bool} {v:Int} (h:cv xs.length (fun j=>q (nth xs j)) v) (hv:decide (v<(xs.length:Int))=false):first xs q=none:=
 TL (lB (gr h hv))
theorem Cb {α:Type} [Inhabited α] {xs:List α} {q:α→Bool} {v:Int} (h:cv xs.length (fun j=>q (nth xs j)) v) (hv:decide (v<(xs.length:Int))=true) (ai:q (nth xs v)=true):xs.any q=true:=by
 rw[List.any_eq_true];exact⟨_,eR (cG h hv).2,ai⟩
theorem yX {α:Type} [Inhabited α] {xs:List α} {q:α→Bool} {v:Int} (h:cv xs.length (fun j=>q (nth xs j)) v) (hv:decide (v<(xs.length:Int))=false):xs.any q=false:=by
 rw[List.any_eq_false]
 intro x hx
 rw[lB (gr h hv) x hx];simp
theorem not_eq {b:Bool} (h:(!b)=true):b=false:=by simpa using h
theorem GZ {α:Type} [Inhabited α] {a b:List α} (aE:a.length=b.length) (h: ∀j:Int,0≤j→j<a.length→nth a j=nth b j):a=b:=by
 apply List.ext_getElem aE
 intro i h1 h2
 have:=h i (by omega) (by omega)
 rwa [je h1,je h2] at this
theorem pe {α:Type} [Inhabited α] [DecidableEq α] {a b:List α} {ne:Int→Bool} (bY: ∀v,ne v=true↔nth a v≠nth b v):
  ((a.length≤4611686018427387904)∧(b.length≤4611686018427387904)→((a.length:Int) !=(b.length:Int))=true→false=eqv a b)∧((a.length≤4611686018427387904)∧(b.length≤4611686018427387904)∧((!((a.length:Int) !=(b.length:Int)))=true)→
   cv a.length ne 0∧ ∀(v:Int),cv a.length ne v→(((decide (v<(a.length:Int)))=false→true=eqv a b)∧((decide (v<(a.length:Int)))=true→(((0≤v∧v.toNat<a.length)∧(0≤v∧v.toNat<b.length))∧((ne v)=true→false=eqv a b))∧
    ((!(ne v))=true→cv a.length ne (IntKind.i64.wrap (v+1))∧cK a.length (IntKind.i64.wrap (v+1))<cK a.length v)))):=by
 refine⟨fun _ h=> ?_,fun⟨h1,h2,aM⟩=> ?_⟩
 ·have:a≠b:=fun e=>by subst e;simp at h
  simp[eqv,this]
 ·have aE:a.length=b.length:=by have:(a.length:Int)=b.length:=by simpa using aM
                                omega
  refine⟨dt (df a),fun v a_=>⟨fun hv=> ?_,fun hv=>⟨⟨⟨cG a_ hv,by rw[←aE];exact cG a_ hv⟩,fun ao=> ?_⟩,fun ao=>dl (c_ h1) a_ hv (not_eq ao)⟩⟩⟩
  ·have:a=b:=GZ aE fun j b_ ef=>by
    have af:=gr a_ hv j b_ ef
    by_cases he:nth a j=nth b j
    ·exact he
    ·rw[(bY j).2 he] at af;cases af
   simp[eqv,this]
  ·have:a≠b:=fun e=>(bY v).1 ao (by rw[e])
   simp[eqv,this]
def mY {α β:Type} (a:List α) (f:α→β) (d:β) (x:List β) (v:Int):Prop:=0≤v∧v≤a.length∧x=pf a f d v
def nG {α β:Type} (a:List α) (x:List β) (v:Int):Nat:=(a.length - v).toNat
theorem z1 {α β:Type} [Inhabited α] {a:List α} {f:α→β} {d:β} {ae:List β} {φ:Int→Prop} (hs:a.length≤4611686018427387904) (av:a.map f=ae) (ep: ∀v:Int,0≤v→v.toNat<a.length→φ v):
  mY a f d (List.replicate (a.length:Int).toNat d) 0∧ ∀(x:List β) (v:Int),mY a f d x v→(((decide (v<(a.length:Int)))=false→x.length≤4611686018427387904∧x=ae)∧((decide (v<(a.length:Int)))=true→((0≤v∧v.toNat<a.length)∧(φ v∧((0≤v∧v.toNat<x.length)∧v.toNat<x.length)))∧
   (mY a f d (x.set v.toNat (f (nth a v))) (IntKind.i64.wrap (v+1))∧nG a (x.set v.toNat (f (nth a v))) (IntKind.i64.wrap (v+1))<nG a x v))):=by
 refine⟨⟨Int.le_refl _,df a,by rw[TH];simp⟩,fun x v ⟨aI,h1,hx⟩=>⟨fun hv=> ?_,fun hv=> ?_⟩⟩
 ·have hv: ¬v<(a.length:Int):=by simpa using hv
  subst hx
  exact⟨by rw[DO h1];exact hs,by rw[TG (by omega)];exact av⟩
 ·have hv:v<(a.length:Int):=by simpa using hv
  have aX:v.toNat<a.length:=by omega
  subst hx
  refine⟨⟨⟨aI,aX⟩,ep v aI aX,⟨aI,by rw[DO h1];exact aX⟩,by rw[DO h1];exact aX⟩,?_⟩
  rw[mJ (c_ hs) aI hv]
  exact⟨⟨by omega,by omega,TI aI aX⟩,by unfold nG;omega⟩
theorem z6 {α β:Type} [Inhabited α] {a:List α} {f:α→β} {d:β} {ae:List β} (hs:a.length≤4611686018427387904) (av:a.map f=ae):
  mY a f d (List.replicate (a.length:Int).toNat d) 0∧ ∀(x:List β) (v:Int),mY a f d x v→(((decide (v<(a.length:Int)))=false→x.length≤4611686018427387904∧x=ae)∧((decide (v<(a.length:Int)))=true→((0≤v∧v.toNat<a.length)∧((0≤v∧v.toNat<x.length)∧v.toNat<x.length))∧
   (mY a f d (x.set v.toNat (f (nth a v))) (IntKind.i64.wrap (v+1))∧nG a (x.set v.toNat (f (nth a v))) (IntKind.i64.wrap (v+1))<nG a x v))):=by
 obtain⟨h1,h2⟩:=z1 (φ:=fun _=>True) (d:=d) hs av fun _ _ _=>trivial
 exact⟨h1,fun x v a_=>⟨(h2 x v a_).1,fun hv=>⟨⟨((h2 x v a_).2 hv).1.1,((h2 x v a_).2 hv).1.2.2⟩,((h2 x v a_).2 hv).2⟩⟩⟩
theorem Nh {n:Nat} {left:Int} (aI:0≤left) (h1:left≤1048576) (h: ¬eQ n left<0):0≤eQ n left∧eQ n left≤1048576:=by
 refine⟨by omega,?_⟩
 unfold eQ at h ⊢
 split<;>omega
theorem Ng {n m:Nat} {left:Int} (aI:0≤left) (h:eQ n left<0):eQ (n+m) left= -1:=by
 rw[Nf aI,if_pos h]
theorem qL {n m:Nat} {left:Int} (aI:0≤left) (h: ¬eQ n left<0):eQ m (eQ n left)=eQ (n+m) left:=by
 rw[Nf aI,if_neg h]
theorem Q5 {α:Type} {xs:List α} {left:Int} (ao:xs.length≤4611686018427387904) (h:0≤left∧left≤1048576):IntKind.i64.wrap (left - (xs.length:Int))=left - xs.length:=iU (by omega) (by omega)
theorem B4 {α:Type} {a:List α} {left:Int} (ai:0≤left∧left≤1048576) (ao:a.length≤4611686018427387904):
  ((decide ((IntKind.i64.wrap (left - (a.length:Int)))<0))=true→(-1)=ci a left)∧((!(decide ((IntKind.i64.wrap (left - (a.length:Int)))<0)))=true→(IntKind.i64.wrap (left - (a.length:Int)))=ci a left):=by
 rw[Q5 ao ai]
 unfold ci eQ
 constructor<;>intro h<;>split<;>simp_all<;>omega
def wi {α:Type} (a:List α) (f:α→Nat) (Zv:Int) (left v:Int):Prop:=0≤v∧v≤a.length∧0≤left∧left≤1048576∧left=eQ (a.length+((a.take v.toNat).map f).sum) Zv
def wj {α:Type} (a:List α) (left v:Int):Nat:=(a.length - v).toNat
theorem HL {α:Type} [Inhabited α] {a:List α} {f:α→Nat} {g:α→Int→Int} {left:Int} (aQ: ∀x l,g x l=eQ (f x) l) (ai:0≤left∧left≤1048576) (ao:a.length≤4611686018427387904):
  ((decide ((IntKind.i64.wrap (left - (a.length:Int)))<0))=true→(-1)=eQ (a.length+(a.map f).sum) left)∧((!(decide ((IntKind.i64.wrap (left - (a.length:Int)))<0)))=true→
   wi a f left (IntKind.i64.wrap (left - (a.length:Int))) 0∧ ∀(w:Int) (v:Int),wi a f left w v→(((decide (v<(a.length:Int)))=false→w=eQ (a.length+(a.map f).sum) left)∧((decide (v<(a.length:Int)))=true→
    (((0≤v∧v.toNat<a.length)∧(fJ (nth a v) w))∧((decide ((g (nth a v) w)<0))=true→(-1)=eQ (a.length+(a.map f).sum) left))∧((!(decide ((g (nth a v) w)<0)))=true→wi a f left (g (nth a v) w) (IntKind.i64.wrap (v+1))∧wj a (g (nth a v) w) (IntKind.i64.wrap (v+1))<wj a w v)))):=by
 rw[Q5 ao ai]
 refine⟨fun h=> ?_,fun h=>⟨⟨Int.le_refl _,df a,?_⟩,fun w v ⟨v0,v1,aP,bz,hw⟩=>⟨fun hv=> ?_,fun hv=> ?_⟩⟩⟩
 ·have h:left - a.length<0:=by simpa using h
  unfold eQ;rw[if_pos (by omega)]
 ·have h: ¬left - a.length<0:=by simpa using h
  refine⟨by omega,by omega,?_⟩
  simp only[Int.toNat_zero,List.take_zero,List.map_nil,List.sum_nil,Nat.add_zero]
  unfold eQ;rw[if_neg (by omega)]
 ·have hv: ¬v<(a.length:Int):=by simpa using hv
  rw[hw,List.take_of_length_le (by omega)]
 ·have hv:v<(a.length:Int):=by simpa using hv
  have aX:v.toNat<a.length:=by omega
  have hs:((a.take (v+1).toNat).map f).sum=((a.take v.toNat).map f).sum+f (nth a v):=by
   rw[show(v+1).toNat=v.toNat+1 by omega,List.take_succ_eq_append_getElem aX,List.map_append,List.sum_append,hW aX];simp
  have qs: ¬eQ (a.length+((a.take v.toNat).map f).sum) left<0:=by omega
  have fg:g (nth a v) w=eQ (a.length+((a.take (v+1).toNat).map f).sum) left:=by
   rw[aQ,hw,qL ai.1 qs,hs,Nat.add_assoc]
  refine⟨⟨⟨⟨v0,aX⟩,aP,bz⟩,fun h=> ?_⟩,fun h=> ?_⟩
  ·have h:g (nth a v) w<0:=by simpa using h
   rw[fg] at h
   have aZ:(a.map f).sum=((a.take (v+1).toNat).map f).sum+((a.drop (v+1).toNat).map f).sum:=by
    rw[←List.sum_append,←List.map_append,List.take_append_drop]
   rw[aZ,←Nat.add_assoc,Ng ai.1 h]
  ·have h: ¬g (nth a v) w<0:=by simpa using h
   rw[mJ (c_ ao) v0 hv]
   have:=Nh ai.1 ai.2 (fg▸h)
   refine⟨⟨by omega,by omega,by rw[fg];exact this.1,by rw[fg];exact this.2,fg⟩,by unfold wj;omega⟩
theorem n0 {n m T:Nat} {left:Int} {R:Prop} (ai:0≤left∧left≤1048576) (cc:T=n+m) (h: ¬eQ n left<0→0≤eQ n left∧eQ n left≤1048576→R):
  ((decide (eQ n left<0))=true→(-1)=eQ T left)∧((!(decide (eQ n left<0)))=true→R):=by
 refine⟨fun aZ=> ?_,fun aZ=> ?_⟩
 ·have aZ:eQ n left<0:=by simpa using aZ
  rw[cc,Ng ai.1 aZ]
 ·have aZ: ¬eQ n left<0:=by simpa using aZ
  exact h aZ (Nh ai.1 ai.2 aZ)
theorem x2 {α:Type} (l:List α):l.map ak=ak l:=by
 show l.map (fun x=>x)=l
 simp
theorem x4 {α:Type} (f:α→Nat) {x:α}: ∀{l:List α},x∈l→f x≤(l.map f).sum
 | [],h=>by cases h
 | y::l,h=>by
  rw[List.map_cons,List.sum_cons]
  rcases List.mem_cons.1 h with rfl | h
  ·omega
  ·have:=x4 f h;omega
theorem sP {xs:List Int} {x:Int}:fv xs x=true↔x∈xs:=by unfold fv;simp
theorem Vd {xs:List Int} {x k:Int} (hk:k.toNat<xs.length) (h:(x==nth xs k)=true):fv xs x=true:=by
 rw[sP,show x=nth xs k by simpa using h];exact eR hk
theorem Vb {xs:List Int} {x:Int} (h: ∀j:Int,0≤j→j<xs.length→(x==nth xs j)=false):fv xs x=false:=by
 rw[←Bool.not_eq_true,sP]
 intro hm
 have:=lB (q:=fun y=>x==y) h x hm
 simp at this
theorem WI (xs:List Int) (x:Int):(decide (mu xs x ≥ 0))=fv xs x:=by
 unfold mu
 cases h:first xs (fun y=>x==y) with
 | none=>
  unfold first at h
  rw[List.findIdx?_eq_none_iff] at h
  have:fv xs x=false:=by
   rw[←Bool.not_eq_true,sP]
   intro hm
   have:=h x hm
   simp at this
  rw[this];rfl
 | some i=>
  unfold first at h
  rw[List.findIdx?_eq_some_iff_getElem] at h
  obtain⟨hi,ai,_⟩:=h
  have:fv xs x=true:=by rw[sP,show x=xs[i] by simpa using ai];exact List.getElem_mem hi
  rw[this]
  show decide ((i:Int) ≥ 0)=true
  simp
theorem Th {xs:List Int} {v:Int} (aI:0≤v) (hv:v.toNat<xs.length) (h:fv (xs.take v.toNat) (nth xs v)=true):dup xs=true:=by
 rw[sP] at h
 unfold dup
 simp only[Bool.not_eq_true',decide_eq_false_iff_not]
 intro ao
 obtain⟨i,hi,he⟩:=List.mem_take_iff_getElem.1 h
 rw[hW hv] at he
 exact(List.pairwise_iff_getElem.1 ao) i v.toNat (by omega) hv (by omega) he
theorem Jk {xs:List Int} (h: ∀j:Int,0≤j→j<xs.length→fv (xs.take j.toNat) (nth xs j)=false):dup xs=false:=by
 unfold dup
 simp only[Bool.not_eq_false',decide_eq_true_eq]
 unfold List.Nodup
 rw[List.pairwise_iff_getElem]
 intro i j hi ap aX he
 have:=h j (by omega) (by omega)
 rw[←Bool.not_eq_true,sP,je ap] at this
 exact this (by rw[List.mem_take_iff_getElem];exact⟨i,by omega,he⟩)
theorem GP (x n:Int):(decide (x<0) || decide (x ≥ n))= !b8 x 0 (n - 1):=by
 rw[Bool.eq_iff_iff]
 simp[b8]
 omega
theorem ND {α:Type} {l:List α} (k:Nat):decide ((l.length:Int)≤(k:Int))=decide (l.length≤k):=decide_eq_decide.2 (by omega)
theorem aaq {α:Type} [Inhabited α] {β:Type} [DecidableEq β] {l:List α} {f:α→β} (h: ∀i j:Int,0≤i→i<j→j<l.length→f (nth l i)≠f (nth l j)):(l.map f).Nodup:=by
 unfold List.Nodup
 rw[List.pairwise_iff_getElem]
 intro i j hi ap aX
 simp only[List.length_map] at hi ap
 rw[List.getElem_map,List.getElem_map]
 have:=h i j (by omega) (by omega) (by omega)
 rwa [je hi,je ap] at this
theorem NK {α:Type} [Inhabited α] {β:Type} [DecidableEq β] {l:List α} {f:α→β} {i j:Int} (aI:0≤i) (h1:i<j) (h2:j<l.length) (he:f (nth l i)=f (nth l j)): ¬(l.map f).Nodup:=by
 intro ao
 have:=(List.pairwise_iff_getElem.1 ao) i.toNat j.toNat (by simp;omega) (by simp;omega) (by omega)
 rw[List.getElem_map,List.getElem_map,←hW (by omega),←hW (by omega)] at this
 exact this he
theorem map_id' {α:Type} (l:List α):l.map (fun x=>x)=l:=by simp
theorem ti {l:List Int} {n:Int}:gO l n=true↔l.length≤30∧(∀x∈l,b8 x 0 (n - 1)=true)∧l.Nodup:=by
 unfold gO;simp[and_assoc]
theorem ZK {l:List Int} {n:Int} (h: ∀j:Int,0≤j→j<l.length→(!b8 (nth l j) 0 (n - 1) || fv (l.take j.toNat) (nth l j))=false):gO l n=decide (l.length≤30):=by
 have h1: ∀x∈l,b8 x 0 (n - 1)=true:=fun x hx=>by
  have:=lB (q:=fun x=> !b8 x 0 (n - 1)) (fun j b_ ef=>(Bool.or_eq_false_iff.1 (h j b_ ef)).1) x hx
  simpa using this
 have h2:dup l=false:=Jk fun j b_ ef=>(Bool.or_eq_false_iff.1 (h j b_ ef)).2
 have h2:l.Nodup:=by unfold dup at h2;simpa using h2
 rw[Bool.eq_iff_iff,ti]
 simp only[decide_eq_true_eq]
 exact⟨fun h=>h.1,fun h=>⟨h,h1,h2⟩⟩
theorem Nk {l:List Int} {n:Int} {v:Int} (hv:v.toNat<l.length) (h:(!b8 (nth l v) 0 (n - 1))=true):gO l n=false:=by
 rw[←Bool.not_eq_true,ti]
 intro bD
 have:=bD.2.1 _ (eR hv)
 simp[this] at h
theorem ZJ {l:List Int} {n:Int} {i j:Int} (aI:0≤i) (h1:i<j) (h2:j<l.length) (he:(nth l i==nth l j)=true):gO l n=false:=by
 rw[←Bool.not_eq_true,ti]
 intro bD
 have:=NK (f:=fun x=>x) aI h1 h2 (by simpa using he)
 rw[map_id'] at this
 exact this bD.2.2
theorem Vc {l:List Int} {v:Int} (aI:0≤v) (hv:v<l.length) (h: ∀j:Int,0≤j→j<v→(nth l j==nth l v)=false):fv (l.take v.toNat) (nth l v)=false:=by
 rw[←Bool.not_eq_true,sP]
 intro hm
 obtain⟨i,hi,he⟩:=List.mem_take_iff_getElem.1 hm
 have:=h i (by omega) (by omega)
 rw[je (by omega),he] at this
 simp at this
theorem mv {p:aK} {l:List cr}:kE p l=true↔l.length≤30∧(∀x∈l,(b8 x.be 0 (p.bd.length - 1)&&b8 x.bO 1 2)=true)∧(l.map (·.be)).Nodup:=by
 unfold kE;simp[and_assoc]
def nO (p:aK) (x:cr):Bool:=(!b8 x.be 0 (p.bd.length - 1)) || (!b8 x.bO 1 2)
theorem xW (p:aK) (x:cr):nO p x= !(b8 x.be 0 (p.bd.length - 1)&&b8 x.bO 1 2):=by unfold nO;rw[Bool.not_and]
def xX (l:List cr) (j:Int):Bool:=(l.take j.toNat).any fun y=>y.be==(nth l j).be
theorem ZH {p:aK} {l:List cr} (h: ∀j:Int,0≤j→j<l.length→(nO p (nth l j) || xX l j)=false):kE p l=decide (l.length≤30):=by
 have h1: ∀x∈l,(b8 x.be 0 (p.bd.length - 1)&&b8 x.bO 1 2)=true:=fun x hx=>by
  have:=lB (q:=nO p) (fun j b_ ef=>(Bool.or_eq_false_iff.1 (h j b_ ef)).1) x hx
  rw[xW] at this
  simpa using this
 have h2:(l.map (·.be)).Nodup   :=aaq fun i j aI h1 ap=>by
  have:=(Bool.or_eq_false_iff.1 (h j (by omega) ap)).2
  unfold xX at this
  rw[List.any_eq_false] at this
  have:=this (nth l i) (by rw[hW (by omega)];exact List.mem_take_iff_getElem.2 ⟨i.toNat,by omega,rfl⟩)
  simpa using this
 rw[Bool.eq_iff_iff,mv]
 simp only[decide_eq_true_eq]
 exact⟨fun h=>h.1,fun h=>⟨h,h1,h2⟩⟩
theorem ZI {p:aK} {l:List cr} {v:Int} (hv:v.toNat<l.length) (h:nO p (nth l v)=true):kE p l=false:=by
 rw[←Bool.not_eq_true,mv]
 intro bD
 rw[xW,bD.2.1 _ (eR hv)] at h
 cases h
theorem ZG {p:aK} {l:List cr} {i j:Int} (aI:0≤i) (h1:i<j) (h2:j<l.length) (he:((nth l i).be==(nth l j).be)=true):kE p l=false:=by
 rw[←Bool.not_eq_true,mv]
 exact fun bD=>NK (f:=fun x:cr=>x.be) aI h1 h2 (by simpa using he) bD.2.2
theorem ZE {l:List cr} {v:Int} (aI:0≤v) (hv:v<l.length) (h: ∀j:Int,0≤j→j<v→((nth l j).be==(nth l v).be)=false):xX l v=false:=by
 unfold xX
 rw[List.any_eq_false]
 intro y ba
 obtain⟨i,hi,rfl⟩:=List.mem_take_iff_getElem.1 ba
 have:=h i (by omega) (by omega)
 rw[je (by omega)] at this
 rw[this];simp
theorem Z1 (a b:List Int):meets a b=meets b a:=by
 unfold meets
 rw[Bool.eq_iff_iff]
 simp only[List.any_eq_true,List.contains_iff_mem]
 exact⟨fun⟨x,h1,h2⟩=>⟨x,h2,h1⟩,fun⟨x,h1,h2⟩=>⟨x,h2,h1⟩⟩
theorem vv (x:Int) (b:List Int):meets [x] b=b.contains x:=by unfold meets;simp
theorem n6 {p:aK} {w:Way}:hA p w=true↔w.ad≠[]∧gO w.ad p.ad=true∧gO w.b4 p.ad=true∧gO w.dv p.ad=true∧kE p w.a1=true∧kE p w.bP=true∧
  ((bS w).map (·.be)).Nodup∧(∀x∈w.a1,w.ad.contains (nth p.bd x.be)=true)∧meets w.ad w.b4=false:=by
 unfold hA;simp[and_assoc]
theorem Ga {w:Way}:((bS w).map (·.be)).Nodup↔(w.a1.map (·.be)).Nodup∧(w.bP.map (·.be)).Nodup∧ ∀x∈w.a1,∀y∈w.bP,x.be≠y.be:=by
 unfold bS
 rw[List.map_append,List.nodup_append]
 simp only[List.mem_map]
 constructor
 ·rintro⟨h1,h2,aM⟩;exact⟨h1,h2,fun x hx y ba=>aM _ ⟨x,hx,rfl⟩ _ ⟨y,ba,rfl⟩⟩
 ·rintro⟨h1,h2,aM⟩
  refine⟨h1,h2,?_⟩
  rintro a ⟨x,hx,rfl⟩ b ⟨y,ba,rfl⟩
  exact aM x hx y ba
def kj (p:aK):Bool:=b8 p.ad 1 60&&b8 p.cS 1 300&&decide (p.bd.length≤40)&&decide (p.O.length≤100)
theorem Gp {p:aK} (h:kj p=false):ht p=⟨1,0⟩:=by
 unfold ht;unfold kj at h;rw[if_neg (by rw[h];simp)]
theorem Gq {p:aK} (h:kj p=true):ht p=vK p:=by
 unfold ht;unfold kj at h;rw[if_pos h]
theorem Ob {p:aK} {k:Nat} (hb:kj p=true) (h:first p.bd (fun s=> !b8 s 0 (p.ad - 1))=some k):ht p=⟨2,k⟩:=by rw[Gq hb];unfold vK;rw[h]
theorem Oe {p:aK} (hb:kj p=true) (h:first p.bd (fun s=> !b8 s 0 (p.ad - 1))=none):ht p=vL p:=by rw[Gq hb];unfold vK;rw[h]
theorem Oc {p:aK} {k:Nat} (hb:kj p=true) (h:first p.bd (fun s=> !b8 s 0 (p.ad - 1))=none) (hw:first p.O (fun w=> !hA p w)=some k):ht p=⟨3,k⟩:=by rw[Oe hb h];unfold vL;rw[hw]
theorem Od {p:aK} (hb:kj p=true) (h:first p.bd (fun s=> !b8 s 0 (p.ad - 1))=none) (hw:first p.O (fun w=> !hA p w)=none):ht p=nV p:=by rw[Oe hb h];unfold vL;rw[hw]
theorem Oa {p:aK} (h:p.bt.length≠p.O.length):nV p=⟨4,0⟩:=by unfold nV;rw[if_neg h]
theorem N9 {p:aK} {k:Nat} (h:p.bt.length=p.O.length) (hb:first p.bt (fun b=>decide (b.length≠p.O.length))=some k):nV p=⟨4,k⟩:=by unfold nV;rw[if_pos h,hb]
theorem N_ {p:aK} {k:Nat} (h:p.bt.length=p.O.length) (hb:first p.bt (fun b=>decide (b.length≠p.O.length))=none) (af:first (List.range p.O.length) (fun i=>(List.range p.O.length).any fun k=>n9 p i k)=some k):nV p=⟨5,k⟩:=by
 unfold nV;rw[if_pos h,hb];simp only;rw[af]
theorem N8 {p:aK} (h:p.bt.length=p.O.length) (hb:first p.bt (fun b=>decide (b.length≠p.O.length))=none) (af:first (List.range p.O.length) (fun i=>(List.range p.O.length).any fun k=>n9 p i k)=none):nV p=⟨0,0⟩:=by
 unfold nV;rw[if_pos h,hb];simp only;rw[af]
theorem tA {p:aK}:kj p=true↔(1≤p.ad∧p.ad≤60)∧(1≤p.cS∧p.cS≤300)∧p.bd.length≤40∧p.O.length≤100:=by
 unfold kj b8;simp[and_assoc]
theorem JP {n:Nat} {q:Nat→Bool} {v:Int} (aI:0≤v) (hv:v<n) (h: ∀j:Int,0≤j→j<v→q j.toNat=false) (af:q v.toNat=true):first (List.range n) q=some v.toNat:=by
 unfold first
 rw[List.findIdx?_eq_some_iff_getElem]
 refine⟨by simp;omega,by simpa using af,fun j ap=> ?_⟩
 have:=h j (by omega) (by omega)
 simpa using this
theorem JO {n:Nat} {q:Nat→Bool} (h: ∀j:Int,0≤j→j<n→q j.toNat=false):first (List.range n) q=none:=by
 unfold first
 rw[List.findIdx?_eq_none_iff]
 intro x hx
 have:=h x (by omega) (by have:=List.mem_range.1 hx;omega)
 simpa using this
theorem Iz {n:Nat} {q:Nat→Bool} {v:Int} (aI:0≤v) (hv:v<n) (h:q v.toNat=true):(List.range n).any q=true:=by
 rw[List.any_eq_true];exact⟨v.toNat,List.mem_range.2 (by omega),h⟩
theorem NC {n:Nat} {q:Nat→Bool} (h: ∀j:Int,0≤j→j<n→q j.toNat=false):(List.range n).any q=false:=by
 rw[List.any_eq_false]
 intro x hx
 have:=h x (by omega) (by have:=List.mem_range.1 hx;omega)
 simp only[Int.toNat_natCast] at this
 rw[this];simp
theorem nR {α:Type} [Inhabited α] {xs:List α} {i:Int} (h:0≤i):nth xs (i.toNat:Int)=nth xs i:=by rw[Int.toNat_of_nonneg h]
theorem ZD (p:aK) (x:cr):((decide (x.be<0)) || ((decide (x.be ≥ (p.bd.length:Int))) || ((x.bO !=1)&&(x.bO !=2))))=nO p x:=by
 unfold nO
 rw[←GP,Bool.or_assoc]
 congr 2
 rw[Bool.eq_iff_iff]
 simp[b8]
 omega
def oG (p:aK) (w:Way) (j:Int):Bool:=nO p (nth (bS w) j) || (decide (j<(w.a1.length:Int))&& !(fv w.ad (nth p.bd (nth (bS w) j).be)))
theorem NE {w:Way} {j:Int} (aI:0≤j) (h:j<w.a1.length):nth (bS w) j=nth w.a1 j:=by
 rw[hW (xs:=w.a1) (by omega),hW (by unfold bS;rw[List.length_append];omega)]
 unfold bS
 rw[List.getElem_append_left]
theorem UA {p:aK} {w:Way} (h:hA p w=true): ∀l∈[w.ad,w.b4,w.dv],gO l p.ad=true:=by
 obtain⟨-,h1,h2,aM,-⟩:=n6.1 h
 intro l aE
 simp only[List.mem_cons,List.not_mem_nil,or_false] at aE
 rcases aE with rfl | rfl | rfl
 ·exact h1
 ·exact h2
 ·exact aM
theorem UB {p:aK} {w:Way} (h:hA p w=true) {j:Int} (aI:0≤j) (ap:j.toNat<(bS w).length):oG p w j=false:=by
 obtain⟨-,-,-,-,bx,c9,-,e6,-⟩:=n6.1 h
 have hm:=eR ap
 have hb:nO p (nth (bS w) j)=false:=by
  rw[xW]
  unfold bS at hm ⊢
  rcases List.mem_append.1 hm with hm | hm
  ·rw[(mv.1 bx).2.1 _ hm];rfl
  ·rw[(mv.1 c9).2.1 _ hm];rfl
 unfold oG
 rw[hb,Bool.false_or]
 by_cases aE:j<(w.a1.length:Int)
 ·rw[NE aI aE]
  have:fv w.ad (nth p.bd (nth w.a1 j).be)=true:=e6 _ (eR (by omega))
  rw[this];simp
 ·simp[aE]
theorem Uz {p:aK} {w:Way} (h1:w.ad≠[]) (aE: ∀l∈[w.ad,w.b4,w.dv],gO l p.ad=true) (aM:w.a1.length≤30) (bx:w.bP.length≤30)
  (ao: ∀j:Int,0≤j→j<(bS w).length→oG p w j=false):((!(dup ((bS w).map (·.be))))&&(!(meets w.ad w.b4)))=hA p w:=by
 have hb: ∀x∈bS w,(b8 x.be 0 (p.bd.length - 1)&&b8 x.bO 1 2)=true:=fun x hx=>by
  have:=lB (q:=nO p) (fun j b_ ef=>by have:=ao j b_ ef;unfold oG at this;exact(Bool.or_eq_false_iff.1 this).1) x hx
  rw[xW] at this
  simpa using this
 have hc: ∀x∈w.a1,w.ad.contains (nth p.bd x.be)=true:=fun x hx=>by
  have:=lB (q:=fun x=> !(fv w.ad (nth p.bd x.be))) (fun j b_ ef=>by
   have:=ao j b_ (by unfold bS;rw[List.length_append];omega)
   unfold oG at this
   have:=(Bool.or_eq_false_iff.1 this).2
   rw[NE b_ ef] at this
   simpa[ef] using this) x hx
  simp only[Bool.not_eq_false'] at this
  exact this
 rw[Bool.eq_iff_iff,n6]
 simp only[Bool.and_eq_true,Bool.not_eq_true',dup,Bool.not_eq_false',decide_eq_true_eq]
 constructor
 ·rintro⟨aZ,hm⟩
  have rC:=Ga.1 aZ
  exact⟨h1,aE _ (by simp),aE _ (by simp),aE _ (by simp),mv.2 ⟨aM,fun x hx=>hb x (by unfold bS;exact List.mem_append_left _ hx),rC.1⟩,mv.2 ⟨bx,fun x hx=>hb x (by unfold bS;exact List.mem_append_right _ hx),rC.2.1⟩,aZ,hc,hm⟩
 ·rintro⟨-,-,-,-,-,-,aZ,-,hm⟩
  exact⟨aZ,hm⟩
theorem II {p:aK} {i k:Int} (aI:0≤i) (h1:0≤k):(((nth (nth p.bt i) k) !=(nth (nth p.bt k) i)) || ((i !=k)&&((!(nth (nth p.bt i) k))&&(meets (nth p.O i).ad (nth p.O k).ad))))=n9 p i.toNat k.toNat:=by
 unfold n9 rk
 rw[Int.toNat_of_nonneg aI,Int.toNat_of_nonneg h1]
 have:(i !=k)=decide (i.toNat≠k.toNat):=by
  rw[Bool.eq_iff_iff];simp;omega
 rw[this,Bool.and_assoc]
theorem aa3 (p:aK):((ht p).code==0)=gp p:=by
 have key:(ht p).code=0→(ht p).pos=0:=by
  unfold ht vK vL nV
  split
  ·split
   ·intro h;cases h
   ·split
    ·intro h;cases h
    ·split
     ·split
      ·intro h;cases h
      ·split
       ·intro h;cases h
       ·intro _;rfl
     ·intro h;cases h
  ·intro h;cases h
 unfold gp
 rw[Bool.eq_iff_iff]
 simp only[beq_iff_eq,decide_eq_true_eq]
 constructor
 ·intro h
  have:=key h
  cases af:ht p with
  | mk c q=>rw[af] at h this;simp at h this;rw[h,this]
 ·intro h;rw[h]
theorem aa2 (p:aK):((ht p).code==0&&(ht p).pos==0)=gp p:=by
 unfold gp
 rw[Bool.eq_iff_iff]
 simp only[Bool.and_eq_true,beq_iff_eq,decide_eq_true_eq]
 constructor
 ·rintro⟨h1,h2⟩
  cases af:ht p with
  | mk c q=>rw[af] at h1 h2;simp at h1 h2;rw[h1,h2]
 ·intro h;rw[h];exact⟨rfl,rfl⟩
theorem aa1 {p:aK} (h:gp p=true):kj p=true:=by
 cases hb:kj p with
 | true=>rfl
 | false=>unfold gp at h;rw[Gp hb] at h;simp at h
def nr (f:Frame):Prop:=f.aC.length≤1048576∧f.aq.length≤1048576∧f.O.length≤1048576∧ ∀h∈f.O,h.aa.length≤1048576
structure ul (p:aK):Prop where
 cQ:0≤p.ad∧p.ad≤60
 O:p.O.length≤100
 be:p.bd.length≤40
 ad: ∀w∈p.O,w.ad≠[]∧w.ad.length≤30∧ ∀x∈w.ad,0≤x∧x<p.ad
 b4: ∀w∈p.O,w.b4.length≤30∧ ∀x∈w.b4,0≤x∧x<p.ad
 dv: ∀w∈p.O,w.dv.length≤30∧ ∀x∈w.dv,0≤x∧x<p.ad
 a1: ∀w∈p.O,w.a1.length≤30∧w.bP.length≤30∧ ∀x∈bS w,0≤x.be∧x.be<p.bd.length
 bd: ∀x∈p.bd,0≤x∧x<p.ad
structure kO (p:aK) (f:Frame):Prop where
 aC:(f.aC.length:Int)=p.ad
 aq:f.aq.length=p.bd.length
 O:f.O.length=p.O.length
 aa: ∀(i:Nat) (h:ac) (w:Way),f.O[i]?=some h→p.O[i]?=some w→h.aa.length=w.ad.length
 ab: ∀h∈f.O,0≤h.ab∧h.ab≤h.aa.length
def fm (f:Frame) (x:Int):Bool:=nth f.aC x
def kq (f:Frame) (l:List Int):Bool:=l.any (fm f)
def wb (f:Frame) (l:List Int):Prop:= ∀x∈l,0≤x∧x<f.aC.length
def g_ (p:aK) (f:Frame) (i:Int):Bool:=
 (bS (nth p.O i)).all (fun l=>decide (nth f.aq l.be=⟨l.bO,l.bO⟩))&& !kq f (nth p.O i).ad&& !kq f (nth p.O i).b4
def vN (p:aK) (f:Frame) (i:Int):Prop:=ul p∧kO p f∧0≤i∧i<p.O.length
def tc (n:Nat):ac:=⟨0,0,List.replicate n false,false,0⟩
def dz (p:aK) (i:Int):ac:=tc (nth p.O i).ad.length
def K5 (p:aK) (i:Int):Prop:=ul p∧0≤i∧i<p.O.length
def jt (s:List Int) (f:Frame) (aa:List Bool):Nat→Nat→Nat
 | 0,g=>g
 | n+1,g=>if g<s.length∧aa.getD g false=true∧fm f (s.getD g 0)=false∧(g+1=s.length∨aa.getD (g+1) false=true) then jt s f aa n (g+1) else g
def mz (s:List Int) (f:Frame) (h:ac):ac:=
 let aa:=List.zipWith (fun b x=>b || fm f x) h.aa s
 let g:=jt s f aa s.length h.ab.toNat
 if g=s.length then tc s.length else{h with aa:=aa,ab:=g}
def l8 (p:aK) (f:Frame) (i:Nat):ac:=
 let h:=nth f.O i
 let s:=(nth p.O i).ad
 if h.az=0 then h else
 let h:=if h.az≠4∧fm f (nth s 0)=true then{h with az:=4,au:=0} else h
 let h:=if h.az=1∨h.az=2 then(if g_ p f i=true then{h with az:=2,ar:=true} else{h with az:=1}) else h
 if h.az=4 then mz s f h else h
def iR (p:aK):Nat→Frame→Frame
 | 0,f=>f
 | n+1,f=>let g:=iR p n f;{g with O:=g.O.set n (l8 p g n)}
def mE (p:aK) (f:Frame):Frame:=iR p f.O.length f
def yH (p:aK) (f:Frame):Prop:=ul p∧kO p f
structure dc (V:List ac) (ids:List Nat) (v:Int) (h:ac) (ws:List ac) (bs:List (List Bool)):Prop where
 ok:mK ws ids bs
 kF: ∀i j k:Nat,ids[i]?=some k→ids[j]?=some k→i=j
 lt:v.toNat<ws.length
 iy:view ws ids bs=V.set v.toNat h
 len: ∀b∈bs,b.length≤1048576
section
variable {V:List ac} {ids:List Nat} {v:Int} {h:ac} {ws:List ac} {bs:List (List Bool)}
theorem dc.hV (F:dc V ids v h ws bs):ws.length=ids.length∧v.toNat<ws.length:=⟨F.ok.len,F.lt⟩
theorem dc.sk (F:dc V ids v h ws bs):V.length=ws.length:=by
 have:=congrArg List.length F.iy
 rw[jJ F.ok,List.length_set] at this;exact this.symm
theorem dc.id (F:dc V ids v h ws bs):ids[v.toNat]?=some (nth ids v):=gZ (by rw[←F.ok.len];exact F.lt)
theorem dc.py (F:dc V ids v h ws bs):nth ids v<bs.length:=F.ok.lt _ _ F.id
theorem dc.row (F:dc V ids v h ws bs):h={nth ws v with aa:=bs.getD (nth ids v) []}:=by
 have h1:=wm (bs:=bs) (gZ F.lt) F.id
 rw[F.iy,List.getElem?_set_self (by rw[F.sk];exact F.lt)] at h1
 exact Option.some.inj h1
theorem dc.az (F:dc V ids v h ws bs):(nth ws v).az=h.az:=by rw[F.row]
theorem dc.ab (F:dc V ids v h ws bs):(nth ws v).ab=h.ab:=by rw[F.row]
theorem dc.ar (F:dc V ids v h ws bs):(nth ws v).ar=h.ar:=by rw[F.row]
theorem dc.au (F:dc V ids v h ws bs):(nth ws v).au=h.au:=by rw[F.row]
theorem dc.aa (F:dc V ids v h ws bs):bs.getD (nth ids v) []=h.aa:=by rw[F.row]
theorem dc.o8 (F:dc V ids v h ws bs):(nth ws v).aa.length=h.aa.length:=by
 rw[←F.aa];exact F.ok.aa _ _ _ (gZ F.lt) F.id
theorem dc.start (ok:mK ws ids bs) (kF: ∀i j k:Nat,ids[i]?=some k→ids[j]?=some k→i=j) (lt:v.toNat<ws.length) (iy:view ws ids bs=V) (len: ∀b∈bs,b.length≤1048576):dc V ids v (nth V v) ws bs:=by
 have aE:v.toNat<V.length:=by rw[←iy,jJ ok];exact lt
 exact⟨ok,kF,lt,by rw[iy,hW aE];exact(List.set_getElem_self _).symm,len⟩
theorem dc.v_ (F:dc V ids v h ws bs) (x:ac) (hx:x.aa.length=h.aa.length):dc V ids v {x with aa:=h.aa} (ws.set v.toNat x) bs where
 ok:=⟨by rw[List.length_set];exact F.ok.len,F.ok.lt,fun i id y h1 h2=>by
  rw[List.getElem?_set] at h1
  split at h1
  ·rename_i e;subst e
   rw[if_pos F.lt] at h1;cases h1
   rw[F.id] at h2;cases h2
   rw[hx,F.aa]
  ·exact F.ok.aa i id y h1 h2⟩
 kF:=F.kF
 lt:=by rw[List.length_set];exact F.lt
 iy:=by
  apply List.ext_getElem?
  intro j
  have ap:=congrArg (·[j]?) F.iy
  simp only[view,List.getElem?_zipWith,List.getElem?_set] at ap ⊢
  by_cases e:v.toNat=j
  ·subst e
   have hv:=F.sk
   have:=F.lt
   rw[if_pos rfl,if_pos rfl,if_pos this,if_pos (by omega),F.id]
   show some _=some _
   rw[F.aa]
  ·rw[if_neg e] at ap ⊢
   rw[if_neg e];exact ap
 len:=F.len
theorem dc.setState (F:dc V ids v h ws bs) (x:Int):dc V ids v {h with az:=x} (ws.set v.toNat ({az:=x,ab:=(nth ws v).ab,aa:=(nth ws v).aa,ar:=(nth ws v).ar,au:=(nth ws v).au}:ac)) bs:=by
 have:=F.v_ ({az:=x,ab:=(nth ws v).ab,aa:=(nth ws v).aa,ar:=(nth ws v).ar,au:=(nth ws v).au}:ac) F.o8
 simpa only[F.ab,F.ar,F.au] using this
theorem dc.O7 (F:dc V ids v h ws bs) (x:Int):dc V ids v {h with ab:=x} (ws.set v.toNat ({az:=(nth ws v).az,ab:=x,aa:=(nth ws v).aa,ar:=(nth ws v).ar,au:=(nth ws v).au}:ac)) bs:=by
 have:=F.v_ ({az:=(nth ws v).az,ab:=x,aa:=(nth ws v).aa,ar:=(nth ws v).ar,au:=(nth ws v).au}:ac) F.o8
 simpa only[F.az,F.ar,F.au] using this
theorem dc.O_ (F:dc V ids v h ws bs) (x:Bool):dc V ids v {h with ar:=x} (ws.set v.toNat ({az:=(nth ws v).az,ab:=(nth ws v).ab,aa:=(nth ws v).aa,ar:=x,au:=(nth ws v).au}:ac)) bs:=by
 have:=F.v_ ({az:=(nth ws v).az,ab:=(nth ws v).ab,aa:=(nth ws v).aa,ar:=x,au:=(nth ws v).au}:ac) F.o8
 simpa only[F.az,F.ab,F.au] using this
theorem dc.Pa (F:dc V ids v h ws bs) (x:Int):dc V ids v {h with au:=x} (ws.set v.toNat ({az:=(nth ws v).az,ab:=(nth ws v).ab,aa:=(nth ws v).aa,ar:=(nth ws v).ar,au:=x}:ac)) bs:=by
 have:=F.v_ ({az:=(nth ws v).az,ab:=(nth ws v).ab,aa:=(nth ws v).aa,ar:=(nth ws v).ar,au:=x}:ac) F.o8
 simpa only[F.az,F.ab,F.ar] using this
theorem dc.G1 (F:dc V ids v h ws bs) (b:List Bool) (hb:b.length=h.aa.length):dc V ids v {h with aa:=b} ws (bs.set (nth ids v) b) where
 ok:=⟨F.ok.len,fun i id hi=>by rw[List.length_set];exact F.ok.lt i id hi,fun i id y h1 h2=>by
  rw[F.ok.aa i id y h1 h2,List.getD_eq_getElem?_getD,List.getD_eq_getElem?_getD,List.getElem?_set]
  split
  ·rename_i e;subst e
   rw[if_pos F.py,←List.getD_eq_getElem?_getD,F.aa];exact hb.symm
  ·rfl⟩
 kF:=F.kF
 lt:=F.lt
 iy:=by
  apply List.ext_getElem?
  intro j
  have ap:=congrArg (·[j]?) F.iy
  simp only[view,List.getElem?_zipWith,List.getElem?_set] at ap ⊢
  by_cases e:v.toNat=j
  ·subst e
   have hv:=F.sk
   have:=F.lt
   rw[if_pos rfl,if_pos (by omega),F.id,gZ F.lt]
   simp only[List.getD_eq_getElem?_getD,List.getElem?_set,if_pos F.py]
   rw[F.row];simp
  ·rw[if_neg e] at ap ⊢
   rw[←ap]
   cases h1:ws[j]? with
   | none=>rfl
   | some y=>
    cases h2:ids[j]? with
    | none=>rfl
    | some id=>
     have bY:nth ids v≠id:=fun hid=>by
      have aM:=F.id
      rw[hid] at aM
      exact e (F.kF _ _ _ aM h2)
     simp only[List.getD_eq_getElem?_getD,List.getElem?_set,if_neg bY]
 len:=fun x hx=>by
  rcases List.mem_or_eq_of_mem_set hx with hx | rfl
  ·exact F.len x hx
  ·rw[hb,←F.aa,List.getD_eq_getElem?_getD,List.getElem?_eq_getElem F.py];exact F.len _ (List.getElem_mem F.py)
theorem dc.new (F:dc V ids v h ws bs) (x:ac) (hx:x.aa.length≤1048576):dc V (ids.set v.toNat bs.length) v x (ws.set v.toNat x) (bs++[x.aa]) where
 ok:=⟨by rw[List.length_set,List.length_set];exact F.ok.len,fun i id hi=>by
   rw[List.getElem?_set] at hi
   rw[List.length_append,List.length_singleton]
   split at hi
   ·split at hi
    ·cases hi;omega
    ·cases hi
   ·have:=F.ok.lt i id hi;omega,fun i id y h1 h2=>by
   rw[List.getElem?_set] at h1 h2
   split at h1
   ·rename_i e;subst e
    have:=F.ok.len
    have:=F.lt
    rw[if_pos F.lt] at h1;rw[if_pos rfl,if_pos (by omega)] at h2
    cases h1;cases h2;simp
   ·rename_i e
    rw[if_neg e] at h2
    rw[F.ok.aa i id y h1 h2,List.getD_eq_getElem?_getD,List.getD_eq_getElem?_getD,List.getElem?_append_left (F.ok.lt i id h2)]⟩
 kF:=fun i j k hi ap=>by
  rw[List.getElem?_set] at hi ap
  have aX: ∀q,ids[q]?≠some bs.length:=fun q af=>by have:=F.ok.lt q _ af;omega
  split at hi
  ·rename_i e;subst e
   split at hi
   ·cases hi
    split at ap
    ·rename_i e;exact e
    ·exact absurd ap (aX j)
   ·cases hi
  ·split at ap
   ·rename_i e;subst e
    split at ap
    ·cases ap;exact absurd hi (aX i)
    ·cases ap
   ·exact F.kF i j k hi ap
 lt:=by rw[List.length_set];exact F.lt
 iy:=by
  apply List.ext_getElem?
  intro j
  have ap:=congrArg (·[j]?) F.iy
  simp only[view,List.getElem?_zipWith,List.getElem?_set] at ap ⊢
  by_cases e:v.toNat=j
  ·subst e
   have hv:=F.sk
   have:=F.lt
   have:=F.ok.len
   rw[if_pos rfl,if_pos rfl,if_pos rfl,if_pos F.lt,if_pos (by omega),if_pos (by omega)]
   simp
  ·rw[if_neg e] at ap ⊢
   rw[if_neg e,if_neg e,←ap]
   cases h1:ws[j]? with
   | none=>rfl
   | some y=>
    cases h2:ids[j]? with
    | none=>rfl
    | some id=>
     simp only
     rw[List.getD_eq_getElem?_getD,List.getD_eq_getElem?_getD,List.getElem?_append_left (F.ok.lt j id h2)]
 len:=fun b hb=>by
  rcases List.mem_append.1 hb with hb | hb
  ·exact F.len b hb
  ·rw[List.mem_singleton.1 hb];exact hx
end
theorem JF (ws:List ac):mK ws (List.range ws.length) (ws.map ac.aa)∧(∀i j k:Nat,(List.range ws.length)[i]?=some k→(List.range ws.length)[j]?=some k→i=j)∧view ws (List.range ws.length) (ws.map ac.aa)=ws:=by
 refine⟨⟨by simp,fun i id h=> ?_,fun i id h h1 h2=> ?_⟩,fun i j k h1 h2=> ?_,?_⟩
 ·obtain⟨hi,rfl⟩:=List.getElem?_eq_some_iff.1 h
  simpa using hi
 ·obtain⟨hi,rfl⟩:=List.getElem?_eq_some_iff.1 h2
  simp[h1]
 ·obtain⟨hi,rfl⟩:=List.getElem?_eq_some_iff.1 h1
  obtain⟨ap,e⟩:=List.getElem?_eq_some_iff.1 h2
  simpa using e.symm
 ·apply List.ext_getElem?
  intro j
  unfold view
  rw[List.getElem?_zipWith]
  rcases Nat.lt_or_ge j ws.length with ap | ap
  ·rw[List.getElem?_range ap,List.getElem?_eq_getElem ap]
   simp[ap]
  ·rw[List.getElem?_eq_none ap]
theorem BR (p:aK) (f:Frame): ∀n,(iR p n f).ok=f.ok∧(iR p n f).aC=f.aC∧(iR p n f).aq=f.aq
 | 0=>⟨rfl,rfl,rfl⟩
 | n+1=>BR p f n
theorem J9 {s:List Int} {f:Frame} {aa:List Bool}: ∀(n g:Nat),g≤s.length→g≤jt s f aa n g∧jt s f aa n g≤s.length
 | 0,g,h=>⟨Nat.le_refl _,h⟩
 | n+1,g,h=>by
  unfold jt
  split
  ·rename_i hc
   have:=J9 (f:=f) (aa:=aa) n (g+1) hc.1
   exact⟨by omega,this.2⟩
  ·exact⟨Nat.le_refl _,h⟩
theorem aaS {s:List Int} {f:Frame} {h:ac} (hb:h.aa.length=s.length) (aQ:0≤h.ab∧h.ab≤h.aa.length):(mz s f h).aa.length=s.length∧0≤(mz s f h).ab∧(mz s f h).ab≤(mz s f h).aa.length:=by
 unfold mz
 simp only
 have aE:(List.zipWith (fun b x=>b || fm f x) h.aa s).length=s.length:=by rw[List.length_zipWith];omega
 have bD:=(J9 (s:=s) (f:=f) (aa:=List.zipWith (fun b x=>b || fm f x) h.aa s) s.length h.ab.toNat (by omega)).2
 split
 ·simp[tc]
 ·exact⟨aE,Int.natCast_nonneg _,by simp only;rw[aE];omega⟩
theorem ad3 {p:aK} {f:Frame} {i:Nat} (hb:(nth f.O i).aa.length=(nth p.O i).ad.length) (aQ:0≤(nth f.O i).ab∧(nth f.O i).ab≤(nth f.O i).aa.length):
  (l8 p f i).aa.length=(nth p.O i).ad.length∧0≤(l8 p f i).ab∧(l8 p f i).ab≤(l8 p f i).aa.length:=by
 unfold l8
 simp only
 split
 ·exact⟨hb,aQ⟩
 ·have h1: ∀(c:Prop) [Decidable c] (x y:ac),x.aa=y.aa→x.ab=y.ab→(if c then x else y).aa=y.aa∧(if c then x else y).ab=y.ab:=fun c _ x y aR e2=>by
   split
   ·exact⟨aR,e2⟩
   ·exact⟨rfl,rfl⟩
  generalize cN:(if(nth f.O i).az≠4∧fm f (nth (nth p.O i).ad 0)=true then{nth f.O i with az:=4,au:=0} else nth f.O i)=A
  have lQ:A.aa=(nth f.O i).aa∧A.ab=(nth f.O i).ab:=by rw[←cN];exact h1 _ _ _ rfl rfl
  generalize c5:(if A.az=1∨A.az=2 then(if g_ p f i=true then{A with az:=2,ar:=true} else{A with az:=1}) else A)=B
  have D9:B.aa=(nth f.O i).aa∧B.ab=(nth f.O i).ab:=by
   rw[←c5,←lQ.1,←lQ.2]
   exact h1 _ _ _ (by split<;>rfl) (by split<;>rfl)
  have aR:B.aa.length=(nth p.O i).ad.length:=by rw[D9.1];exact hb
  have e2:0≤B.ab∧B.ab≤B.aa.length:=by rw[D9.1,D9.2];exact aQ
  split
  ·exact aaS aR e2
  ·exact⟨aR,e2⟩
theorem BQ {p:aK} {f:Frame} (h:kO p f): ∀n,kO p (iR p n f)
 | 0=>h
 | n+1=>by
  have bE:=BQ h n
  show kO p {iR p n f with O:=(iR p n f).O.set n (l8 p (iR p n f) n)}
  have key:n<(iR p n f).O.length→(l8 p (iR p n f) n).aa.length=(nth p.O n).ad.length∧0≤(l8 p (iR p n f) n).ab∧(l8 p (iR p n f) n).ab≤(l8 p (iR p n f) n).aa.length:=fun ao=>by
   have hw:=bE.O
   have h1:(iR p n f).O[n]?=some (nth (iR p n f).O n):=by rw[je ao];exact List.getElem?_eq_getElem ao
   have h2:p.O[n]?=some (nth p.O n):=by rw[je (by omega)];exact List.getElem?_eq_getElem (by omega)
   exact ad3 (bE.aa n _ _ h1 h2) (bE.ab _ (List.mem_of_getElem? h1))
  refine⟨bE.aC,bE.aq,by rw[List.length_set];exact bE.O,fun i x w h1 h2=> ?_,fun x hx=> ?_⟩
  ·replace h1:((iR p n f).O.set n (l8 p (iR p n f) n))[i]?=some x:=h1
   rw[List.getElem?_set] at h1
   split at h1
   ·rename_i e;subst e
    split at h1
    ·rename_i ao
     cases h1
     have hw:=bE.O
     rw[(key ao).1,je (by omega)]
     rw[List.getElem?_eq_getElem (by omega)] at h2
     cases h2;rfl
    ·cases h1
   ·exact bE.aa i x w h1 h2
  ·rcases List.mem_or_eq_of_mem_set hx with hx | rfl
   ·exact bE.ab x hx
   ·by_cases ao:n<(iR p n f).O.length
    ·exact(key ao).2
    ·rw[List.set_eq_of_length_le (by omega)] at hx
     exact bE.ab _ hx
theorem tO (p:aK) (f:Frame): ∀n,(iR p n f).O.length=f.O.length
 | 0=>rfl
 | n+1=>by show((iR p n f).O.set n _).length=_;rw[List.length_set];exact tO p f n
theorem Og {p:aK} {f g:Frame} {i:Int} (h1:f.aC=g.aC) (h2:f.aq=g.aq):g_ p f i=g_ p g i:=by
 unfold g_ kq fm
 rw[h1,h2]
def jl (s:List Int) (f:Frame) (b:List Bool) (v:Nat):List Bool:=List.zipWith (fun b x=>b || fm f x) (b.take v) (s.take v)++b.drop v
theorem H2 {s:List Int} {f:Frame} {b:List Bool} {v:Nat} (aE:b.length=s.length) (hv:v≤s.length):(jl s f b v).length=b.length:=by
 unfold jl
 rw[List.length_append,List.length_zipWith,List.length_take,List.length_take,List.length_drop];omega
theorem QT (s:List Int) (f:Frame) (b:List Bool):jl s f b 0=b:=by simp[jl]
theorem QV {s:List Int} {f:Frame} {b:List Bool} {v:Nat} (aE:b.length=s.length) (hv:s.length≤v):jl s f b v=List.zipWith (fun b x=>b || fm f x) b s:=by
 unfold jl
 rw[List.take_of_length_le (by omega),List.take_of_length_le hv,List.drop_of_length_le (by omega),List.append_nil]
theorem QU {s:List Int} {f:Frame} {b:List Bool} {v:Nat} (aE:b.length=s.length) (hv:v<s.length):nth (jl s f b v) v=b[v]:=by
 rw[je (by rw[H2 aE (by omega)];omega)]
 unfold jl
 rw[List.getElem_append_right (by rw[List.length_zipWith,List.length_take,List.length_take];omega)]
 simp only[List.length_zipWith,List.length_take,List.getElem_drop]
 congr 1;omega
theorem QW {s:List Int} {f:Frame} {b:List Bool} {v:Nat} (aE:b.length=s.length) (hv:v<s.length):(jl s f b v).set v (b[v] || fm f s[v])=jl s f b (v+1):=by
 unfold jl
 have hlen:(List.zipWith (fun b x=>b || fm f x) (b.take v) (s.take v)).length=v:=by rw[List.length_zipWith,List.length_take,List.length_take];omega
 rw[List.set_append_right _ _ (by omega),hlen,Nat.sub_self,List.take_succ_eq_append_getElem (by omega),List.take_succ_eq_append_getElem hv,List.zipWith_append (by rw[List.length_take,List.length_take];omega),List.append_assoc]
 congr 1
 rw[List.drop_eq_getElem_cons (by omega:v<b.length)]
 rfl
def mr (s:List Int) (f:Frame) (aa:List Bool) (g:Int):Bool:=
 decide (g<(s.length:Int))&&(nth aa g&&((!(nth f.aC (nth s g)))&&((g==IntKind.i64.wrap ((s.length:Int) - 1)) || nth aa (IntKind.i64.wrap (g+1)))))
theorem J5 {s:List Int} {f:Frame} {aa:List Bool} {g:Nat} (hs:s.length≤1048576) (aQ:g≤s.length):
  mr s f aa g=true↔g<s.length∧aa.getD g false=true∧fm f (s.getD g 0)=false∧(g+1=s.length∨aa.getD (g+1) false=true):=by
 unfold mr
 rw[iU (by omega) (by omega),iU (by omega) (by omega)]
 have aR:nth aa (g:Int)=aa.getD g false:=rfl
 have e2:nth aa ((g:Int)+1)=aa.getD (g+1) false:=rfl
 have dq:nth s (g:Int)=s.getD g 0:=rfl
 rw[aR,e2,dq]
 simp only[Bool.and_eq_true,Bool.or_eq_true,decide_eq_true_eq,Bool.not_eq_true',beq_iff_eq]
 constructor
 ·rintro⟨h1,h2,aM,bx⟩;exact⟨by omega,h2,aM,bx.imp (fun h=>by omega) _root_.id⟩
 ·rintro⟨h1,h2,aM,bx⟩;exact⟨by omega,h2,aM,bx.imp (fun h=>by omega) _root_.id⟩
def uW (s:List Int) (f:Frame) (aa:List Bool) (g0 g:Int):Prop:=0≤g∧g≤s.length∧jt s f aa s.length g0.toNat=jt s f aa (s.length - g.toNat) g.toNat
theorem D6 {s:List Int} {f:Frame} {aa:List Bool} {n g:Nat} (h: ¬(g<s.length∧aa.getD g false=true∧fm f (s.getD g 0)=false∧(g+1=s.length∨aa.getD (g+1) false=true))):jt s f aa n g=g:=by
 cases n with
 | zero=>rfl
 | succ n=>unfold jt;rw[if_neg h]
theorem J8 {s:List Int} {f:Frame} {aa:List Bool}: ∀(n m g:Nat),s.length≤n+g→s.length≤m+g→jt s f aa n g=jt s f aa m g
 | 0,m,g,h1,h2=>by
  rw[D6 (n:=m) fun h=>by omega];rfl
 | n+1,0,g,h1,h2=>by rw[D6 (n:=n+1) fun h=>by omega];rfl
 | n+1,m+1,g,h1,h2=>by
  unfold jt
  split
  ·exact J8 n m (g+1) (by omega) (by omega)
  ·rfl
theorem J6 {s:List Int} {f:Frame} {aa:List Bool} {g:Int} (aI:0≤g) (h1:g≤s.length):uW s f aa g g:=⟨aI,h1,J8 _ _ _ (by omega) (by omega)⟩
theorem J7 {s:List Int} {f:Frame} {aa:List Bool} {g0 g:Int} (hs:s.length≤1048576) (h:uW s f aa g0 g) (hc:mr s f aa g=true):uW s f aa g0 (IntKind.i64.wrap (g+1))∧g<s.length:=by
 obtain⟨aI,h1,h2⟩:=h
 obtain⟨k,rfl⟩:=Int.eq_ofNat_of_zero_le aI
 have hc:=(J5 hs (by omega)).1 hc
 rw[iU (by omega) (by omega)]
 refine⟨⟨by omega,by omega,?_⟩,by omega⟩
 rw[h2]
 simp only[Int.toNat_natCast]
 rw[show((k:Int)+1).toNat=k+1 by omega,show s.length - k=(s.length - (k+1))+1 by omega]
 conv=>lhs;unfold jt
 rw[if_pos hc]
theorem D5 {s:List Int} {f:Frame} {aa:List Bool} {g0 g:Int} (hs:s.length≤1048576) (h:uW s f aa g0 g) (hc:mr s f aa g=false):(jt s f aa s.length g0.toNat:Int)=g:=by
 obtain⟨aI,h1,h2⟩:=h
 obtain⟨k,rfl⟩:=Int.eq_ofNat_of_zero_le aI
 rw[h2]
 simp only[Int.toNat_natCast]
 rw[D6 fun bD=>by rw[(J5 hs (by omega)).2 bD] at hc;cases hc]
def G3 (p:aK) (f:Frame) (bs:List (List Bool)) (ids:List Nat) (v:Int) (ws:List ac):Prop:=
 cv f.O.length (fun _=>false) v∧mK ws ids bs∧(∀i j k:Nat,ids[i]?=some k→ids[j]?=some k→i=j)∧view ws ids bs=(iR p v.toNat f).O∧ ∀b∈bs,b.length≤1048576
def dn (p:aK) (f:Frame) (v:Int):Frame:=iR p v.toNat f
def cQ (p:aK) (v:Int):List Int:=(nth p.O v).ad
def hy (p:aK) (f:Frame) (v:Int):ac:=
 let G:=dn p f v
 let h:=nth G.O v
 if h.az≠4∧fm G (nth (cQ p v) 0)=true then{h with az:=4,au:=0} else h
def fZ (p:aK) (f:Frame) (v:Int):ac:=
 let h:=hy p f v
 if h.az=1∨h.az=2 then(if g_ p (dn p f v) v=true then{h with az:=2,ar:=true} else{h with az:=1}) else h
def o7 (p:aK) (f:Frame) (v:Int):List Bool:=List.zipWith (fun b x=>b || fm (dn p f v) x) (fZ p f v).aa (cQ p v)
theorem QC {p:aK} {f:Frame} {v:Int} (aI:0≤v):l8 p (dn p f v) v.toNat=if(nth (dn p f v).O v).az=0 then nth (dn p f v).O v else if(fZ p f v).az=4 then mz (cQ p v) (dn p f v) (fZ p f v) else fZ p f v:=by
 unfold l8 fZ hy cQ
 rw[nR aI,nR aI,Int.toNat_of_nonneg aI]
theorem r9 {p:aK} {f:Frame} {v:Int}:(hy p f v).aa=(nth (dn p f v).O v).aa∧(hy p f v).ab=(nth (dn p f v).O v).ab:=by
 unfold hy;simp only;split<;>exact⟨rfl,rfl⟩
theorem Bp {p:aK} {f:Frame} {v:Int}:(fZ p f v).aa=(nth (dn p f v).O v).aa∧(fZ p f v).ab=(nth (dn p f v).O v).ab:=by
 rw[←r9.1,←r9.2]
 unfold fZ;simp only;split
 ·split<;>exact⟨rfl,rfl⟩
 ·exact⟨rfl,rfl⟩
theorem tN {p:aK} {f:Frame} {v:Int} {h:ac} {ws:List ac} {ids:List Nat} {bs:List (List Bool)} (ao:(f.O.length:Int)≤4611686018427387904) (a_:cv f.O.length (fun _=>false) v) (hv:decide (v<(f.O.length:Int))=true)
  (F:dc (dn p f v).O ids v h ws bs) (bD:h=l8 p (dn p f v) v.toNat):G3 p f bs ids (IntKind.i64.wrap (v+1)) ws∧cK f.O.length (IntKind.i64.wrap (v+1))<cK f.O.length v:=by
 have a8:=dl ao a_ hv rfl
 refine⟨⟨a8.1,F.ok,F.kF,?_,F.len⟩,a8.2⟩
 have aI:=a_.1
 have hv:v<(f.O.length:Int):=by simpa using hv
 rw[mJ ao aI hv,show(v+1).toNat=v.toNat+1 by omega,F.iy,bD]
 rfl
def K6 (j:Int) (k:Bool) (o:List Bool) (q:List cJ) (w:List ac) (i:List Nat) (b:List (List Bool)):Prop:=jN w i b∧0≤j∧j<w.length
def xR (j:Int) (k:Bool) (o:List Bool) (q:List cJ) (w:List ac) (i:List Nat) (b:List (List Bool)) (hr:List Bool) (yl:List cJ) (w':List ac) (ir:List Nat) (bT:List (List Bool)):Prop:=
 jN w' ir bT∧view w' ir bT=(view w i b).set j.toNat (tc (nth (view w i b) j).aa.length)
def c3 (k:Bool) (o:List Bool) (q:List cJ) (w:List ac) (i:List Nat) (b:List (List Bool)):Frame:=⟨k,o,q,view w i b⟩
def N6 (s:Way) (j:Int) (k:Bool) (o:List Bool) (q:List cJ) (w:List ac) (i:List Nat) (b:List (List Bool)):Prop:=
 jN w i b∧0≤j∧j<w.length∧s.ad.length≤1048576∧(∀x∈s.ad,0≤x∧x<o.length)∧(nth (view w i b) j).aa.length=s.ad.length∧0≤(nth (view w i b) j).ab∧(nth (view w i b) j).ab≤s.ad.length
def ye (s:Way) (j:Int) (k:Bool) (o:List Bool) (q:List cJ) (w:List ac) (i:List Nat) (b:List (List Bool)) (hr:List Bool) (yl:List cJ) (w':List ac) (ir:List Nat) (bT:List (List Bool)):Prop:=
 jN w' ir bT∧view w' ir bT=(view w i b).set j.toNat (mz s.ad (c3 k o q w i b) (nth (view w i b) j))
def O9 (p:aK) (k:Bool) (o:List Bool) (q:List cJ) (w:List ac) (i:List Nat) (b:List (List Bool)):Prop:=jN w i b∧yH p (c3 k o q w i b)
def BP (p:aK) (k:Bool) (o:List Bool) (q:List cJ) (w:List ac) (i:List Nat) (b:List (List Bool)) (hr:List Bool) (yl:List cJ) (w':List ac) (ir:List Nat) (bT:List (List Bool)):Prop:=
 jN w' ir bT∧view w' ir bT=(mE p (c3 k o q w i b)).O
def O6 (f g:Frame):Prop:=f.O.length=g.O.length∧nr f∧nr g∧ ∀(i:Nat) (x y:ac),f.O[i]?=some x→g.O[i]?=some y→x.aa.length=y.aa.length
def nq (f g:Frame):Bool:=decide (f.O=g.O)
def Kx (p:aK) (f:Frame) (i:Int):Prop:=ul p∧nr f∧f.O.length=p.O.length∧0≤i∧i<p.O.length
def gV (p:aK) (f:Frame) (i:Int):Bool:=
 let h:=nth f.O i
 let n:=(nth p.O i).ad.length
 b8 h.az 0 4&&decide (h.aa.length=n)&&b8 h.ab 0 ((n:Int) - 1)&&(decide (h.az=4) || (decide (h.ab=0)&&h.aa.all (fun b=> !b)))&&(h.aa.take h.ab.toNat).all (fun b=>b)&&
 (if h.az=3 then h.ar&&b8 h.au 1 p.cS else decide (h.au=0)&&(decide (h.az≠0) || !h.ar)&&(decide (h.az≠2) || h.ar))
def CH (p:aK) (f:Frame):Bool:=(List.range f.O.length).all fun i=>(List.range f.O.length).all fun k=>decide (i=k) || !rk p i k || decide ((nth f.O i).az=0) || decide ((nth f.O k).az=0)
def hJ (p:aK) (f:Frame):Bool:=
 gp p&&f.ok&&decide ((f.aC.length:Int)=p.ad)&&decide (f.aq.length=p.bd.length)&&decide (f.O.length=p.O.length)&&
 f.aq.all (fun x=>b8 x.cz 1 2&&b8 x.a1 0 2)&&(List.range f.O.length).all (fun i=>gV p f i)&&CH p f&&nq f (mE p f)
def qe (p:aK) (f:Frame):Prop:=nr f
theorem u1 {xs:List Bool} {b:Bool}:ja xs b=true↔b∈xs:=by unfold ja;simp
theorem WG (xs:List Bool) (x:Bool):(decide (qE xs x ≥ 0))=ja xs x:=by
 unfold qE
 cases h:first xs (fun y=>x==y) with
 | none=>
  unfold first at h
  rw[List.findIdx?_eq_none_iff] at h
  have:ja xs x=false:=by
   rw[←Bool.not_eq_true,u1]
   intro hm
   have:=h x hm
   simp at this
  rw[this];rfl
 | some i=>
  unfold first at h
  rw[List.findIdx?_eq_some_iff_getElem] at h
  obtain⟨hi,hx,_⟩:=h
  have:ja xs x=true:=by
   rw[u1]
   have hx:x=xs[i]:=by simpa using hx
   rw[hx];exact List.getElem_mem hi
  rw[this]
  show decide ((i:Int) ≥ 0)=true
  simp
def tK (a b:Frame):Bool:=eqv a.aC b.aC&&eqv a.aq b.aq&&eqv a.O b.O
def uN (a b:List ac) (_:Unit):Bool:=eqv a b
def pD (f:Frame) (l:cr):Bool:=((nth f.aq l.be).cz !=l.bO) || ((nth f.aq l.be).a1 !=l.bO)
def Of (p:aK) (f:Frame) (i:Int):Prop:= ∀l∈bS (nth p.O i),pD f l=false
theorem Gu (p:aK) (f:Frame) (i:Int):g_ p f i=((bS (nth p.O i)).all (fun l=> !pD f l)&& !kq f (nth p.O i).ad&& !kq f (nth p.O i).b4):=by
 have af: ∀l:cr,decide (nth f.aq l.be=⟨l.bO,l.bO⟩)= !pD f l:=fun l=>by
  unfold pD
  rcases nth f.aq l.be with⟨x,y⟩
  rw[Bool.eq_iff_iff];simp
 unfold g_
 simp only[af]
theorem HY {α:Type} {x y:α} {v:Int} (aI:0≤v) (h1:v.toNat<[x,y].length):v=0∨v=1:=by simp at h1;omega
theorem jN.wV {w:List ac} {i:List Nat} {b:List (List Bool)} {j:Int} (F:jN w i b) (h:j.toNat<w.length):dc (view w i b) i j (nth (view w i b) j) w b:=dc.start F.ok F.kF h rfl F.len
section
variable {V:List ac} {ids c6:List Nat} {v:Int} {h x:ac} {ws nu:List ac} {bs rm:List (List Bool)}
theorem dc.G (F:dc V ids v h ws bs):jN ws ids bs:=⟨F.ok,F.kF,F.len⟩
theorem dc.ya (F:dc V ids v h ws bs):nth (view ws ids bs) v=h:=by
 rw[hW (by rw[jJ F.ok];exact F.lt)]
 simp only[F.iy,List.getElem_set_self]
theorem dc.again (F:dc V ids v h ws bs) (G:jN nu c6 rm) (e:view nu c6 rm=(view ws ids bs).set v.toNat x):dc V c6 v x nu rm where
 ok:=G.ok
 kF:=G.kF
 lt:=by
  have:=congrArg List.length e
  rw[jJ G.ok,List.length_set,jJ F.ok] at this
  have:=F.lt;omega
 iy:=by rw[e,F.iy,List.set_set]
 len:=G.len
end
theorem aaT {s:List Int} {f g:Frame} {h:ac} (e:f.aC=g.aC):mz s f h=mz s g h:=by
 have aG:fm f=fm g:=by funext x;unfold fm;rw[e]
 have aQ: ∀(aa:List Bool) (n q:Nat),jt s f aa n q=jt s g aa n q:=fun aa n=>by
  induction n with
  | zero=>intro q;rfl
  | succ n bE=>intro q;unfold jt;rw[aG,bE]
 unfold mz
 simp only[aG,aQ]
def my (s:List Int) (f:Frame) (h:ac):List Bool:=List.zipWith (fun b x=>b || fm f x) h.aa s
theorem N5 (s:List Int) (f:Frame) (h:ac):mz s f h=if jt s f (my s f h) s.length h.ab.toNat=s.length then tc s.length else{h with aa:=my s f h,ab:=jt s f (my s f h) s.length h.ab.toNat}:=rfl
def aaU (s:List Int) (f:Frame) (V:List ac) (ids:List Nat) (j:Int) (ws:List ac) (bs:List (List Bool)) (k:Int):Prop:=
 cv s.length (fun _=>false) k∧dc V ids j {nth V j with aa:=jl s f (nth V j).aa k.toNat} ws bs
def aaV (s:List Int) (f:Frame) (V:List ac) (ids:List Nat) (j:Int) (bs:List (List Bool)) (ws:List ac):Prop:=
 ∃g,uW s f (my s f (nth V j)) (nth V j).ab g∧dc V ids j {nth V j with aa:=my s f (nth V j),ab:=g} ws bs
theorem ad7 {s:List Int} {f:Frame} {aa:List Bool} {g:Int} (hs:s.length≤1048576) (h:decide (g<(s.length:Int))=true):
  ((!(nth aa g)) || ((nth f.aC (nth s g)) || ((decide (g<(IntKind.i64.wrap ((s.length:Int) - 1))))&&(!(nth aa (IntKind.i64.wrap (g+1)))))))= !mr s f aa g:=by
 unfold mr
 rw[h,Bool.true_and,iU (n:=(s.length:Int) - 1) (by omega) (by omega)]
 have:(g==(s.length:Int) - 1)= !decide (g<(s.length:Int) - 1):=by
  have h:g<(s.length:Int):=by simpa using h
  rw[Bool.eq_iff_iff];simp;omega
 rw[this]
 cases nth aa g<;>cases nth f.aC (nth s g)<;>cases decide (g<(s.length:Int) - 1)<;>cases nth aa (IntKind.i64.wrap (g+1))<;>rfl
def n_:List (Nat×TV)→Bool
 | []=>true
 | (k,_)::r=>match Nat.ble 1000010 k&&Nat.blt k 1000000000000 with
  | true=>n_ r
  | false=>false
theorem zr {l:List (Nat×TV)} (h:n_ l=true) {k:Nat} (hk:k<1000010∨1000000000000≤k): ∀v,(k,v) ∉ l:=by
 induction l with
 | nil=>intro v hv;cases hv
 | cons p r bE=>
  obtain⟨a,w⟩:=p
  unfold n_ at h
  split at h
  ·rename_i aF
   rw[Bool.and_eq_true,Nat.blt_eq] at aF
   intro v hv
   rcases List.mem_cons.1 hv with e | hv
   ·cases e;have:=Nat.le_of_ble_eq_true aF.1;have:=aF.2;omega
   ·exact bE h v hv
  ·cases h
def TS.add (s:TS) (l:List (Nat×TV)) (vs:List (Nat×Nat)) (bb:Nat):TS:=⟨l++s.T,s.B,vs,bb⟩
theorem TS.h6 (s:TS) (l:List (Nat×TV)) (vs:List (Nat×Nat)) (bb k:Nat):(s.add l vs bb).get k=gG l k (s.get k):=by
 unfold TS.get TS.add;exact tk ..
theorem wS {n:Nat} {s:TS} {l:List (Nat×TV)} {vs:List (Nat×Nat)} {bb:Nat} (ao:n≤1000000) (h:n_ l=true):(s.add l vs bb).tT n=s.tT n:=by
 show(List.range n).map _=(List.range n).map _
 refine List.map_congr_left fun t bn=> ?_
 have bn:t<n:=List.mem_range.1 bn
 rw[TS.h6,rT (zr h (.inl (by omega)))]
theorem Bb {s s':TS} (e:s'.get dj=s.get dj):iv s'=iv s:=by unfold iv;rw[e]
theorem HF [FZ] {n:Nat} {s s':TS} (hb:s'.bb=s.bb) (e: ∀b,s'.get (bJ b)=s.get (bJ b)) (b3:s'.get dj=s.get dj):(s'.ay n).H=(s.ay n).H:=by
 show s'.f_++gN s'=s.f_++gN s
 unfold TS.f_ gN
 rw[Bb b3,hb]
 simp only[e]
theorem wR [FZ] {n:Nat} {s:TS} {l:List (Nat×TV)} {vs:List (Nat×Nat)} (h:n_ l=true):((s.add l vs s.bb).ay n).H=(s.ay n).H:=
 HF rfl (fun b=>by rw[TS.h6,rT (zr h (.inr (by unfold bJ;omega)))]) (by rw[TS.h6,rT (zr h (.inl (by unfold dj;omega)))])
theorem wT [FZ] {s:TS} {l:List (Nat×TV)} {vs:List (Nat×Nat)} {bb:Nat} (h:n_ l=true) (f:Fits s):Fits (s.add l vs bb):=
 f.congr fun k _ h2=>by rw[TS.h6,rT (zr h (.inl h2))]
def sG (v:Nat):Nat→List TV→List (Nat×TV)
 | _,[]=>[]
 | c,a::r=>(iN v c,a)::sG v (c+1) r
def TS.gv (s:TS) (b bb:Nat) (v:TV):TS:=s.add [(bJ b,v)] s.vs bb
theorem CN (s:TS) {b bb:Nat} {v:TV} {k:Nat} (h:k<1000000000000):(s.gv b bb v).get k=s.get k:=by
 unfold TS.gv
 rw[TS.h6,gP,if_neg (by unfold bJ;omega)];rfl
theorem o9 {n:Nat} {s:TS} {b bb:Nat} {v:TV} (ao:n≤1000000):(s.gv b bb v).tT n=s.tT n:=by
 show(List.range n).map _=(List.range n).map _
 refine List.map_congr_left fun t bn=> ?_
 have bn:t<n:=List.mem_range.1 bn
 rw[CN s (by omega)]
theorem o_ [FZ] {s:TS} {b bb:Nat} {v:TV} (f:Fits s):Fits (s.gv b bb v):=f.congr fun k _ h2=>CN s (by omega)
theorem IP {s:TS} {b bb:Nat} {v:TV}:iv (s.gv b bb v)=iv s:=Bb (CN s (by unfold dj;omega))
theorem IN (s:TS) (b bb:Nat) (v:TV) (bT:Nat):(s.gv b bb v).get (bJ bT)=if b=bT then v else s.get (bJ bT):=by
 unfold TS.gv
 rw[TS.h6,gP]
 by_cases h:b=bT
 ·subst h;rw[if_pos rfl,if_pos rfl]
 ·rw[if_neg h,if_neg (by unfold bJ;omega)];rfl
theorem uz [FZ] {n:Nat} {s:TS} {b:Nat} {v:TV} (h:b<s.bb):((s.gv b s.bb v).ay n).H=(s.ay n).H.set b v.eM:=by
 show(s.gv b s.bb v).f_++gN (s.gv b s.bb v)=(s.f_++gN s).set b v.eM
 rw[List.set_append_left _ _ (by rw[l9];exact h)]
 have e2:gN (s.gv b s.bb v)=gN s:=by unfold gN;rw[IP]
 rw[e2]
 congr 1
 apply List.ext_getElem?
 intro i
 rw[oY,List.getElem?_set,oY,l9,IN]
 show(if i<s.bb then _ else _)=_
 by_cases hi:b=i
 ·subst hi;simp[h]
 ·simp[hi]
theorem zu [FZ] {n:Nat} {s:TS} {v:TV} (eo:iv s=true):((s.gv s.bb (s.bb+1) v).ay n).H=(s.ay n).H++[v.eM]:=by
 show(s.gv s.bb (s.bb+1) v).f_++gN (s.gv s.bb (s.bb+1) v)=(s.f_++gN s)++[v.eM]
 unfold gN
 rw[IP,eo]
 show(s.gv s.bb (s.bb+1) v).f_++[]=(s.f_++[])++[v.eM]
 rw[List.append_nil,List.append_nil]
 apply List.ext_getElem?
 intro i
 rw[oY,IN]
 show(if i<s.bb+1 then _ else _)=_
 rcases Nat.lt_trichotomy i s.bb with h | h | h
 ·rw[if_pos (by omega),if_neg (by omega),List.getElem?_append_left (by rw[l9];exact h),oY,if_pos h]
 ·subst h
  rw[if_pos (by omega),if_pos rfl,List.getElem?_append_right (by rw[l9];exact Nat.le_refl _),l9];simp
 ·rw[if_neg (by omega),List.getElem?_eq_none (by rw[List.length_append,l9];simp;omega)]
def tU (P:Program) (t:TypeId) (v:AV):Bool:=(P.info? t).isSome&&Nat.beq (eP v).length (P.cellsOf t)&&(eP v).all iS
theorem B0 {P:Program} {t:TypeId} {v:AV} (h:tU P t v=true):(P.info? t).isSome=true∧(eP v).length=P.cellsOf t∧(eP v).all iS=true:=by
 simp only[tU,Bool.and_eq_true] at h
 exact⟨h.1.1,Nat.eq_of_beq_eq_true h.1.2,h.2⟩
def HG (P:Program) (n:Nat) (t:TypeId) (b g:Nat) (i:Int) (m c:Nat) (v:TV) (s:TS) (K:TS→aJ):aJ:=match vC v with
 | false=> .no
 | true=>p7 s b g fun e xs e3 h=>w3 s e.b2 ((iC true e (r4 e xs i)).take c++pa v++(iC true e (r4 e xs i)).drop (c+(pa v).length)) fun dW _=>
  let y:=e.mk dW
  let s':=s.gv b s.bb (.blk g e (xs.set i.toNat y) e3 (by rw[List.length_set];exact h))
  .eq e3 m (.eq (tU P t v.bq) true (.eq (Nat.ble (c+(eP v.bq).length) e.jB) true (.eq (gh (cq true e (r4 e xs i)) c (eP v.bq)) (cq true e y) (.eq s'.cg s.cg (.p (i.toNat<m) (K s'))))))
def A3 (P:Program) (t:TypeId):Option (List AV×Nat):=match im P t with
 | some e=>(match ma P e with
  | some z=>(match Nat.beq z.length (P.cellsOf e)&&z.all iS with
   | true=>some (z.map lA,P.bytesOf e)
   | false=>none)
  | none=>none)
 | none=>none
theorem Nx {P:Program} {t:TypeId} {Q9:List AV} {B:Nat} (h:A3 P t=some (Q9,B)): ∃e z,im P t=some e∧ma P e=some z∧z.length=P.cellsOf e∧z.all iS=true∧Q9=z.map lA∧B=P.bytesOf e:=by
 unfold A3 at h
 split at h
 ·rename_i e he
  split at h
  ·rename_i z aH
   split at h
   ·rename_i hc
    simp only[Bool.and_eq_true] at hc
    cases h
    exact⟨e,z,he,aH,Nat.eq_of_beq_eq_true hc.1,hc.2,rfl,rfl⟩
   ·cases h
  ·cases h
 ·cases h
def pc (P:Program) (t:TypeId):Nat:=match im P t with
 | some e=>P.bytesOf e
 | none=>0
def Uw (e:aU) (c:List TV):e.T:=match e.isS with
 | true=>e.mk (oj e.b2 c)
 | false=>D1 e (c.getD 0 .u)
def F_ (P:Program) (n:Nat) (t:TypeId) (e:aU) (l c:TV) (s:TS) (K:TV→TS→aJ):aJ:=match l with
 | .i _ l=>(match c with
  | .i _ c=>
   let aL:=Uw e (match im P t with
    | some mF=>y0 P mF
    | none=>[])
   let xs:=List.replicate l.toNat aL
   let s':=s.gv s.bb (s.bb+1) (.blk 0 e xs xs.length rfl)
   .eq (A3 P t) (some (cq true e aL,pc P t)) (.eq l c (.eq s'.cg s.cg (.eq (iv s) true (.p (0≤l∧(pc P t:Int)*l≤140737488355328∧l≤4611686018427387904) (K (.ref s.bb 0 xs.length false) s')))))
  | _=> .no)
 | _=> .no
def zm (P:Program) (t t2:TypeId) (x:AV):Option (Nat×Nat):=match im P t with
 | some e=>(match ma P e with
  | some z=>(match Nat.beq z.length (P.cellsOf e)&&Nat.blt 0 z.length&&sB P e t2 x with
   | true=>some (z.length,P.bytesOf e)
   | false=>none)
  | none=>none)
 | none=>none
theorem IB {P:Program} {t t2:TypeId} {x:AV} {m B:Nat} (h:zm P t t2 x=some (m,B)): ∃e z,im P t=some e∧ma P e=some z∧(z.length=P.cellsOf e∧0<z.length∧sB P e t2 x=true)∧m=z.length∧B=P.bytesOf e:=by
 unfold zm at h
 split at h
 ·rename_i e he
  split at h
  ·rename_i z aH
   split at h
   ·rename_i hc
    simp only[Bool.and_eq_true] at hc
    cases h
    exact⟨e,z,he,aH,⟨Nat.eq_of_beq_eq_true hc.1.1,by rw[←Nat.blt_eq];exact hc.1.2,hc.2⟩,rfl,rfl⟩
   ·cases h
  ·cases h
 ·cases h
def aU.flat:aU→Bool
 | .int | .u64 | .u8 | .bool | .str | .bO | .mo | .ev | .fault=>true
 | _=>false
theorem TN {e:aU} (h:e.flat=true) (x:e.T):cq false e x=cq true e x:=by cases e<;>first | rfl | cases h
theorem abD (e:aU) (x:e.T):(cq false e x).map nX=cq true e x:=by
 rw[←ml,←ml]
 have key: ∀(es:List aU) (y:cA es),(h8 false es y).map nX=h8 true es y:=by
  intro es
  induction es with
  | nil=>intro y;rfl
  | cons e r bE=>
   intro y
   show nX (iE false e y.1)::(h8 false r y.2).map nX=_
   rw[bE,h8]
   congr 1
   cases e<;>rfl
 exact key _ _
theorem OM {e:aU} {fr:Bool} (h:(fr || e.flat)=true) (xs:List e.T):lu fr (xs.map (cq false e))=xs.map (cq true e):=by
 cases fr with
 | true=>
  show(xs.map (cq false e)).map (fun row=>row.map nX)=_
  rw[List.map_map]
  exact List.map_congr_left fun x _=>abD e x
 | false=>exact List.map_congr_left fun x _=>TN h x
def CD (P:Program) (n:Nat) (t t2:TypeId) (v x:TV) (s:TS) (K:TV→TS→aJ):aJ:=match x with
 | .l e ys iF fr=>(match(fr || e.flat)&&e.nU with
  | false=> .no
  | true=>(match v with
   | .nil full _=>(match full with
    | true=>
     let s':=s.gv s.bb (s.bb+1) (.blk 0 e ys ys.length rfl)
     .eq (zm P t t2 (TV.l e ys iF fr).bq) (some (e.jB,pc P t)) (.eq s'.cg s.cg (.eq (iv s) true (.p (ys.length*pc P t≤140737488355328∧ys.length≤4611686018427387904) (K (.ref s.bb 0 ys.length false) s'))))
    | false=> .no)
   | .ref b g m _=>p7 s b g fun b3 xs e3 h=>if he:e=b3 then
     let hS:=xs++kX he ys
     let s':=s.gv b s.bb (.blk (g+1) b3 hS hS.length rfl)
     .eq e3 m (.eq (zm P t t2 (TV.l e ys iF fr).bq) (some (e.jB,pc P t)) (.eq s'.cg s.cg (.p ((xs.length+ys.length)*pc P t≤140737488355328∧xs.length+ys.length≤4611686018427387904) (K (.ref b (g+1) hS.length false) s'))))
    else .no
   | _=> .no))
 | _=> .no
section
variable {P:Program} (cf:gC P) (s:TS)
def xf (o:Oper) (v:TV) (l:List (Nat×TV)) (vs:List (Nat×Nat)) (K:TV→TS→aJ):aJ:=match n_ l with
 | true=> .eq (fun H Q=>jq P [] o (fun x=>(cx cf.n s x).bq) s.cg H Q) (fun H Q=>Q v.bq (s.add l vs s.bb).cg H) (K v (s.add l vs s.bb))
 | false=> .no
end
section
variable {P:Program} {cf:gC P} {s:TS} {R:Exit→TS→Prop}
variable {K:TV→TS→aJ} {Kp:AV→List (Nat×List AV)→List Blk→Prop}
theorem Bf {b:Bool} {x:Prop} (h:b=true) (k:x):eu b x:=by subst h;exact k
end
section
variable {P:Program} {cf:gC P} {s:TS} {R:Exit→TS→Prop}
variable {K:TV→TS→aJ} {Kp:AV→List (Nat×List AV)→List Blk→Prop}
theorem Sd {t:TypeId} {m:Nat} {parts:List (Nat×AV)} {L:List (Nat×List AV)} {H:List Blk} {d:Option Nat} (h:uF P t m parts fun r=>Kp r L H):sF P (sK [] d) (tL []) t m parts L H Kp:=by
 obtain⟨e,he,h⟩:=e8 h
 obtain⟨z,aH,h⟩:=e8 h
 refine dN he (dN aH ?_)
 split at h
 ·rename_i hc
  rw[if_pos hc]
  obtain⟨cells,hf,h⟩:=e8 h
  refine dN hf ?_
  split at h
  ·rename_i hb
   have:sK [] d=false:=by cases d<;>rfl
   rw[this]
   show if cells.all iB=true then _ else _
   rw[if_pos hb];exact h
  ·exact h.elim
 ·exact h.elim
end
section
variable {P:Program} {cf:gC P} {s:TS} {R:Exit→TS→Prop}
variable {K:TV→TS→aJ} {Kp:AV→List (Nat×List AV)→List Blk→Prop}
theorem OK {o:Oper} {bF:Operand→AV} {L:List (Nat×List AV)} {H:List Blk} (h:i_ P o bF L H fun r=>Kp r L H) (hc: ∀c,o.op≠ .call c) (hb: ∀t m ps,o.op≠ .buildSlice t m ps):jq P [] o bF L H Kp:=by
 have h':=zV h
 obtain⟨dst,op,ty,pos,after,guard⟩:=o
 cases op<;>first | exact h' | exact h'.elim | exact absurd rfl (hc _) | exact absurd rfl (hb _ _ _)
end
section
variable {P:Program} {cf:gC P} {s:TS} {R:Exit→TS→Prop}
variable {K:TV→TS→aJ} {Kp:AV→List (Nat×List AV)→List Blk→Prop}
theorem GH {o:Oper} {c:Call} {bF:Operand→AV} {L:List (Nat×List AV)} {H:List Blk} (aG:o.op= .call c) (h:i_ P o bF L H fun r=>Kp r L H):jq P [] o bF L H Kp:=by
 have h':=zV h
 obtain⟨dst,op,ty,pos,after,guard⟩:=o
 cases aG
 obtain⟨callee,args,argTypes⟩:=c
 cases callee with
 | builtin b=>
  cases b with
  | len=>exact h'
  | _=>exact h'.elim
 | value f=>
  have h':kW (bF f) fun g caps=>nD P g (args.toList.map bF++caps) L H fun r=>Kp r L H:=h'
  show kW (bF f) fun g caps=>kw P g (args.toList.map bF++caps) L H Kp
  cases hf:bF f with
  | fn g caps=>rw[hf] at h';exact .inl h'
  | _=>rw[hf] at h';exact h'.elim
 | _=>exact h'.elim
end
section
variable {P:Program} {cf:gC P} {s:TS} {R:Exit→TS→Prop}
variable {K:TV→TS→aJ} {Kp:AV→List (Nat×List AV)→List Blk→Prop}
theorem aby {o:Oper} {t:TypeId} {m:Nat} {ps:Array (Nat×Operand)} {bF:Operand→AV} {L:List (Nat×List AV)} {H:List Blk} (aG:o.op= .buildSlice t m ps) (h:i_ P o bF L H fun r=>Kp r L H):jq P [] o bF L H Kp:=by
 have h':=zV h
 obtain⟨dst,op,ty,pos,after,guard⟩:=o
 cases aG
 obtain⟨h1,h2⟩:=oI (show eu (ps.toList.all fun p=>et (bF p.2)) (uF P t m (ps.toList.map fun p=>(p.1,bF p.2)) fun r=>Kp r L H) from h')
 show eu (ps.toList.all fun p=>et (bF p.2)) (sF P (sK [] dst) (tL []) t m (ps.toList.map fun p=>(p.1,bF p.2)) L H Kp)
 rw[h1];exact Sd h2
end
section
variable [Z:FZ] {P:Program} {cf:gC P} {s:TS} {R:Exit→TS→Prop}
def us (cf:gC P) (s:TS) (R:Exit→TS→Prop) (K:TV→TS→aJ) (Kp:nt Prop):Prop:=
 ∀v s' (Z':FZ),(K v s').den R→ @Fits Z' s'→s'.tT cf.n=s.tT cf.n→Kp v.bq s'.cg (@TS.ay Z' cf.n s').H
variable {K:TV→TS→aJ} {Kp:AV→List (Nat×List AV)→List Blk→Prop}
theorem ad2 (ao:cf.n≤1000000) {t:TypeId} {b g m c:Nat} {i:Int} {v:TV} {K:TS→aJ} {Kp:List (Nat×List AV)→List Blk→Prop} (aH:Fits s) (hK: ∀s' (Z':FZ),(K s').den R→ @Fits Z' s'→s'.tT cf.n=s.tT cf.n→Kp s'.cg (@TS.ay Z' cf.n s').H) (h:(HG P cf.n t b g i m c v s K).den R):
  eu (et v.bq) (k7 P t (.ptr b g i.toNat c) v.bq (s.ay cf.n).L (s.ay cf.n).H Kp):=by
 unfold HG at h
 split at h
 ·exact h.elim
 ·rename_i hv
  obtain⟨e,xs,e3,hm,h,hb,aB⟩:=uA (n:=cf.n) h
  obtain⟨dW,o,h,_⟩:=zF aH (n:=cf.n) h
  obtain⟨h1,h2,aM,bx,c9,e6,h⟩:=h
  refine Bf (Be hv) ?_
  have aX:i.toNat<xs.length:=by omega
  have hs:=B0 h2
  unfold k7
  rw[if_pos hs]
  refine dN aB ⟨rfl,dN (Ge aX true) ⟨?_,?_⟩⟩
  ·rw[sI];exact Nat.le_of_ble_eq_true aM
  ·have:=hK _ Z h (o_ aH) (o9 ao)
   rw[uz hb,c9] at this
   rw[bx]
   have aR: ∀y:e.T,(xs.map (cq true e)).set i.toNat (cq true e y)=(xs.set i.toNat y).map (cq true e):=fun y=>by rw[List.map_set]
   rw[aR];exact this
theorem aac (ao:cf.n≤1000000) (aH:Fits s) {t:TypeId} {e:aU} {l c:TV} (hK:us cf s R K Kp) (h:(F_ P cf.n t e l c s K).den R):vx P t l.bq c.bq (s.ay cf.n).L (s.ay cf.n).H Kp:=by
 unfold F_ at h
 split at h
 ·split at h
  ·obtain⟨h1,h2,aM,eo,bx,h⟩:=h
   rename_i A1 vt l nE X0 c
   subst h2
   obtain⟨mF,z,q1,q2,q3,q4,cW,cO⟩:=Nx h1
   refine dN q1 (dN q2 ?_)
   rw[if_pos ⟨q3,q4⟩]
   refine⟨bx.1,Int.le_refl _,by rw[←cO];exact bx.2.1,bx.2.2,?_⟩
   have:=hK _ _ Z h (o_ aH) (o9 ao)
   rw[zu eo,aM] at this
   rw[B2 eo,←cW]
   have aH:z.length=e.jB:=by
    have:=congrArg List.length cW
    rw[List.length_map,sI] at this;exact this.symm
   rw[aH]
   have aE: ∀aL:e.T,(List.replicate l.toNat aL).length=l.toNat:=fun aL=>List.length_replicate
   show Kp (.ref s.bb 0 0 l.toNat false) _ ((s.ay cf.n).H++[⟨0,e.jB,List.replicate l.toNat (cq true e _)⟩])
   rw[←List.map_replicate]
   have this:Kp (.ref s.bb 0 0 (List.replicate l.toNat _).length false) (s.ay cf.n).L ((s.ay cf.n).H++[⟨0,e.jB,(List.replicate l.toNat _).map (cq true e)⟩]):=this
   rw[aE] at this
   exact this
  ·exact h.elim
 ·exact h.elim
theorem RS (ao:cf.n≤1000000) (aH:Fits s) {t t2:TypeId} {v x:TV} (hK:us cf s R K Kp) (h:(CD P cf.n t t2 v x s K).den R):et v.bq=true∧et x.bq=true∧sA P t t2 v.bq x.bq (s.ay cf.n).L (s.ay cf.n).H Kp:=by
 unfold CD at h
 split at h
 ·rename_i e ys iF fr
  split at h
  ·exact h.elim
  ·rename_i hc
   simp only[Bool.and_eq_true] at hc
   have eO: ∀(hS:List e.T) (k:Nat),e.jB=k→se k (hS.map (cq true e)):=fun hS k hk row av=>by
    obtain⟨y,_,rfl⟩:=List.mem_map.1 av
    refine⟨by rw[sI,hk],fun a aF=>List.all_eq_true.1 (Tp (fr:=true) hc.2 y) a aF⟩
   have c5: ∀{mF},im P t=some mF→pc P t=P.bytesOf mF:=fun h=>by unfold pc;rw[h]
   split at h
   ·split at h
    ·rename_i full aeZ
     obtain⟨h1,h2,eo,aM,h⟩:=h
     obtain⟨mF,z,q1,q2,q3,q4,cW⟩:=IB h1
     refine⟨rfl,rfl,dN q1 (dN q2 ?_)⟩
     rw[if_pos q3]
     show _∧_
     have hx:lu fr (List.map (cq false e) ys)=ys.map (cq true e):=OM hc.1 ys
     rw[hx]
     refine⟨eO ys _ q4,rfl,(fun row h=>by cases h),?_,?_,(fun h=>absurd rfl h),?_⟩
     ·rw[List.length_map,←c5 q1];simpa using aM.1
     ·rw[List.length_map];simpa using aM.2
     ·have:=hK _ _ Z h (o_ aH) (o9 ao)
      rw[zu eo,h2] at this
      rw[B2 eo,←q4,List.length_map]
      simp only[List.length_nil,Nat.zero_add,List.nil_append]
      exact this
    ·exact h.elim
   ·rename_i b g m de
    obtain⟨b3,xs,e3,hm,h,hb,aB⟩:=uA (n:=cf.n) h
    split at h
    ·rename_i he
     subst he
     obtain⟨h1,h2,aM,bx,sL⟩:=h
     subst h1
     obtain⟨mF,z,q1,q2,q3,q4,cW⟩:=IB h2
     refine⟨rfl,rfl,dN q1 (dN q2 ?_)⟩
     rw[if_pos q3]
     show _∧_
     have hx:lu fr (List.map (cq false e) ys)=ys.map (cq true e):=OM hc.1 ys
     rw[hx]
     refine⟨eO ys _ q4,rfl,dN aB ⟨rfl,q4,by rw[List.length_map];exact hm,?_,?_,?_⟩⟩
     ·rw[List.length_map,←hm,←c5 q1];exact bx.1
     ·rw[List.length_map,←hm];exact bx.2
     ·have:=hK _ _ Z sL (o_ aH) (o9 ao)
      rw[uz hb,aM] at this
      rw[←q4,List.length_map,←hm,←List.map_append,←List.length_append]
      exact this
    ·exact h.elim
   ·exact h.elim
 ·exact h.elim
theorem D7 (ao:cf.n≤1000000) (aH:Fits s) {o:Oper} {v:TV} {l:List (Nat×TV)} {vs:List (Nat×Nat)} (hK:us cf s R K Kp) (h:(xf cf s o v l vs K).den R):jq P [] o (cb (s.ay cf.n).T) (s.ay cf.n).L (s.ay cf.n).H Kp:=by
 unfold xf at h
 split at h
 ·rename_i hb
  obtain⟨e,h⟩:=h
  rw[ki,show(fun x=>(cx cf.n s x).bq)=(fun x=>(cx cf.n s x).bq) from rfl]
  have e:=congrFun (congrFun e (s.ay cf.n).H) Kp
  have e:jq P [] o (fun x=>(cx cf.n s x).bq) (s.ay cf.n).L (s.ay cf.n).H Kp=_:=e
  rw[e]
  have:=hK _ _ Z h (wT hb aH) (wS ao hb)
  rw[wR hb] at this;exact this
 ·exact h.elim
end
end Go.Proofs.YtglpfccgmfhkdaaGreat.Fw
