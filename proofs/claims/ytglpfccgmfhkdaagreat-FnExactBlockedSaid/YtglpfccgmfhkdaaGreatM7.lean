/- impl.Blocked, by hand: its lists are its own. -/
import Derived.Test.YtglpfccgmfhkdaaGreatM6
set_option linter.unusedVariables false
namespace Go.Proofs.YtglpfccgmfhkdaaGreat.Fw
open Go Go.RowKit
theorem SL {p:aK} {f:Frame} {k:Int} (ai:ww p f k) {w:World} {v u:Value} (h:V2 (Env.at w) (.agg (bW false p)) v) (h':V2 (Env.at w) (.agg (b9 false f)) u):
    Calls Tryz.prog 51 #[v,u,.int .i64 k] w fun e w'=> ∃bQ bA bL br bK bm L,e= .returned (.tuple #[.agg #[.slice bQ (hd p f k).O.length bA,.slice bL (hd p f k).ad.length br,.slice bK (hd p f k).aq.length bm],.bool (DT p f k),.bool (G6 p f k)])∧Below w.heap.size w w'∧dX w' (eG w w') (.agg (gm false (hd p f k))) (.agg #[.slice bQ (hd p f k).O.length bA,.slice bL (hd p f k).ad.length br,.slice bK (hd p f k).aq.length bm])∧iX .int .int .int w' (eG w w') bQ bL bK (hd p f k).O.length bA (hd p f k).ad.length br (hd p f k).aq.length bm L∧kb L∧L.length=(hd p f k).O.length+(hd p f k).ad.length+(hd p f k).aq.length:=
  p2.XT (vs:=[v,u,.int .i64 k]) (WV p f k ai) (.cons h (.cons h' (.cons (aW.int _ _) .nil)))
theorem C3 {p:aK} {f:Frame} (ai:qe p f) {w:World} {v u:Value} (h:V2 (Env.at w) (.agg (bW false p)) v) (h':V2 (Env.at w) (.agg (b9 false f)) u):
    Calls Tryz.prog 49 #[v,u] w fun e w'=>e= .returned (.bool (hJ p f))∧Below w.heap.size w w':=
  bg.bool (vs:=[v,u]) (WN p f ai) (.cons h (.cons h' .nil))
theorem I6 {i n:Int} {w:World}:
    Calls Tryz.prog 50 #[.int .i64 i,.int .i64 n] w fun e w'=>e= .returned (.bool (lq i n))∧Below w.heap.size w w':=
  bg.bool (vs:=[.int .i64 i,.int .i64 n]) (Xe i n) (.cons (aW.int _ _) (.cons (aW.int _ _) .nil))
def r1 (s:fu):Nat:=s.O.length+s.ad.length+s.aq.length
theorem V2.below {a:AV} {v:Value} {w w':World} (h:V2 (Env.at w) a v) (hb:Below w.heap.size w w'):V2 (Env.at w') a v:=
  V2.le (E:=Env.at w) (E':=Env.at w') ⟨fun c hc=>Nat.lt_of_lt_of_le hc hb.size,fun _ h=>h.elim,fun c hc=>hb.block c hc,fun _ h=>h.elim,fun _=>Nat.le_refl _,(fun _ _ h _=>by cases h),(fun _ _ h=>by cases h)⟩ h
theorem lL {w:World} {b:Nat} {bA br bm:Value} {ty:TypeId} (h:w.heap[b]?=some (.cells #[bA,br,bm] ty (0,0))):w.cell? ⟨b,0,none⟩=some bA∧w.cell? ⟨b,1,none⟩=some br∧w.cell? ⟨b,2,none⟩=some bm:=by
  refine⟨?_,?_,?_⟩<;>simp[World.cell?,h]
theorem wX {w:World} {b:Nat} {bA br bm:Value} {ty:TypeId} (h:w.heap[b]?=some (.cells #[bA,br,bm] ty (0,0))):w.frozen? ⟨b,0,none⟩=false∧w.frozen? ⟨b,1,none⟩=false∧w.frozen? ⟨b,2,none⟩=false:=by
  refine⟨?_,?_,?_⟩<;>simp[World.frozen?,h]
theorem CW {w:World} {b o:Nat} {v:Value} (h:(w.cell? ⟨b,o,none⟩).isSome=true):(w.setCell ⟨b,o,none⟩ v).cell? ⟨b,o,none⟩=some v:=by
  obtain⟨u,hu⟩:=Option.isSome_iff_exists.1 h
  exact CV hu
theorem SD {w:World} {b o:Nat} {x:Obj} (h:b<w.heap.size):(w.alloc x).cell? ⟨b,o,none⟩=w.cell? ⟨b,o,none⟩:=
  ((Below.refl w.heap.size w).alloc (Nat.le_refl _) x).cell (p:=⟨b,o,none⟩) h
theorem Ba (w:World) (B:Nat→Prop):dX w B (.agg (gm false ⟨[],[],[]⟩)) (.agg #[.slice none 0 0,.slice none 0 0,.slice none 0 0])∧iX .int .int .int w B none none none 0 0 0 0 0 0 []∧kb []:=by
  have r:b1 (Env.ro w B) (.aV [] false false) (.slice none 0 0):=aW.aV (rows:=[]) (PB:=fun _=>False) (sz:=0) (vs:=fun _ _=>undef) (fun _ h=>h.elim) ⟨Nat.zero_le _,Nat.zero_le _⟩ (fun h=>by cases h) (fun i row h=>by simp at h) (fun h=>by simp at h) (fun i j row a h=>by simp at h)
  have s:ee w B (.l .int) 0 0 [] (.slice none 0 0):= .aV (e:= .int) (n:=0) (Ls:=fun _ _=>[]) (vs:=fun _ _=>undef) 0 0 ⟨Nat.zero_le _,Nat.zero_le _⟩ (fun h=>absurd h (by omega)) (fun i j b3 hi _=>by omega)
  exact⟨⟨[.slice none 0 0,.slice none 0 0,.slice none 0 0],rfl,.cons r (.cons r (.cons r .nil))⟩,⟨[],[],[],rfl,s,s,s⟩,List.Pairwise.nil⟩
set_option maxHeartbeats 4000000
set_option maxRecDepth 100000
theorem aew (p:aK) (f:Frame) (k:Int) (ai:qe p f) (w:World) (fM fN fO fP fa fQ:Option Addr) (aL bC bV dW dO eE:Nat)
    (h1:V2 (Env.at w) (.agg (bW false p)) (.agg #[.int .i64 p.ad,.slice fM p.bd.length aL,.slice fN p.O.length bC,.slice fO p.bt.length bV,.int .i64 p.cS]))
    (h2:V2 (Env.at w) (.agg (b9 false f)) (.agg #[.bool f.ok,.slice fP f.aC.length dW,.slice fa f.aq.length dO,.slice fQ f.O.length eE])) (hf:(hJ p f&&lq k p.O.length)=false):
    Calls Tryz.prog 11 #[.agg #[.int .i64 p.ad,.slice fM p.bd.length aL,.slice fN p.O.length bC,.slice fO p.bt.length bV,.int .i64 p.cS],.agg #[.bool f.ok,.slice fP f.aC.length dW,.slice fa f.aq.length dO,.slice fQ f.O.length eE],.int .i64 k] w fun e w'=> ∃bQ bA bL br bK bm L,e= .returned (.agg #[.slice bQ (⟨[],[],[]⟩:fu).O.length bA,.slice bL (⟨[],[],[]⟩:fu).ad.length br,.slice bK (⟨[],[],[]⟩:fu).aq.length bm])∧Below w.heap.size w w'∧dX w' (eG w w') (.agg (gm false (⟨[],[],[]⟩:fu))) (.agg #[.slice bQ (⟨[],[],[]⟩:fu).O.length bA,.slice bL (⟨[],[],[]⟩:fu).ad.length br,.slice bK (⟨[],[],[]⟩:fu).aq.length bm])∧iX .int .int .int w' (eG w w') bQ bL bK (⟨[],[],[]⟩:fu).O.length bA (⟨[],[],[]⟩:fu).ad.length br (⟨[],[],[]⟩:fu).aq.length bm L∧kb L∧L.length=r1 (⟨[],[],[]⟩:fu):=by
  cases af:hJ p f with
  | true=>
    have hi:lq k p.O.length=false:=by rw[af] at hf;exact hf
    have wJ:=Lib.hid af;clear af
    have sr:=Lib.hid hi;clear hi hf
    have H1:=Lib.hid h1;clear h1
    have h3:=Lib.hid h2;clear h2
    have wI:=Lib.hid ai;clear ai
    have iV:Hid (cl w (((w.alloc (.cells #[.int .i64 p.ad,.slice fM p.bd.length aL,.slice fN p.O.length bC,.slice fO p.bt.length bV,.int .i64 p.cS] 39)).alloc (.cells #[.bool f.ok,.slice fP f.aC.length dW,.slice fa f.aq.length dO,.slice fQ f.O.length eE] 44)).alloc (.cells #[.slice none 0 0,.slice none 0 0,.slice none 0 0] 35)) [dI w.heap.size #[.int .i64 p.ad,.slice fM p.bd.length aL,.slice fN p.O.length bC,.slice fO p.bt.length bV,.int .i64 p.cS] 39,dI (w.heap.size+1) #[.bool f.ok,.slice fP f.aC.length dW,.slice fa f.aq.length dO,.slice fQ f.O.length eE] 44,dI (w.heap.size+1+1) #[.slice none 0 0,.slice none 0 0,.slice none 0 0] 35]):=by
      have:=(((cl.start w).box #[.int .i64 p.ad,.slice fM p.bd.length aL,.slice fN p.O.length bC,.slice fO p.bt.length bV,.int .i64 p.cS] 39).box #[.bool f.ok,.slice fP f.aC.length dW,.slice fa f.aq.length dO,.slice fQ f.O.length eE] 44).box #[.slice none 0 0,.slice none 0 0,.slice none 0 0] 35
      simp only[World.size_alloc] at this
      exact this
    go_enter Tryz.func11,Tryz.ntmps11
    go_wp2_with (go_at_call 49;refine(C3 wI.out (H1.out.below iV.out.end) (h3.out.below iV.out.end)).mono ?_)
    rw[wJ.out]
    first
    | (rintro e bz rfl hb)
    | (rintro e bz ⟨rfl,hb⟩)
    have kR:=Lib.hid (iV.out.below hb);clear hb iV
    obtain⟨b5,q1,q2,q3,q4⟩:=p8 (kR.out.get 0)
    go_wp2_with (go_at_call 50;refine(I6).mono ?_)
    rw[sr.out]
    first
    | (rintro e bM rfl hb)
    | (rintro e bM ⟨rfl,hb⟩)
    have hE:=Lib.hid (kR.out.below hb);clear hb kR b5 q1 q2 q3 q4
    obtain⟨eC,cZ,dg⟩:=wX (hE.out.get 2)
    obtain⟨b5,q1,q2⟩:=lL (hE.out.get 2)
    go_wp2
    (try simp only[Exit.inBlock,Exit.then])
    refine bodyPost_ret (by simp[results,Tryz.results11,go_sem,CW,b5,q1,q2];try rfl) rfl ?_
    exact⟨none,0,none,0,none,0,[],rfl,((hE.out.end.setCell (by show w.heap.size≤w.heap.size+1+1;omega) _).setCell (by show w.heap.size≤w.heap.size+1+1;omega) _).setCell (by show w.heap.size≤w.heap.size+1+1;omega) _,(Ba _ _).1,(Ba _ _).2.1,List.Pairwise.nil,rfl⟩
  | false=>
    clear hf
    have wJ:=Lib.hid af;clear af
    have H1:=Lib.hid h1;clear h1
    have h3:=Lib.hid h2;clear h2
    have wI:=Lib.hid ai;clear ai
    have iV:Hid (cl w (((w.alloc (.cells #[.int .i64 p.ad,.slice fM p.bd.length aL,.slice fN p.O.length bC,.slice fO p.bt.length bV,.int .i64 p.cS] 39)).alloc (.cells #[.bool f.ok,.slice fP f.aC.length dW,.slice fa f.aq.length dO,.slice fQ f.O.length eE] 44)).alloc (.cells #[.slice none 0 0,.slice none 0 0,.slice none 0 0] 35)) [dI w.heap.size #[.int .i64 p.ad,.slice fM p.bd.length aL,.slice fN p.O.length bC,.slice fO p.bt.length bV,.int .i64 p.cS] 39,dI (w.heap.size+1) #[.bool f.ok,.slice fP f.aC.length dW,.slice fa f.aq.length dO,.slice fQ f.O.length eE] 44,dI (w.heap.size+1+1) #[.slice none 0 0,.slice none 0 0,.slice none 0 0] 35]):=by
      have:=(((cl.start w).box #[.int .i64 p.ad,.slice fM p.bd.length aL,.slice fN p.O.length bC,.slice fO p.bt.length bV,.int .i64 p.cS] 39).box #[.bool f.ok,.slice fP f.aC.length dW,.slice fa f.aq.length dO,.slice fQ f.O.length eE] 44).box #[.slice none 0 0,.slice none 0 0,.slice none 0 0] 35
      simp only[World.size_alloc] at this
      exact this
    go_enter Tryz.func11,Tryz.ntmps11
    go_wp2_with (go_at_call 49;refine(C3 wI.out (H1.out.below iV.out.end) (h3.out.below iV.out.end)).mono ?_)
    rw[wJ.out]
    first
    | (rintro e bz rfl hb)
    | (rintro e bz ⟨rfl,hb⟩)
    have hE:=Lib.hid (iV.out.below hb);clear hb iV
    obtain⟨eC,cZ,dg⟩:=wX (hE.out.get 2)
    obtain⟨b5,q1,q2⟩:=lL (hE.out.get 2)
    go_wp2
    (try simp only[Exit.inBlock,Exit.then])
    refine bodyPost_ret (by simp[results,Tryz.results11,go_sem,CW,b5,q1,q2];try rfl) rfl ?_
    exact⟨none,0,none,0,none,0,[],rfl,((hE.out.end.setCell (by show w.heap.size≤w.heap.size+1+1;omega) _).setCell (by show w.heap.size≤w.heap.size+1+1;omega) _).setCell (by show w.heap.size≤w.heap.size+1+1;omega) _,(Ba _ _).1,(Ba _ _).2.1,List.Pairwise.nil,rfl⟩
theorem aex (p:aK) (f:Frame) (k:Int) (ai:qe p f) (w:World) (fM fN fO fP fa fQ:Option Addr) (aL bC bV dW dO eE:Nat)
    (h1:V2 (Env.at w) (.agg (bW false p)) (.agg #[.int .i64 p.ad,.slice fM p.bd.length aL,.slice fN p.O.length bC,.slice fO p.bt.length bV,.int .i64 p.cS]))
    (h2:V2 (Env.at w) (.agg (b9 false f)) (.agg #[.bool f.ok,.slice fP f.aC.length dW,.slice fa f.aq.length dO,.slice fQ f.O.length eE])) (hw:ww p f k) (af:hJ p f=true) (hi:lq k p.O.length=true):
    Calls Tryz.prog 11 #[.agg #[.int .i64 p.ad,.slice fM p.bd.length aL,.slice fN p.O.length bC,.slice fO p.bt.length bV,.int .i64 p.cS],.agg #[.bool f.ok,.slice fP f.aC.length dW,.slice fa f.aq.length dO,.slice fQ f.O.length eE],.int .i64 k] w fun e w'=> ∃bQ bA bL br bK bm L,e= .returned (.agg #[.slice bQ (hd p f k).O.length bA,.slice bL (hd p f k).ad.length br,.slice bK (hd p f k).aq.length bm])∧Below w.heap.size w w'∧dX w' (eG w w') (.agg (gm false (hd p f k))) (.agg #[.slice bQ (hd p f k).O.length bA,.slice bL (hd p f k).ad.length br,.slice bK (hd p f k).aq.length bm])∧iX .int .int .int w' (eG w w') bQ bL bK (hd p f k).O.length bA (hd p f k).ad.length br (hd p f k).aq.length bm L∧kb L∧L.length=r1 (hd p f k):=by
  have wJ:=Lib.hid af;clear af
  have sr:=Lib.hid hi;clear hi
  have h4:=Lib.hid hw;clear hw
  have H1:=Lib.hid h1;clear h1
  have h3:=Lib.hid h2;clear h2
  have wI:=Lib.hid ai;clear ai
  have iV:Hid (cl w (((w.alloc (.cells #[.int .i64 p.ad,.slice fM p.bd.length aL,.slice fN p.O.length bC,.slice fO p.bt.length bV,.int .i64 p.cS] 39)).alloc (.cells #[.bool f.ok,.slice fP f.aC.length dW,.slice fa f.aq.length dO,.slice fQ f.O.length eE] 44)).alloc (.cells #[.slice none 0 0,.slice none 0 0,.slice none 0 0] 35)) [dI w.heap.size #[.int .i64 p.ad,.slice fM p.bd.length aL,.slice fN p.O.length bC,.slice fO p.bt.length bV,.int .i64 p.cS] 39,dI (w.heap.size+1) #[.bool f.ok,.slice fP f.aC.length dW,.slice fa f.aq.length dO,.slice fQ f.O.length eE] 44,dI (w.heap.size+1+1) #[.slice none 0 0,.slice none 0 0,.slice none 0 0] 35]):=by
    have:=(((cl.start w).box #[.int .i64 p.ad,.slice fM p.bd.length aL,.slice fN p.O.length bC,.slice fO p.bt.length bV,.int .i64 p.cS] 39).box #[.bool f.ok,.slice fP f.aC.length dW,.slice fa f.aq.length dO,.slice fQ f.O.length eE] 44).box #[.slice none 0 0,.slice none 0 0,.slice none 0 0] 35
    simp only[World.size_alloc] at this
    exact this
  go_enter Tryz.func11,Tryz.ntmps11
  go_wp2_with (go_at_call 49;refine(C3 wI.out (H1.out.below iV.out.end) (h3.out.below iV.out.end)).mono ?_)
  rw[wJ.out]
  first
  | (rintro e bz rfl hb)
  | (rintro e bz ⟨rfl,hb⟩)
  have kR:=Lib.hid (iV.out.below hb);clear hb iV
  obtain⟨b5,q1,q2,q3,q4⟩:=p8 (kR.out.get 0)
  go_wp2_with (go_at_call 50;refine(I6).mono ?_)
  rw[sr.out]
  first
  | (rintro e bM rfl hb)
  | (rintro e bM ⟨rfl,hb⟩)
  have hE:=Lib.hid (kR.out.below hb);clear hb kR b5 q1 q2 q3 q4
  obtain⟨b5,q1,q2,q3,q4⟩:=p8 (hE.out.get 0)
  obtain⟨eC,cZ,dg,fK⟩:=rn (hE.out.get 1)
  go_wp2_with (go_at_call 51;refine(SL h4.out (H1.out.below hE.out.end) (h3.out.below hE.out.end)).mono ?_)
  first
  | (rintro e cU bQ bA bL br bK bm L rfl hb bn hf aZ aE)
  | (rintro e cU ⟨bQ,bA,bL,br,bK,bm,L,rfl,hb,bn,hf,aZ,aE⟩)
  clear b5 q1 q2 q3 q4 eC cZ dg fK
  have wG:=Lib.hid (hE.out.below hb)
  have mb:=Lib.hid hb;clear hb
  have st:=Lib.hid bn;clear bn
  have Rt:=Lib.hid hf;clear hf
  have Rx:Hid (w.heap.size+1+1<bM.heap.size):=hE.out.zv 2 rfl
  have aH:w.heap.size+1+1<cU.heap.size:=wG.out.zv 2 rfl
  obtain⟨eC,cZ,dg⟩:=wX (wG.out.get 2)
  obtain⟨b5,q1,q2⟩:=lL (wG.out.get 2)
  go_wp2
  (try simp only[Exit.inBlock,Exit.then])
  refine bodyPost_ret (by simp[results,Tryz.results11,go_sem,CW,SD,aH,b5,q1,q2];try rfl) rfl ?_
  have hk: ∀x:Obj,∀v0 v1 v2:Value,∀c,eG bM cU c→((((cU.setCell ⟨w.heap.size+1+1,0,none⟩ v0).setCell ⟨w.heap.size+1+1,1,none⟩ v1).setCell ⟨w.heap.size+1+1,2,none⟩ v2).alloc x).heap[c]?=cU.heap[c]?:=fun x v0 v1 v2 c hc=>by
    have bY:c≠w.heap.size+1+1:=by have:=hc.1;have:=Rx.out;omega
    have:=((Below.refl (((cU.setCell ⟨w.heap.size+1+1,0,none⟩ v0).setCell ⟨w.heap.size+1+1,1,none⟩ v1).setCell ⟨w.heap.size+1+1,2,none⟩ v2).heap.size _).alloc (Nat.le_refl _) x).block c (by simp only[World.size_setCell];exact hc.2.1)
    rw[this,Below.heap_setCell _ _ _ _ bY,Below.heap_setCell _ _ _ _ bY,Below.heap_setCell _ _ _ _ bY]
  have ao: ∀x:Obj,∀v0 v1 v2:Value,∀c,eG bM cU c→eG w ((((cU.setCell ⟨w.heap.size+1+1,0,none⟩ v0).setCell ⟨w.heap.size+1+1,1,none⟩ v1).setCell ⟨w.heap.size+1+1,2,none⟩ v2).alloc x) c:=fun x v0 v1 v2 c hc=>by
    refine⟨Nat.le_trans hE.out.size hc.1,?_,hc.2.2.same (hk x v0 v1 v2 c hc)⟩
    simp only[World.size_alloc,World.size_setCell]
    exact Nat.lt_succ_of_lt hc.2.1
  exact⟨bQ,bA,bL,br,bK,bm,L,rfl,(((wG.out.end.setCell (by show w.heap.size≤w.heap.size+1+1;omega) _).setCell (by show w.heap.size≤w.heap.size+1+1;omega) _).setCell (by show w.heap.size≤w.heap.size+1+1;omega) _).alloc (by simp only[World.size_setCell];exact wG.out.size) _,st.out.cT (hk _ _ _ _) (ao _ _ _ _),Rt.out.cT (hk _ _ _ _) (ao _ _ _ _),aZ,aE⟩
theorem I5 {p:aK} {f:Frame} {k:Int} {s:fu} (hs:lG p f k=s) (ai:qe p f) {w:World} {v u:Value} (h1:V2 (Env.at w) (.agg (bW false p)) v) (h2:V2 (Env.at w) (.agg (b9 false f)) u):
    Calls Tryz.prog 11 #[v,u,.int .i64 k] w fun e w'=> ∃bQ bA bL br bK bm L,e= .returned (.agg #[.slice bQ s.O.length bA,.slice bL s.ad.length br,.slice bK s.aq.length bm])∧Below w.heap.size w w'∧dX w' (eG w w') (.agg (gm false s)) (.agg #[.slice bQ s.O.length bA,.slice bL s.ad.length br,.slice bK s.aq.length bm])∧iX .int .int .int w' (eG w w') bQ bL bK s.O.length bA s.ad.length br s.aq.length bm L∧kb L∧L.length=r1 s:=by
  subst hs
  have t1:dX w (fun c=>c<w.heap.size) (.agg (bW false p)) v:=h1
  have t2:dX w (fun c=>c<w.heap.size) (.agg (b9 false f)) u:=h2
  obtain⟨fM,aL,fN,bC,fO,bV,rfl,_⟩:=B7 t1
  obtain⟨fP,dW,fa,dO,fQ,eE,rfl,_⟩:=B6 t2
  cases hb:hJ p f&&lq k p.O.length with
  | false=>
    have e:lG p f k=⟨[],[],[]⟩:=by unfold lG;rw[hb];rfl
    rw[e]
    exact aew p f k ai w fM fN fO fP fa fQ aL bC bV dW dO eE h1 h2 hb
  | true=>
    have e:lG p f k=hd p f k:=by unfold lG;rw[hb];rfl
    rw[e]
    rw[Bool.and_eq_true] at hb
    have hi:=FD.1 hb.2
    exact aex p f k ai w fM fN fO fP fa fQ aL bC bV dW dO eE h1 h2 ⟨Ad hb.1,hi.1,hi.2⟩ hb.1 hb.2
theorem Sa (p:aK) (f:Frame) (k:Int):r1 (lG p f k)≤1000000:=by
  unfold lG
  split
  · rename_i h
    rw[Bool.and_eq_true] at h
    have eN:=Bo (Ad h.1).m1
    have h1:=eN.cQ
    have h2:=eN.be
    have aM:=eN.O
    have kh:=oe (kz p f k) p.O.length
    have hM:=oe (lT p f k) p.ad
    have AX:=oe (jY p f k) p.bd.length
    show(dC _ _).length+(dC _ _).length+(dC _ _).length≤_
    omega
  · exact Nat.zero_le _
open Go Go.RowKit
set_option maxHeartbeats 1000000
theorem aea (w:World) (S:Nat→Prop) (bQ bL bK:Option Addr) (bZ bA cu br n2 bm:Nat) (eW fD gM:dT) (k:Int) (mf:ee w S (.l .int) 0 0 eW (.slice bQ bZ bA)) (lI:ee w S (.l .int) 0 0 fD (.slice bL cu br)) (mM:ee w S (.l .int) 0 0 gM (.slice bK n2 bm)) (h_:kb (eW++fD++gM)) (aI:0≤k) (h1:k+(eW.length:Nat)+(fD.length:Nat)+(gM.length:Nat)≤4611686018427387904):
    Calls Tryz.prog 17 #[.agg #[.slice bQ bZ bA,.slice bL cu br,.slice bK n2 bm],.int .i64 k] w fun iD w'=>iD= .returned (.int .i64 (k+(eW.length:Nat)+(fD.length:Nat)+(gM.length:Nat)))∧iW w w' S (eW++fD++gM) k:=by
  have h4:Hid (dm S w (w.alloc (.cells #[.slice bQ bZ bA,.slice bL cu br,.slice bK n2 bm] 35))):=dm.below ((Below.refl _ _).alloc (Nat.le_refl _) _)
  have ui:Hid (Below w.heap.size w (w.alloc (.cells #[.slice bQ bZ bA,.slice bL cu br,.slice bK n2 bm] 35))):=(Below.refl _ _).alloc (Nat.le_refl _) _
  have o3:Hid ((w.alloc (.cells #[.slice bQ bZ bA,.slice bL cu br,.slice bK n2 bm] 35)).heap[w.heap.size]?=some (.cells #[.slice bQ bZ bA,.slice bL cu br,.slice bK n2 bm] 35 (0,0))):=nA _ _
  have gJ:=Lib.hid mf;clear mf
  have gK:=Lib.hid lI;clear lI
  have ga:=Lib.hid mM;clear mM
  have wL:=Lib.hid h_;clear h_
  go_enter Tryz.func17,Tryz.ntmps17
  have mc:Hid (0≤k∧k+(eW.length:Nat)≤4611686018427387904):=by unfold Hid;omega
  go_wp2_with (go_at_call 58;refine(HM _ S eW _ _ (gJ.out.fy h4.out) wL.out.left.left mc.out.1 mc.out.2).mono ?_)
  first
  | (rintro e bz rfl hb)
  | (rintro e bz ⟨rfl,hb⟩)
  have la:=Lib.hid hb;clear hb
  have ou:bz.cell? ⟨w.heap.size,1,none⟩=some (.slice bL cu br):=la.out.fy.head o3.out rfl
  have me:Hid (0≤k+(eW.length:Nat)∧k+(eW.length:Nat)+(fD.length:Nat)≤4611686018427387904):=by unfold Hid;omega
  go_wp2_with (go_at_call 58;refine(HM _ S fD _ _ (gK.out.fy (h4.out.trans la.out.fy)) wL.out.left.right me.out.1 me.out.2).mono ?_)
  first
  | (rintro e bM rfl hb)
  | (rintro e bM ⟨rfl,hb⟩)
  have lb:=Lib.hid (la.out.lM hb wL.out.left rfl);clear hb ou
  have qk:bM.cell? ⟨w.heap.size,2,none⟩=some (.slice bK n2 bm):=lb.out.fy.head o3.out rfl
  have kQ:Hid (0≤k+(eW.length:Nat)+(fD.length:Nat)∧k+(eW.length:Nat)+(fD.length:Nat)+(gM.length:Nat)≤4611686018427387904):=by unfold Hid;omega
  go_wp2_with (go_at_call 58;refine(HM _ S gM _ _ (ga.out.fy (h4.out.trans lb.out.fy)) wL.out.right kQ.out.1 kQ.out.2).mono ?_)
  first
  | (rintro e cU rfl hb)
  | (rintro e cU ⟨rfl,hb⟩)
  have ss:=Lib.hid (lb.out.lM hb wL.out (by rw[List.length_append];omega));clear hb qk
  go_wp2
  go_ret
  exact⟨rfl,.below ui.out ss.out⟩
theorem Vq (w:World) (S:Nat→Prop) (bQ bL bK:Option Addr) (bZ bA cu br n2 bm:Nat) (eW fD gM:dT) (k:Int) (mf:ee w S (.l .int) 0 0 eW (.slice bQ bZ bA)) (lI:ee w S (.l .int) 0 0 fD (.slice bL cu br)) (mM:ee w S (.l .int) 0 0 gM (.slice bK n2 bm)) (hm:fE w (eW++fD++gM) k) (aI:0≤k) (h1:k+(eW.length:Nat)+(fD.length:Nat)+(gM.length:Nat)≤4611686018427387904):
    Calls Tryz.prog 18 #[.agg #[.slice bQ bZ bA,.slice bL cu br,.slice bK n2 bm],.int .i64 k] w fun iD w'=>iD= .returned (.int .i64 (k+(eW.length:Nat)+(fD.length:Nat)+(gM.length:Nat)))∧Below w.heap.size w w':=by
  have ui:Hid (Below w.heap.size w (w.alloc (.cells #[.slice bQ bZ bA,.slice bL cu br,.slice bK n2 bm] 35))):=(Below.refl _ _).alloc (Nat.le_refl _) _
  have o3:Hid ((w.alloc (.cells #[.slice bQ bZ bA,.slice bL cu br,.slice bK n2 bm] 35)).heap[w.heap.size]?=some (.cells #[.slice bQ bZ bA,.slice bL cu br,.slice bK n2 bm] 35 (0,0))):=nA _ _
  have gJ:=Lib.hid mf;clear mf
  have gK:=Lib.hid lI;clear lI
  have ga:=Lib.hid mM;clear mM
  obtain⟨hm,k4⟩:=fE.uv.1 hm
  obtain⟨qp,AD⟩:=fE.uv.1 hm
  clear hm
  rw[List.length_append,show k+((eW.length+fD.length:Nat):Int)=k+(eW.length:Nat)+(fD.length:Nat) by omega] at k4
  have Rm:=Lib.hid qp;clear qp
  have Rn:=Lib.hid AD;clear AD
  have Ro:=Lib.hid k4;clear k4
  have wB:Hid (∀(L:dT) (k:Int) (w':World),Below w.heap.size w w'→fE w L k→fE w' L k):=fun L k w' hb h=>h.cT fun x hx ⟨u,hu⟩=>by simp only[World.cell?,hb.block _ (I1 hu)]
  have Cn:Hid (∀{w':World},Below w.heap.size w w'→ ∀{e:aU} {L:dT} {v:Value},ee w S e 0 0 L v→ee w' S e 0 0 L v):=fun hb _ _ _ h=>h.fy (S':=S) (dm.below hb)
  have n7:Hid ((w.alloc (.cells #[.slice bQ bZ bA,.slice bL cu br,.slice bK n2 bm] 35)).heap.size=w.heap.size+1):=by unfold Hid;simp
  go_enter Tryz.func18,Tryz.ntmps18
  have mc:Hid (0≤k∧k+(eW.length:Nat)≤4611686018427387904):=by unfold Hid;omega
  have g1:decide (k+(eW.length:Nat)<0)=false:=decide_eq_false (by omega)
  have g2:decide (k+(eW.length:Nat)+(fD.length:Nat)<0)=false:=decide_eq_false (by omega)
  have g3:decide (k+(eW.length:Nat)+(fD.length:Nat)+(gM.length:Nat)<0)=false:=decide_eq_false (by omega)
  go_wp2_with (go_at_call 64;go_loud (refine(Er _ S eW (.slice bQ bZ bA) k (Cn.out ui.out gJ.out) (wB.out eW k _ ui.out Rm.out) mc.out.1 mc.out.2).mono ?_))
  first
  | (rintro e bz rfl hb)
  | (rintro e bz ⟨rfl,hb⟩)
  have m9:bz.heap[w.heap.size]?=some (.cells #[.slice bQ bZ bA,.slice bL cu br,.slice bK n2 bm] 35 (0,0)):=(hb.block _ (by rw[n7.out];omega)).trans o3.out
  have eB:w.heap.size<bz.heap.size:=Nat.lt_of_lt_of_le (by rw[n7.out];omega) hb.size
  have Ik:=Lib.hid m9;clear m9
  have wK:=Lib.hid eB;clear eB
  have la:=Lib.hid (ui.out.trans (hb.mono ui.out.size));clear hb
  obtain⟨-,ou,-⟩:=lL Ik.out
  have me:Hid (0≤k+(eW.length:Nat)∧k+(eW.length:Nat)+(fD.length:Nat)≤4611686018427387904):=by unfold Hid;omega
  go_wp2_with (go_at_call 64;refine(Er _ S fD _ _ (Cn.out la.out gK.out) (wB.out _ _ _ la.out Rn.out) me.out.1 me.out.2).mono ?_)
  first
  | (rintro e bM rfl hb)
  | (rintro e bM ⟨rfl,hb⟩)
  have K1:bM.heap[w.heap.size]?=some (.cells #[.slice bQ bZ bA,.slice bL cu br,.slice bK n2 bm] 35 (0,0)):=(hb.block _ wK.out).trans Ik.out
  have Rw:=Lib.hid K1;clear K1
  have lb:=Lib.hid (la.out.trans (hb.mono la.out.size));clear hb ou
  obtain⟨-,-,qk⟩:=lL Rw.out
  have kQ:Hid (0≤k+(eW.length:Nat)+(fD.length:Nat)∧k+(eW.length:Nat)+(fD.length:Nat)+(gM.length:Nat)≤4611686018427387904):=by unfold Hid;omega
  go_wp2_with (go_at_call 64;refine(Er _ S gM _ _ (Cn.out lb.out ga.out) (wB.out _ _ _ lb.out Ro.out) kQ.out.1 kQ.out.2).mono ?_)
  first
  | (rintro e cU rfl hb)
  | (rintro e cU ⟨rfl,hb⟩)
  have ss:=Lib.hid (lb.out.trans (hb.mono lb.out.size));clear hb qk
  go_wp2
  go_ret
  exact⟨rfl,ss.out⟩
end Go.Proofs.YtglpfccgmfhkdaaGreat.Fw
set_option linter.unusedVariables false
set_option maxRecDepth 100000
set_option maxHeartbeats 4000000
set_option linter.unusedSimpArgs false
namespace Go.Proofs.YtglpfccgmfhkdaaGreat.Fw
open Go
attribute [local irreducible] evS evSD WpS Weak Oper.looksAt
def acS (a0:aK) (J:Frame) (a2:Int) (ae:fu):Prop:=
  ((qe a0 J)∧(((!(hJ a0 J)) || (!(b8 a2 0 (IntKind.i64.wrap ((a0.O.length:Int) - 1)))))=true→([]=ae.O)∧([]=ae.ad)∧([]=ae.aq)))∧((!((!(hJ a0 J)) || (!(b8 a2 0 (IntKind.i64.wrap ((a0.O.length:Int) - 1))))))=true→(ww a0 J a2)∧((((pP a0 J a2).1).O=ae.O)∧(((pP a0 J a2).1).ad=ae.ad)∧(((pP a0 J a2).1).aq=ae.aq)))
def Px (a0:aK) (J:Frame) (a2:Int) (ae:fu):Prop:=
 acS a0 J a2 ae
theorem acT (a0:aK) (J:Frame) (a2:Int) (ai:DY a0 J a2):bg Tryz.prog 8 [.agg (bW false a0),.agg (b9 false J),ax a2] (.agg (gm true (lG a0 J a2))):=(fun(h:Px a0 J a2 (lG a0 J a2))=>bg.run (ps:=[.eh,.frame,.int]) (rs:=[.stays]) (x:=(a0,J,a2,())) (r:=((lG a0 J a2),())) ⟨31,cP,[acW,yL,adL]⟩ ⟨[],[],[],[],[]⟩ .nil Tryz.func8 h) (by
 unfold Px
 have key:hJ a0 J=true→b8 a2 0 (IntKind.i64.wrap ((a0.O.length:Int) - 1))=lq a2 a0.O.length:=fun h=>by
  have:=(Ad h).in.O
  rw[iU (by omega) (by omega),XU]
 refine⟨⟨ai,fun h=> ?_⟩,fun h=> ?_⟩
 ·unfold lG
  cases af:hJ a0 J with
  | false=>exact⟨rfl,rfl,rfl⟩
  | true=>
   rw[af,key af] at h
   have:lq a2 a0.O.length=false:=by simpa using h
   rw[this];exact⟨rfl,rfl,rfl⟩
 ·have h:hJ a0 J=true∧b8 a2 0 (IntKind.i64.wrap ((a0.O.length:Int) - 1))=true:=by simpa using h
  rw[key h.1] at h
  refine⟨⟨Ad h.1,(FD.1 h.2).1,(FD.1 h.2).2⟩,?_⟩
  unfold lG;rw[h.1,h.2];exact⟨rfl,rfl,rfl⟩)
def Mw (a0:fu) (J:fu) (ae:Bool):Prop:=
 ((!(eqv a0.O J.O))=true→false=ae)∧((!(!(eqv a0.O J.O)))=true→((!(eqv a0.ad J.ad))=true→false=ae)∧((!(!(eqv a0.ad J.ad)))=true→((!(eqv a0.aq J.aq))=true→false=ae)∧((!(!(eqv a0.aq J.aq)))=true→true=ae)))
theorem YE (a0:fu) (J:fu):bg Tryz.prog 12 [.agg (gm false a0),.agg (gm false J)] (aA (eqv a0 J)):=(fun(h:Mw a0 J (eqv a0 J))=>bg.run (ps:=[.stays,.stays]) (rs:=[.bool]) (x:=(a0,J,())) (r:=((eqv a0 J),())) ⟨23,cP,[FN]⟩ ⟨[],[],[],[],[]⟩ .nil Tryz.func12 h) (by
 unfold Mw
 obtain⟨a,b,c⟩:=a0
 obtain⟨gk,bT,ck⟩:=J
 simp[eqv]
 intros
 simp_all)
end Go.Proofs.YtglpfccgmfhkdaaGreat.Fw
set_option linter.unusedVariables false
namespace Go.Proofs.YtglpfccgmfhkdaaGreat.Fw
open Go Go.RowKit
set_option maxHeartbeats 1000000
set_option maxRecDepth 100000
open Go Go.RowKit
set_option linter.unusedSimpArgs false
open Go Go.RowKit
theorem aeg {s:fu} {w:World} {B:Nat→Prop} {v:Value} (h:dX w B (.agg (gm false s)) v): ∃bQ bA bL br bK bm,v= .agg #[.slice bQ s.O.length bA,.slice bL s.ad.length br,.slice bK s.aq.length bm]:=by
  obtain⟨vs,rfl,ai⟩:=(show ∃vs:List Value,v= .agg vs.toArray∧aO (b1 (Env.ro w B)) (gm false s) vs from h)
  obtain⟨b,vs,rfl,hb,ai⟩:=ai.cons_inv
  obtain⟨c,vs,rfl,hc,ai⟩:=ai.cons_inv
  obtain⟨d,vs,rfl,aZ,ai⟩:=ai.cons_inv
  obtain rfl:=ai.lZ
  obtain⟨bQ,bA,rfl,eC⟩:=q8 (jp hb)
  obtain⟨bL,br,rfl,cZ⟩:=q8 (jp hc)
  obtain⟨bK,bm,rfl,dg⟩:=q8 (jp aZ)
  simp only[List.length_map]
  exact⟨bQ,bA,bL,br,bK,bm,rfl⟩
theorem SP {p:aK} {f:Frame} {k:Int} {s:fu} (hs:lG p f k=s) (ai:DY p f k) {w:World} {v u:Value} (h:V2 (Env.at w) (.agg (bW false p)) v) (h':V2 (Env.at w) (.agg (b9 false f)) u):
    Calls Tryz.prog 8 #[v,u,.int .i64 k] w fun e w'=> ∃bQ bA bL br bK bm,e= .returned (.agg #[.slice bQ s.O.length bA,.slice bL s.ad.length br,.slice bK s.aq.length bm])∧Below w.heap.size w w'∧dX w' (eG w w') (.agg (gm false s)) (.agg #[.slice bQ s.O.length bA,.slice bL s.ad.length br,.slice bK s.aq.length bm]):=by
  subst hs
  refine(bg.yU (e:= .stays) (x:=lG p f k) (vs:=[v,u,.int .i64 k]) (acT p f k ai) (.cons h (.cons h' (.cons (aW.int _ _) .nil)))).mono ?_
  rintro e w' ⟨ec,h1,h2,aM⟩
  obtain⟨bQ,bA,bL,br,bK,bm,rfl⟩:=aeg aM
  exact⟨bQ,bA,bL,br,bK,bm,h1,h2,aM⟩
theorem C2 {s:fu} {w:World} {v u:Value} (h:V2 (Env.at w) (.agg (gm false s)) v) (k:V2 (Env.at w) (.agg (gm false s)) u):
    Calls Tryz.prog 12 #[v,u] w fun e w'=>e= .returned (.bool true)∧Below w.heap.size w w':=by
  have:=bg.bool (vs:=[v,u]) (YE s s) (.cons h (.cons k .nil))
  unfold eqv at this
  rw[decide_eq_true rfl] at this
  exact this
theorem SO {w:World} {S:Nat→Prop} {bQ bL bK:Option Addr} {bZ bA cu br n2 bm:Nat} {L:dT} {k:Int} (h:iX .int .int .int w S bQ bL bK bZ bA cu br n2 bm L) (aZ:kb L) (aI:0≤k) (h1:k+(L.length:Nat)≤4611686018427387904):
    Calls Tryz.prog 17 #[.agg #[.slice bQ bZ bA,.slice bL cu br,.slice bK n2 bm],.int .i64 k] w fun e w'=>e= .returned (.int .i64 (k+(L.length:Nat)))∧iW w w' S L k:=by
  obtain⟨eW,fD,gM,rfl,eD,s1,s2⟩:=h
  have aR:k+((eW++fD++gM).length:Nat)=k+(eW.length:Nat)+(fD.length:Nat)+(gM.length:Nat):=by rw[List.length_append,List.length_append];omega
  rw[aR] at h1 ⊢
  exact aea w S bQ bL bK bZ bA cu br n2 bm eW fD gM k eD s1 s2 aZ aI h1
theorem I4 {w:World} {S:Nat→Prop} {bQ bL bK:Option Addr} {bZ bA cu br n2 bm:Nat} {L:dT} {k:Int} (h:iX .int .int .int w S bQ bL bK bZ bA cu br n2 bm L∧fE w L k) (aI:0≤k) (h1:k+(L.length:Nat)≤4611686018427387904):
    Calls Tryz.prog 18 #[.agg #[.slice bQ bZ bA,.slice bL cu br,.slice bK n2 bm],.int .i64 k] w fun e w'=>e= .returned (.int .i64 (k+(L.length:Nat)))∧Below w.heap.size w w':=by
  obtain⟨⟨eW,fD,gM,rfl,eD,s1,s2⟩,hm⟩:=h
  have aR:k+((eW++fD++gM).length:Nat)=k+(eW.length:Nat)+(fD.length:Nat)+(gM.length:Nat):=by rw[List.length_append,List.length_append];omega
  rw[aR] at h1 ⊢
  exact Vq w S bQ bL bK bZ bA cu br n2 bm eW fD gM k eD s1 s2 hm aI h1
set_option maxHeartbeats 4000000
theorem X7 (p:aK) (f:Frame) (k:Int) (W:World) (eX eY eZ cL cI c1:Option Addr) (a0 J a2 eA dF b7 d0 d1 d2 cs aR e2:Nat) (ps fp:Int) (ok:Bool) (s:fu) (KV:lG p f k=s)
    (h1:dX W (fun c=>c<W.heap.size) (.agg (bW false p)) (.agg #[.int .i64 ps,.slice eX a0 d0,.slice eY J d1,.slice eZ a2 d2,.int .i64 fp]))
    (h2:dX W (fun c=>c<W.heap.size) (.agg (b9 false f)) (.agg #[.bool ok,.slice cL eA cs,.slice cI dF aR,.slice c1 b7 e2]))
    (rJ:r1 s≤1000000) (hs:kk p≤1048576) (rL:kk p+oi f≤1048576):
    Calls Tryz.prog 3 #[.agg #[.int .i64 ps,.slice eX a0 d0,.slice eY J d1,.slice eZ a2 d2,.int .i64 fp],.agg #[.bool ok,.slice cL eA cs,.slice cI dF aR,.slice c1 b7 e2],.int .i64 k] W fun e w'=>e= .returned (.bool true)∧Below W.heap.size W w':=by
  have wC:Hid (cl W W [hB W.heap.size (.agg (bW false p)) (.agg #[.int .i64 ps,.slice eX a0 d0,.slice eY J d1,.slice eZ a2 d2,.int .i64 fp]) (.agg (b9 false f)) (.agg #[.bool ok,.slice cL eA cs,.slice cI dF aR,.slice c1 b7 e2])]):=(cl.start W).add (hB W.heap.size _ _ _ _) (Nat.le_refl _) ⟨h1,h2⟩ (fun j h=>by cases h)
  have iV:Hid (cl W ((W.alloc (.cells #[.int .i64 ps,.slice eX a0 d0,.slice eY J d1,.slice eZ a2 d2,.int .i64 fp] 26)).alloc (.cells #[.bool ok,.slice cL eA cs,.slice cI dF aR,.slice c1 b7 e2] 31)) [hB W.heap.size (.agg (bW false p)) (.agg #[.int .i64 ps,.slice eX a0 d0,.slice eY J d1,.slice eZ a2 d2,.int .i64 fp]) (.agg (b9 false f)) (.agg #[.bool ok,.slice cL eA cs,.slice cI dF aR,.slice c1 b7 e2]),dI W.heap.size #[.int .i64 ps,.slice eX a0 d0,.slice eY J d1,.slice eZ a2 d2,.int .i64 fp] 26,dI (W.heap.size+1) #[.bool ok,.slice cL eA cs,.slice cI dF aR,.slice c1 b7 e2] 31]):=by
    have:=(wC.out.box #[.int .i64 ps,.slice eX a0 d0,.slice eY J d1,.slice eZ a2 d2,.int .i64 fp] 26).box #[.bool ok,.slice cL eA cs,.slice cI dF aR,.slice c1 b7 e2] 31
    rw[World.size_alloc] at this
    exact this
  clear wC h1 h2
  have j8:oW p 1048576=1048576 - kk p:=by unfold oW eQ;rw[if_neg (by omega)]
  have z2:q7 f (1048576 - kk p)=1048576 - kk p - oi f:=by unfold q7 eQ;rw[if_neg (by omega)]
  obtain⟨z,px⟩: ∃y:Int,(1048576:Int) - kk p=y:=⟨_,rfl⟩
  obtain⟨aeS,rO⟩: ∃y:Int,z - oi f=y:=⟨_,rfl⟩
  rw[px] at j8 z2
  rw[rO] at z2
  have fa:Hid (0≤z∧z≤1048576):=by unfold Hid;omega
  have wQ:=Lib.hid j8;clear j8
  have Z2:=Lib.hid z2;clear z2
  have zg:Hid (Ha p):=hs
  have ur:Hid (BU f):=(show oi f≤1048576 by omega)
  have kN:Hid (DY p f k):=Ps ur.out
  have If:Hid (qe p f):=Ps ur.out
  have n7:=Lib.hid KV;clear KV
  obtain⟨dA,kB⟩: ∃y:Int,(1:Int)+(r0 p:Nat)=y:=⟨_,rfl⟩
  obtain⟨hp,lj⟩: ∃y:Int,dA+(rZ f:Nat)=y:=⟨_,rfl⟩
  obtain⟨nd,At⟩: ∃y:Int,(1:Int)+(r1 s:Nat)=y:=⟨_,rfl⟩
  have RX:=aag p
  have RY:=aaf f
  have RA:Hid ((1:Int)+(r0 p:Nat)≤4611686018427387904):=by unfold Hid;omega
  have Il:Hid (0≤dA∧dA+(rZ f:Nat)≤4611686018427387904):=by unfold Hid;omega
  have RB:Hid ((1:Int)+(r1 s:Nat)≤4611686018427387904):=by unfold Hid;omega
  have g1:decide (z<0)=false:=decide_eq_false (by omega)
  have g2:decide (aeS<0)=false:=decide_eq_false (by omega)
  have g3:decide (hp<0)=false:=decide_eq_false (by omega)
  have g4:decide (nd<0)=false:=decide_eq_false (by omega)
  have lI:=Lib.hid kB
  have mM:=Lib.hid lj
  have uj:=Lib.hid At
  clear kB lj At RX RY rJ px rO hs rL
  go_enter Tryz.func3,Tryz.ntmps3
  go_wp2_with (go_at_call 6;refine(C4 (p:=p) (l:=1048576) ⟨by omega,by omega⟩ (hB.at iV.out 0).1).mono ?_)
  rw[wQ.out]
  first
  | (rintro e bz rfl hb)
  | (rintro e bz ⟨rfl,hb⟩)
  have kR:=Lib.hid (iV.out.below hb);clear hb iV
  obtain⟨b5,q1,q2,q3⟩:=rn (kR.out.get 2)
  go_wp2_with (go_at_call 7;refine(I7 (p:=f) (l:=z) fa.out (hB.at kR.out 0).2).mono ?_)
  rw[Z2.out]
  first
  | (rintro e bM rfl hb)
  | (rintro e bM ⟨rfl,hb⟩)
  have hE:=Lib.hid (kR.out.below hb);clear hb kR b5 q1 q2 q3
  go_wp2_with fail
  go_cut [8] from 26 to 31 (fun l_ yY=> ∃(b:Nat) (gJ gK ga:Option Addr) (g0 g1 g2:Nat),l_= .pointer (some ⟨b,0,none⟩)∧cl W yY [hB W.heap.size (.agg (bW false p)) (.agg #[.int .i64 ps,.slice eX a0 d0,.slice eY J d1,.slice eZ a2 d2,.int .i64 fp]) (.agg (b9 false f)) (.agg #[.bool ok,.slice cL eA cs,.slice cI dF aR,.slice c1 b7 e2]),dI W.heap.size #[.int .i64 ps,.slice eX a0 d0,.slice eY J d1,.slice eZ a2 d2,.int .i64 fp] 26,dI (W.heap.size+1) #[.bool ok,.slice cL eA cs,.slice cI dF aR,.slice c1 b7 e2] 31,ib bM.heap.size yY.heap.size b #[.slice gJ s.O.length g0,.slice gK s.ad.length g1,.slice ga s.aq.length g2] 35 (.agg (gm false s)) (.agg #[.slice gJ s.O.length g0,.slice gK s.ad.length g1,.slice ga s.aq.length g2])])
  case first=>
    go_region_held3 (fun w'=>cl W w' [hB W.heap.size (.agg (bW false p)) (.agg #[.int .i64 ps,.slice eX a0 d0,.slice eY J d1,.slice eZ a2 d2,.int .i64 fp]) (.agg (b9 false f)) (.agg #[.bool ok,.slice cL eA cs,.slice cI dF aR,.slice c1 b7 e2]),dI W.heap.size #[.int .i64 ps,.slice eX a0 d0,.slice eY J d1,.slice eZ a2 d2,.int .i64 fp] 26,dI (W.heap.size+1) #[.bool ok,.slice cL eA cs,.slice cI dF aR,.slice c1 b7 e2] 31]∧w'.cell? ⟨W.heap.size,0,none⟩=some (.int .i64 ps)∧w'.cell? ⟨W.heap.size,1,none⟩=some (.slice eX a0 d0)∧w'.cell? ⟨W.heap.size,2,none⟩=some (.slice eY J d1)∧w'.cell? ⟨W.heap.size,3,none⟩=some (.slice eZ a2 d2)∧w'.cell? ⟨W.heap.size,4,none⟩=some (.int .i64 fp)∧w'.cell? ⟨W.heap.size+1,0,none⟩=some (.bool ok)∧w'.cell? ⟨W.heap.size+1,1,none⟩=some (.slice cL eA cs)∧w'.cell? ⟨W.heap.size+1,2,none⟩=some (.slice cI dF aR)∧w'.cell? ⟨W.heap.size+1,3,none⟩=some (.slice c1 b7 e2))
      (first
        | exact BL hE.out.drewN 1 2
        | (refine BL (cl.below hE.out ?_) 1 2 rfl rfl;(repeat' (first | exact fe | exact fc | exact fb | exact Below.refl _ _ | (refine Below.drew ?_) | (refine Below.alloc ?_ ?_ _) | (refine Below.setCell ?_ ?_ _) | exact Nat.le_refl _ | exact fb.size | exact fc.size | exact fe.size | ((try simp only[World.size_alloc,World.size_setCell,World.size_drew]);omega)))))
      (first
        | (go_at_call 9;refine(zE zg.out (hB.at (cl.below hE.out (by(repeat' (first | exact fe | exact fc | exact fb | exact Below.refl _ _ | (refine Below.drew ?_) | (refine Below.alloc ?_ ?_ _) | (refine Below.setCell ?_ ?_ _) | exact Nat.le_refl _ | exact fb.size | exact fc.size | exact fe.size | ((try simp only[World.size_alloc,World.size_setCell,World.size_drew]);omega))))) 0).1).mono ?_;rintro e cU ⟨bQ,aL,bL,bC,bK,bV,rfl,m5,qA⟩;have HN:=m5.size;(try simp only[World.size_alloc,World.size_drew] at HN);(have fb:Below bM.heap.size bM cU:=Below.trans (by(repeat' (first | exact fe | exact fc | exact fb | exact Below.refl _ _ | (refine Below.drew ?_) | (refine Below.alloc ?_ ?_ _) | (refine Below.setCell ?_ ?_ _) | exact Nat.le_refl _ | exact fb.size | exact fc.size | exact fe.size | ((try simp only[World.size_alloc,World.size_setCell,World.size_drew]);omega)))) (m5.mono (by((try simp only[World.size_alloc,World.size_setCell,World.size_drew]);omega))));(first | (have pq:=NH m5) | skip))
        | (go_at_call 10;refine(zD ur.out (hB.at (cl.below hE.out (by(repeat' (first | exact fe | exact fc | exact fb | exact Below.refl _ _ | (refine Below.drew ?_) | (refine Below.alloc ?_ ?_ _) | (refine Below.setCell ?_ ?_ _) | exact Nat.le_refl _ | exact fb.size | exact fc.size | exact fe.size | ((try simp only[World.size_alloc,World.size_setCell,World.size_drew]);omega))))) 0).2).mono ?_;rintro e iT ⟨Rj,z0,Rk,j8,Rl,z2,rfl,iI,ER⟩;have HO:=iI.size;(try simp only[World.size_alloc,World.size_drew] at HO);(have fc:Below bM.heap.size bM iT:=Below.trans (by(repeat' (first | exact fe | exact fc | exact fb | exact Below.refl _ _ | (refine Below.drew ?_) | (refine Below.alloc ?_ ?_ _) | (refine Below.setCell ?_ ?_ _) | exact Nat.le_refl _ | exact fb.size | exact fc.size | exact fe.size | ((try simp only[World.size_alloc,World.size_setCell,World.size_drew]);omega)))) (iI.mono (by((try simp only[World.size_alloc,World.size_setCell,World.size_drew]);omega))));(first | (have s4:=A9 iI) | (have s4:=(iI.block _ (rD pq)).trans pq) | skip))
        | (go_at_call 8;refine(SP n7.out kN.out ((vD qA).below (by first | exact iI | exact iI.alloc iI.size _ | exact((Below.refl _ _).alloc (Nat.le_refl _) _).trans (iI.mono (by rw[World.size_alloc];exact Nat.le_succ _)))) ((vD ER).below (by first | exact Below.refl _ _ | exact(Below.refl _ _).alloc (Nat.le_refl _) _))).mono ?_;rintro e k9 ⟨gJ,g0,gK,g1,ga,g2,rfl,qj,qB⟩;have HP:=qj.size;(try simp only[World.size_alloc,World.size_drew] at HP);(have fe:Below bM.heap.size bM k9:=Below.trans (by(repeat' (first | exact fe | exact fc | exact fb | exact Below.refl _ _ | (refine Below.drew ?_) | (refine Below.alloc ?_ ?_ _) | (refine Below.setCell ?_ ?_ _) | exact Nat.le_refl _ | exact fb.size | exact fc.size | exact fe.size | ((try simp only[World.size_alloc,World.size_setCell,World.size_drew]);omega)))) (qj.mono (by((try simp only[World.size_alloc,World.size_setCell,World.size_drew]);omega))));(first | (have oz:=A9 qj) | (have oz:=(qj.block _ (rD s4)).trans s4) | skip);(first | (have xE:=oz;have jB:=lL xE;have x8:=wX xE;obtain⟨aah,aai,aaj⟩:=jB;obtain⟨aal,aam,aan⟩:=x8) | skip)))
    all_goals (try go_wp2_with fail)
    all_goals go_meet
    · exact⟨k9.heap.size,gJ,gK,ga,g0,g1,g2,rfl,cl.dB hE.out (by(repeat' (first | exact fe | exact fc | exact fb | exact Below.refl _ _ | (refine Below.drew ?_) | (refine Below.alloc ?_ ?_ _) | (refine Below.setCell ?_ ?_ _) | exact Nat.le_refl _ | exact fb.size | exact fc.size | exact fe.size | ((try simp only[World.size_alloc,World.size_setCell,World.size_drew]);omega)))) _ (by((try simp only[World.size_alloc,World.size_setCell,World.size_drew]);omega)) (by((try simp only[World.size_alloc,World.size_setCell,World.size_drew]);omega)) (nA _ _) (dX.dB qB (by((try simp only[World.size_alloc,World.size_setCell,World.size_drew]);omega)) (by((try simp only[World.size_alloc,World.size_setCell,World.size_drew]);omega)) (fun _=>Nat.le_refl _) (fun c hc _=>((Below.refl _ _).alloc (Nat.le_refl _) _).block c hc))⟩
    · exact⟨iT.heap.size,gJ,gK,ga,g0,g1,g2,rfl,cl.dB hE.out (by(repeat' (first | exact fe | exact fc | exact fb | exact Below.refl _ _ | (refine Below.drew ?_) | (refine Below.alloc ?_ ?_ _) | (refine Below.setCell ?_ ?_ _) | exact Nat.le_refl _ | exact fb.size | exact fc.size | exact fe.size | ((try simp only[World.size_alloc,World.size_setCell,World.size_drew]);omega)))) _ (by((try simp only[World.size_alloc,World.size_setCell,World.size_drew]);omega)) (by((try simp only[World.size_alloc,World.size_setCell,World.size_drew]);omega)) (v8 oz) (dX.dB qB (by((try simp only[World.size_alloc,World.size_setCell,World.size_drew]);omega)) (by((try simp only[World.size_alloc,World.size_setCell,World.size_drew]);omega)) (fun h=>absurd h (by((try simp only[World.size_alloc,World.size_setCell,World.size_drew]);omega))) (fun c _ bY=>by rw[Below.heap_setCell _ _ _ _ bY,Below.heap_setCell _ _ _ _ bY,Below.heap_setCell _ _ _ _ bY]))⟩
    · exact⟨cU.heap.size,gJ,gK,ga,g0,g1,g2,rfl,cl.dB hE.out (by(repeat' (first | exact fe | exact fc | exact fb | exact Below.refl _ _ | (refine Below.drew ?_) | (refine Below.alloc ?_ ?_ _) | (refine Below.setCell ?_ ?_ _) | exact Nat.le_refl _ | exact fb.size | exact fc.size | exact fe.size | ((try simp only[World.size_alloc,World.size_setCell,World.size_drew]);omega)))) _ (by((try simp only[World.size_alloc,World.size_setCell,World.size_drew]);omega)) (by((try simp only[World.size_alloc,World.size_setCell,World.size_drew]);omega)) (v8 oz) (dX.dB qB (by((try simp only[World.size_alloc,World.size_setCell,World.size_drew]);omega)) (by((try simp only[World.size_alloc,World.size_setCell,World.size_drew]);omega)) (fun h=>absurd h (by((try simp only[World.size_alloc,World.size_setCell,World.size_drew]);omega))) (fun c _ bY=>by rw[Below.heap_setCell _ _ _ _ bY,Below.heap_setCell _ _ _ _ bY,Below.heap_setCell _ _ _ _ bY]))⟩
    · exact⟨bM.heap.size,gJ,gK,ga,g0,g1,g2,rfl,cl.dB hE.out (by(repeat' (first | exact fe | exact fc | exact fb | exact Below.refl _ _ | (refine Below.drew ?_) | (refine Below.alloc ?_ ?_ _) | (refine Below.setCell ?_ ?_ _) | exact Nat.le_refl _ | exact fb.size | exact fc.size | exact fe.size | ((try simp only[World.size_alloc,World.size_setCell,World.size_drew]);omega)))) _ (by((try simp only[World.size_alloc,World.size_setCell,World.size_drew]);omega)) (by((try simp only[World.size_alloc,World.size_setCell,World.size_drew]);omega)) (v8 oz) (dX.dB qB (by((try simp only[World.size_alloc,World.size_setCell,World.size_drew]);omega)) (by((try simp only[World.size_alloc,World.size_setCell,World.size_drew]);omega)) (fun h=>absurd h (by((try simp only[World.size_alloc,World.size_setCell,World.size_drew]);omega))) (fun c _ bY=>by rw[Below.heap_setCell _ _ _ _ bY,Below.heap_setCell _ _ _ _ bY,Below.heap_setCell _ _ _ _ bY]))⟩
  case rest=>
  obtain⟨sC,gJ,gK,ga,g0,g1,g2,rfl,aE⟩:=hcut
  obtain⟨k9,Wp⟩: ∃w,w=wc:=⟨_,rfl⟩
  subst Wp
  have za:=Lib.hid aE;clear aE hE
  obtain⟨b5,q1,q2,q3,q4⟩:=p8 (za.out.get 1)
  go_wp2_with (go_at_call 9;refine(zE zg.out (hB.at za.out 0).1).mono ?_)
  first
  | (rintro e hZ fM aL fN bC fO bV rfl hb bn)
  | (rintro e hZ ⟨fM,aL,fN,bC,fO,bV,rfl,hb,bn⟩)
  have zb:=Lib.hid (za.out.NS hb bn);clear b5 q1 q2 q3 q4 hb bn za
  have Co:=Lib.hid (zb.out.box #[.int .i64 p.ad,.slice fM p.bd.length aL,.slice fN p.O.length bC,.slice fO p.bt.length bV,.int .i64 p.cS] 39)
  have aH:W.heap.size+1<hZ.heap.size:=zb.out.zv 2 rfl
  obtain⟨b5,q1,q2,q3⟩:=rn (zb.out.get 2)
  go_wp2_with (go_at_call 10;refine(zD ur.out (hB.at Co.out 0).2).mono ?_)
  first
  | (rintro e iz fP dW fa dO fQ eE rfl hb bn)
  | (rintro e iz ⟨fP,dW,fa,dO,fQ,eE,rfl,hb,bn⟩)
  have zc:=Lib.hid (Co.out.NS hb bn);clear b5 q1 q2 q3 aH hb bn zb Co
  have zd:=Lib.hid (zc.out.box #[.bool f.ok,.slice fP f.aC.length dW,.slice fa f.aq.length dO,.slice fQ f.O.length eE] 44)
  have aH:hZ.heap.size<iz.heap.size:=zc.out.zv 5 rfl
  obtain⟨b5,q1,q2,q3,q4⟩:=p8 (zc.out.get 5)
  go_wp2_with (go_at_call 11;refine(I5 n7.out If.out (kg.at zd.out 4) (kg.at zd.out 6)).mono ?_)
  first
  | (rintro e mI cE aI H1 h1 h3 h2 L rfl hb bn hf aZ aE)
  | (rintro e mI ⟨cE,aI,H1,h1,h3,h2,L,rfl,hb,bn,hf,aZ,aE⟩)
  have y5:=Lib.hid (zd.out.own hb bn hf);clear b5 q1 q2 q3 q4 aH hb bn hf zc zd
  have Rr:=Lib.hid aZ;clear aZ
  have wH:Hid (L.length=r1 s):=aE
  clear aE
  have y6:=Lib.hid (y5.out.box #[.slice cE s.O.length aI,.slice H1 s.ad.length h1,.slice h3 s.aq.length h2] 35)
  have aH:sC<mI.heap.size:=ib.lt y5.out 3 rfl
  obtain⟨b5,q1,q2⟩:=lL (ib.box y5.out 3 rfl)
  go_wp2_with (go_at_call 12;refine(C2 (na.at y6.out 8) (ib.at y6.out 3)).mono ?_)
  first
  | (rintro e Q0 rfl hb)
  | (rintro e Q0 ⟨rfl,hb⟩)
  have y7:Hid (cl W Q0 [hB W.heap.size (.agg (bW false p)) (.agg #[.int .i64 ps,.slice eX a0 d0,.slice eY J d1,.slice eZ a2 d2,.int .i64 fp]) (.agg (b9 false f)) (.agg #[.bool ok,.slice cL eA cs,.slice cI dF aR,.slice c1 b7 e2]),dI W.heap.size #[.int .i64 ps,.slice eX a0 d0,.slice eY J d1,.slice eZ a2 d2,.int .i64 fp] 26,dI (W.heap.size+1) #[.bool ok,.slice cL eA cs,.slice cI dF aR,.slice c1 b7 e2] 31,ib bM.heap.size k9.heap.size sC #[.slice gJ s.O.length g0,.slice gK s.ad.length g1,.slice ga s.aq.length g2] 35 (.agg (gm false s)) (.agg #[.slice gJ s.O.length g0,.slice gK s.ad.length g1,.slice ga s.aq.length g2]),kg k9.heap.size hZ.heap.size (.agg (bW false p)) (.agg #[.int .i64 p.ad,.slice fM p.bd.length aL,.slice fN p.O.length bC,.slice fO p.bt.length bV,.int .i64 p.cS]),dI hZ.heap.size #[.int .i64 p.ad,.slice fM p.bd.length aL,.slice fN p.O.length bC,.slice fO p.bt.length bV,.int .i64 p.cS] 39,kg (hZ.alloc (.cells #[.int .i64 p.ad,.slice fM p.bd.length aL,.slice fN p.O.length bC,.slice fO p.bt.length bV,.int .i64 p.cS] 39)).heap.size iz.heap.size (.agg (b9 false f)) (.agg #[.bool f.ok,.slice fP f.aC.length dW,.slice fa f.aq.length dO,.slice fQ f.O.length eE]),dI iz.heap.size #[.bool f.ok,.slice fP f.aC.length dW,.slice fa f.aq.length dO,.slice fQ f.O.length eE] 44,na .int .int .int (iz.alloc (.cells #[.bool f.ok,.slice fP f.aC.length dW,.slice fa f.aq.length dO,.slice fQ f.O.length eE] 44)).heap.size mI.heap.size (.agg (gm false s)) (.agg #[.slice cE s.O.length aI,.slice H1 s.ad.length h1,.slice h3 s.aq.length h2]) cE H1 h3 s.O.length aI s.ad.length h1 s.aq.length h2 L,dI mI.heap.size #[.slice cE s.O.length aI,.slice H1 s.ad.length h1,.slice h3 s.aq.length h2] 35]):=y6.out.below hb
  clear b5 q1 q2 aH hb y5 y6
  go_wp2_with fail
  go_region_held3 (fun w'=>cl W w' [hB W.heap.size (.agg (bW false p)) (.agg #[.int .i64 ps,.slice eX a0 d0,.slice eY J d1,.slice eZ a2 d2,.int .i64 fp]) (.agg (b9 false f)) (.agg #[.bool ok,.slice cL eA cs,.slice cI dF aR,.slice c1 b7 e2]),dI W.heap.size #[.int .i64 ps,.slice eX a0 d0,.slice eY J d1,.slice eZ a2 d2,.int .i64 fp] 26,dI (W.heap.size+1) #[.bool ok,.slice cL eA cs,.slice cI dF aR,.slice c1 b7 e2] 31,ib bM.heap.size k9.heap.size sC #[.slice gJ s.O.length g0,.slice gK s.ad.length g1,.slice ga s.aq.length g2] 35 (.agg (gm false s)) (.agg #[.slice gJ s.O.length g0,.slice gK s.ad.length g1,.slice ga s.aq.length g2]),kg k9.heap.size hZ.heap.size (.agg (bW false p)) (.agg #[.int .i64 p.ad,.slice fM p.bd.length aL,.slice fN p.O.length bC,.slice fO p.bt.length bV,.int .i64 p.cS]),dI hZ.heap.size #[.int .i64 p.ad,.slice fM p.bd.length aL,.slice fN p.O.length bC,.slice fO p.bt.length bV,.int .i64 p.cS] 39,kg (hZ.alloc (.cells #[.int .i64 p.ad,.slice fM p.bd.length aL,.slice fN p.O.length bC,.slice fO p.bt.length bV,.int .i64 p.cS] 39)).heap.size iz.heap.size (.agg (b9 false f)) (.agg #[.bool f.ok,.slice fP f.aC.length dW,.slice fa f.aq.length dO,.slice fQ f.O.length eE]),dI iz.heap.size #[.bool f.ok,.slice fP f.aC.length dW,.slice fa f.aq.length dO,.slice fQ f.O.length eE] 44,na .int .int .int (iz.alloc (.cells #[.bool f.ok,.slice fP f.aC.length dW,.slice fa f.aq.length dO,.slice fQ f.O.length eE] 44)).heap.size mI.heap.size (.agg (gm false s)) (.agg #[.slice cE s.O.length aI,.slice H1 s.ad.length h1,.slice h3 s.aq.length h2]) cE H1 h3 s.O.length aI s.ad.length h1 s.aq.length h2 L,dI mI.heap.size #[.slice cE s.O.length aI,.slice H1 s.ad.length h1,.slice h3 s.aq.length h2] 35]∧w'.cell? ⟨W.heap.size,0,none⟩=some (.int .i64 ps)∧w'.cell? ⟨W.heap.size,1,none⟩=some (.slice eX a0 d0)∧w'.cell? ⟨W.heap.size,2,none⟩=some (.slice eY J d1)∧w'.cell? ⟨W.heap.size,3,none⟩=some (.slice eZ a2 d2)∧w'.cell? ⟨W.heap.size,4,none⟩=some (.int .i64 fp)∧w'.cell? ⟨hZ.heap.size,0,none⟩=some (.int .i64 p.ad)∧w'.cell? ⟨hZ.heap.size,1,none⟩=some (.slice fM p.bd.length aL)∧w'.cell? ⟨hZ.heap.size,2,none⟩=some (.slice fN p.O.length bC)∧w'.cell? ⟨hZ.heap.size,3,none⟩=some (.slice fO p.bt.length bV)∧w'.cell? ⟨hZ.heap.size,4,none⟩=some (.int .i64 p.cS))
    (first
      | exact O2 y7.out.drewN 1 5
      | (refine O2 ?_ 1 5 rfl rfl;assumption))
    (first
      | (go_at_call 9;refine(zE zg.out (hB.at y7.out.drewN 0).1).mono ?_;rintro e afA ⟨ez,v0,b1,v1,V2,v2,rfl,m5,qA⟩;have s0:=y7.out.drewN.below m5)
      | (go_at_call 13;refine(SK (kg.at s0 4) (vD qA)).mono ?_;rintro e aeq ⟨rfl,iI⟩;have xB:=s0.below iI))
  have y8:Hid (cl W aeq [hB W.heap.size (.agg (bW false p)) (.agg #[.int .i64 ps,.slice eX a0 d0,.slice eY J d1,.slice eZ a2 d2,.int .i64 fp]) (.agg (b9 false f)) (.agg #[.bool ok,.slice cL eA cs,.slice cI dF aR,.slice c1 b7 e2]),dI W.heap.size #[.int .i64 ps,.slice eX a0 d0,.slice eY J d1,.slice eZ a2 d2,.int .i64 fp] 26,dI (W.heap.size+1) #[.bool ok,.slice cL eA cs,.slice cI dF aR,.slice c1 b7 e2] 31,ib bM.heap.size k9.heap.size sC #[.slice gJ s.O.length g0,.slice gK s.ad.length g1,.slice ga s.aq.length g2] 35 (.agg (gm false s)) (.agg #[.slice gJ s.O.length g0,.slice gK s.ad.length g1,.slice ga s.aq.length g2]),kg k9.heap.size hZ.heap.size (.agg (bW false p)) (.agg #[.int .i64 p.ad,.slice fM p.bd.length aL,.slice fN p.O.length bC,.slice fO p.bt.length bV,.int .i64 p.cS]),dI hZ.heap.size #[.int .i64 p.ad,.slice fM p.bd.length aL,.slice fN p.O.length bC,.slice fO p.bt.length bV,.int .i64 p.cS] 39,kg (hZ.alloc (.cells #[.int .i64 p.ad,.slice fM p.bd.length aL,.slice fN p.O.length bC,.slice fO p.bt.length bV,.int .i64 p.cS] 39)).heap.size iz.heap.size (.agg (b9 false f)) (.agg #[.bool f.ok,.slice fP f.aC.length dW,.slice fa f.aq.length dO,.slice fQ f.O.length eE]),dI iz.heap.size #[.bool f.ok,.slice fP f.aC.length dW,.slice fa f.aq.length dO,.slice fQ f.O.length eE] 44,na .int .int .int (iz.alloc (.cells #[.bool f.ok,.slice fP f.aC.length dW,.slice fa f.aq.length dO,.slice fQ f.O.length eE] 44)).heap.size mI.heap.size (.agg (gm false s)) (.agg #[.slice cE s.O.length aI,.slice H1 s.ad.length h1,.slice h3 s.aq.length h2]) cE H1 h3 s.O.length aI s.ad.length h1 s.aq.length h2 L,dI mI.heap.size #[.slice cE s.O.length aI,.slice H1 s.ad.length h1,.slice h3 s.aq.length h2] 35]):=xB
  clear xB s0 m5 iI qA y7
  go_wp2_with fail
  go_region_held3 (fun w'=>cl W w' [hB W.heap.size (.agg (bW false p)) (.agg #[.int .i64 ps,.slice eX a0 d0,.slice eY J d1,.slice eZ a2 d2,.int .i64 fp]) (.agg (b9 false f)) (.agg #[.bool ok,.slice cL eA cs,.slice cI dF aR,.slice c1 b7 e2]),dI W.heap.size #[.int .i64 ps,.slice eX a0 d0,.slice eY J d1,.slice eZ a2 d2,.int .i64 fp] 26,dI (W.heap.size+1) #[.bool ok,.slice cL eA cs,.slice cI dF aR,.slice c1 b7 e2] 31,ib bM.heap.size k9.heap.size sC #[.slice gJ s.O.length g0,.slice gK s.ad.length g1,.slice ga s.aq.length g2] 35 (.agg (gm false s)) (.agg #[.slice gJ s.O.length g0,.slice gK s.ad.length g1,.slice ga s.aq.length g2]),kg k9.heap.size hZ.heap.size (.agg (bW false p)) (.agg #[.int .i64 p.ad,.slice fM p.bd.length aL,.slice fN p.O.length bC,.slice fO p.bt.length bV,.int .i64 p.cS]),dI hZ.heap.size #[.int .i64 p.ad,.slice fM p.bd.length aL,.slice fN p.O.length bC,.slice fO p.bt.length bV,.int .i64 p.cS] 39,kg (hZ.alloc (.cells #[.int .i64 p.ad,.slice fM p.bd.length aL,.slice fN p.O.length bC,.slice fO p.bt.length bV,.int .i64 p.cS] 39)).heap.size iz.heap.size (.agg (b9 false f)) (.agg #[.bool f.ok,.slice fP f.aC.length dW,.slice fa f.aq.length dO,.slice fQ f.O.length eE]),dI iz.heap.size #[.bool f.ok,.slice fP f.aC.length dW,.slice fa f.aq.length dO,.slice fQ f.O.length eE] 44,na .int .int .int (iz.alloc (.cells #[.bool f.ok,.slice fP f.aC.length dW,.slice fa f.aq.length dO,.slice fQ f.O.length eE] 44)).heap.size mI.heap.size (.agg (gm false s)) (.agg #[.slice cE s.O.length aI,.slice H1 s.ad.length h1,.slice h3 s.aq.length h2]) cE H1 h3 s.O.length aI s.ad.length h1 s.aq.length h2 L,dI mI.heap.size #[.slice cE s.O.length aI,.slice H1 s.ad.length h1,.slice h3 s.aq.length h2] 35]∧w'.cell? ⟨iz.heap.size,0,none⟩=some (.bool f.ok)∧w'.cell? ⟨iz.heap.size,1,none⟩=some (.slice fP f.aC.length dW)∧w'.cell? ⟨iz.heap.size,2,none⟩=some (.slice fa f.aq.length dO)∧w'.cell? ⟨iz.heap.size,3,none⟩=some (.slice fQ f.O.length eE)∧w'.cell? ⟨W.heap.size+1,0,none⟩=some (.bool ok)∧w'.cell? ⟨W.heap.size+1,1,none⟩=some (.slice cL eA cs)∧w'.cell? ⟨W.heap.size+1,2,none⟩=some (.slice cI dF aR)∧w'.cell? ⟨W.heap.size+1,3,none⟩=some (.slice c1 b7 e2))
    (first
      | exact O1 y8.out.drewN 7 2
      | (refine O1 ?_ 7 2 rfl rfl;assumption))
    (first
      | (go_at_call 10;refine(zD ur.out (hB.at y8.out.drewN 0).2).mono ?_;rintro e afC ⟨ez,v0,b1,v1,V2,v2,rfl,m5,qA⟩;have s0:=y8.out.drewN.below m5)
      | (go_at_call 14;refine(SJ (kg.at s0 6) (vD qA)).mono ?_;rintro e wo ⟨rfl,iI⟩;have xB:=s0.below iI))
  have wD:=Lib.hid xB;clear xB s0 m5 iI qA y8
  obtain⟨b5,q1,q2,q3,q4⟩:=p8 (wD.out.get 5)
  go_wp2_with (go_at_call 15;refine(SN (wD.out.told 4 rfl) (fun c hc=>hc.2.2) (by decide) RA.out).mono ?_)
  rw[lI.out]
  first
  | (rintro e aer rfl hb)
  | (rintro e aer ⟨rfl,hb⟩)
  have wE:=Lib.hid (wD.out.forget 4 rfl (wD.out.after 0 4 rfl rfl (by omega)) hb);clear b5 q1 q2 q3 q4 hb wD
  obtain⟨b5,q1,q2,q3⟩:=rn (wE.out.get 7)
  go_wp2_with (go_at_call 16;refine(SM (wE.out.told 6 rfl) (fun c hc=>hc.2.2) Il.out.1 Il.out.2).mono ?_)
  rw[mM.out]
  first
  | (rintro e aes rfl hb)
  | (rintro e aes ⟨rfl,hb⟩)
  have ug:=Lib.hid (wE.out.forget 6 rfl (wE.out.after 0 6 rfl rfl (by omega)) hb);clear b5 q1 q2 q3 hb wE
  obtain⟨b5,q1,q2⟩:=lL (ug.out.get 9)
  obtain⟨eC,cZ,dg⟩:=lL (ib.box ug.out 3 rfl)
  go_wp2_with (go_at_call 12;refine(C2 (na.at ug.out 8) (ib.at ug.out 3)).mono ?_)
  first
  | (rintro e ag rfl hb)
  | (rintro e ag ⟨rfl,hb⟩)
  have wF:=Lib.hid (ug.out.below hb);clear b5 q1 q2 eC cZ dg hb ug
  obtain⟨b5,q1,q2⟩:=lL (wF.out.get 9)
  have Ct:Hid ((1:Int)+(L.length:Nat)≤4611686018427387904):=by rw[wH.out];exact RB.out
  go_wp2_with (go_at_call 17;refine(SO (wF.out.aaJ 8 rfl) Rr.out (by decide) Ct.out).mono ?_)
  rw[wH.out,uj.out]
  first
  | (rintro e aet rfl hb)
  | (rintro e aet ⟨rfl,hb⟩)
  have y9:=Lib.hid (wF.out.aaL 8 rfl (wF.out.after 0 8 rfl rfl (by omega)) hb);clear b5 q1 q2 hb wF
  obtain⟨b5,q1,q2⟩:=lL (y9.out.get 9)
  go_wp2_with (go_at_call 18;refine(I4 (y9.out.Nz 8 rfl) (by decide) Ct.out).mono ?_)
  rw[wH.out,uj.out]
  first
  | (rintro e q9 rfl hb)
  | (rintro e q9 ⟨rfl,hb⟩)
  have p3:=Lib.hid (y9.out.below hb);clear b5 q1 q2 hb y9
  go_wp2_with fail
  go_cut [15] from 79 to 84 (fun l_ yY=> ∃(b:Nat) (rf rh ri:Option Addr) (b_ ef aS:Nat),l_= .pointer (some ⟨b,0,none⟩)∧cl W yY [hB W.heap.size (.agg (bW false p)) (.agg #[.int .i64 ps,.slice eX a0 d0,.slice eY J d1,.slice eZ a2 d2,.int .i64 fp]) (.agg (b9 false f)) (.agg #[.bool ok,.slice cL eA cs,.slice cI dF aR,.slice c1 b7 e2]),dI W.heap.size #[.int .i64 ps,.slice eX a0 d0,.slice eY J d1,.slice eZ a2 d2,.int .i64 fp] 26,dI (W.heap.size+1) #[.bool ok,.slice cL eA cs,.slice cI dF aR,.slice c1 b7 e2] 31,ib bM.heap.size k9.heap.size sC #[.slice gJ s.O.length g0,.slice gK s.ad.length g1,.slice ga s.aq.length g2] 35 (.agg (gm false s)) (.agg #[.slice gJ s.O.length g0,.slice gK s.ad.length g1,.slice ga s.aq.length g2]),vl k9.heap.size hZ.heap.size,dI hZ.heap.size #[.int .i64 p.ad,.slice fM p.bd.length aL,.slice fN p.O.length bC,.slice fO p.bt.length bV,.int .i64 p.cS] 39,vl (hZ.alloc (.cells #[.int .i64 p.ad,.slice fM p.bd.length aL,.slice fN p.O.length bC,.slice fO p.bt.length bV,.int .i64 p.cS] 39)).heap.size iz.heap.size,dI iz.heap.size #[.bool f.ok,.slice fP f.aC.length dW,.slice fa f.aq.length dO,.slice fQ f.O.length eE] 44,xQ .int .int .int (iz.alloc (.cells #[.bool f.ok,.slice fP f.aC.length dW,.slice fa f.aq.length dO,.slice fQ f.O.length eE] 44)).heap.size mI.heap.size cE H1 h3 s.O.length aI s.ad.length h1 s.aq.length h2 L 1,dI mI.heap.size #[.slice cE s.O.length aI,.slice H1 s.ad.length h1,.slice h3 s.aq.length h2] 35,ib q9.heap.size yY.heap.size b #[.slice rf s.O.length b_,.slice rh s.ad.length ef,.slice ri s.aq.length aS] 35 (.agg (gm false s)) (.agg #[.slice rf s.O.length b_,.slice rh s.ad.length ef,.slice ri s.aq.length aS])])
  case first=>
    go_region_held3 (fun w'=>cl W w' [hB W.heap.size (.agg (bW false p)) (.agg #[.int .i64 ps,.slice eX a0 d0,.slice eY J d1,.slice eZ a2 d2,.int .i64 fp]) (.agg (b9 false f)) (.agg #[.bool ok,.slice cL eA cs,.slice cI dF aR,.slice c1 b7 e2]),dI W.heap.size #[.int .i64 ps,.slice eX a0 d0,.slice eY J d1,.slice eZ a2 d2,.int .i64 fp] 26,dI (W.heap.size+1) #[.bool ok,.slice cL eA cs,.slice cI dF aR,.slice c1 b7 e2] 31,ib bM.heap.size k9.heap.size sC #[.slice gJ s.O.length g0,.slice gK s.ad.length g1,.slice ga s.aq.length g2] 35 (.agg (gm false s)) (.agg #[.slice gJ s.O.length g0,.slice gK s.ad.length g1,.slice ga s.aq.length g2]),vl k9.heap.size hZ.heap.size,dI hZ.heap.size #[.int .i64 p.ad,.slice fM p.bd.length aL,.slice fN p.O.length bC,.slice fO p.bt.length bV,.int .i64 p.cS] 39,vl (hZ.alloc (.cells #[.int .i64 p.ad,.slice fM p.bd.length aL,.slice fN p.O.length bC,.slice fO p.bt.length bV,.int .i64 p.cS] 39)).heap.size iz.heap.size,dI iz.heap.size #[.bool f.ok,.slice fP f.aC.length dW,.slice fa f.aq.length dO,.slice fQ f.O.length eE] 44,xQ .int .int .int (iz.alloc (.cells #[.bool f.ok,.slice fP f.aC.length dW,.slice fa f.aq.length dO,.slice fQ f.O.length eE] 44)).heap.size mI.heap.size cE H1 h3 s.O.length aI s.ad.length h1 s.aq.length h2 L 1,dI mI.heap.size #[.slice cE s.O.length aI,.slice H1 s.ad.length h1,.slice h3 s.aq.length h2] 35]∧w'.cell? ⟨W.heap.size,0,none⟩=some (.int .i64 ps)∧w'.cell? ⟨W.heap.size,1,none⟩=some (.slice eX a0 d0)∧w'.cell? ⟨W.heap.size,2,none⟩=some (.slice eY J d1)∧w'.cell? ⟨W.heap.size,3,none⟩=some (.slice eZ a2 d2)∧w'.cell? ⟨W.heap.size,4,none⟩=some (.int .i64 fp)∧w'.cell? ⟨W.heap.size+1,0,none⟩=some (.bool ok)∧w'.cell? ⟨W.heap.size+1,1,none⟩=some (.slice cL eA cs)∧w'.cell? ⟨W.heap.size+1,2,none⟩=some (.slice cI dF aR)∧w'.cell? ⟨W.heap.size+1,3,none⟩=some (.slice c1 b7 e2))
      (first
        | exact BL p3.out.drewN 1 2
        | (refine BL (cl.below p3.out ?_) 1 2 rfl rfl;(repeat' (first | exact fe | exact fc | exact fb | exact Below.refl _ _ | (refine Below.drew ?_) | (refine Below.alloc ?_ ?_ _) | (refine Below.setCell ?_ ?_ _) | exact Nat.le_refl _ | exact fb.size | exact fc.size | exact fe.size | ((try simp only[World.size_alloc,World.size_setCell,World.size_drew]);omega)))))
      (first
        | (go_at_call 9;refine(zE zg.out (hB.at (cl.below p3.out (by(repeat' (first | exact fe | exact fc | exact fb | exact Below.refl _ _ | (refine Below.drew ?_) | (refine Below.alloc ?_ ?_ _) | (refine Below.setCell ?_ ?_ _) | exact Nat.le_refl _ | exact fb.size | exact fc.size | exact fe.size | ((try simp only[World.size_alloc,World.size_setCell,World.size_drew]);omega))))) 0).1).mono ?_;rintro e ah ⟨bQ,aL,bL,bC,bK,bV,rfl,m5,qA⟩;have HN:=m5.size;(try simp only[World.size_alloc,World.size_drew] at HN);(have fb:Below q9.heap.size q9 ah:=Below.trans (by(repeat' (first | exact fe | exact fc | exact fb | exact Below.refl _ _ | (refine Below.drew ?_) | (refine Below.alloc ?_ ?_ _) | (refine Below.setCell ?_ ?_ _) | exact Nat.le_refl _ | exact fb.size | exact fc.size | exact fe.size | ((try simp only[World.size_alloc,World.size_setCell,World.size_drew]);omega)))) (m5.mono (by((try simp only[World.size_alloc,World.size_setCell,World.size_drew]);omega))));(first | (have pq:=NH m5) | skip))
        | (go_at_call 10;refine(zD ur.out (hB.at (cl.below p3.out (by(repeat' (first | exact fe | exact fc | exact fb | exact Below.refl _ _ | (refine Below.drew ?_) | (refine Below.alloc ?_ ?_ _) | (refine Below.setCell ?_ ?_ _) | exact Nat.le_refl _ | exact fb.size | exact fc.size | exact fe.size | ((try simp only[World.size_alloc,World.size_setCell,World.size_drew]);omega))))) 0).2).mono ?_;rintro e QZ ⟨Rj,z0,Rk,j8,Rl,z2,rfl,iI,ER⟩;have HO:=iI.size;(try simp only[World.size_alloc,World.size_drew] at HO);(have fc:Below q9.heap.size q9 QZ:=Below.trans (by(repeat' (first | exact fe | exact fc | exact fb | exact Below.refl _ _ | (refine Below.drew ?_) | (refine Below.alloc ?_ ?_ _) | (refine Below.setCell ?_ ?_ _) | exact Nat.le_refl _ | exact fb.size | exact fc.size | exact fe.size | ((try simp only[World.size_alloc,World.size_setCell,World.size_drew]);omega)))) (iI.mono (by((try simp only[World.size_alloc,World.size_setCell,World.size_drew]);omega))));(first | (have s4:=A9 iI) | (have s4:=(iI.block _ (rD pq)).trans pq) | skip))
        | (go_at_call 11;refine(I5 n7.out If.out ((vD qA).below (by first | exact iI | exact iI.alloc iI.size _ | exact((Below.refl _ _).alloc (Nat.le_refl _) _).trans (iI.mono (by rw[World.size_alloc];exact Nat.le_succ _)))) ((vD ER).below (by first | exact Below.refl _ _ | exact(Below.refl _ _).alloc (Nat.le_refl _) _))).mono ?_;rintro e H7 ⟨rf,b_,rh,ef,ri,aS,aeU,rfl,qj,qB,ae9,ae6,EA⟩;have HP:=qj.size;(try simp only[World.size_alloc,World.size_drew] at HP);(have fe:Below q9.heap.size q9 H7:=Below.trans (by(repeat' (first | exact fe | exact fc | exact fb | exact Below.refl _ _ | (refine Below.drew ?_) | (refine Below.alloc ?_ ?_ _) | (refine Below.setCell ?_ ?_ _) | exact Nat.le_refl _ | exact fb.size | exact fc.size | exact fe.size | ((try simp only[World.size_alloc,World.size_setCell,World.size_drew]);omega)))) (qj.mono (by((try simp only[World.size_alloc,World.size_setCell,World.size_drew]);omega))));(first | (have oz:=A9 qj) | (have oz:=(qj.block _ (rD s4)).trans s4) | skip);(first | (have xE:=oz;have jB:=lL xE;have x8:=wX xE;obtain⟨aah,aai,aaj⟩:=jB;obtain⟨aal,aam,aan⟩:=x8) | skip)))
    all_goals (try go_wp2_with fail)
    all_goals go_meet
    · exact⟨H7.heap.size,rf,rh,ri,b_,ef,aS,rfl,cl.dB p3.out (by(repeat' (first | exact fe | exact fc | exact fb | exact Below.refl _ _ | (refine Below.drew ?_) | (refine Below.alloc ?_ ?_ _) | (refine Below.setCell ?_ ?_ _) | exact Nat.le_refl _ | exact fb.size | exact fc.size | exact fe.size | ((try simp only[World.size_alloc,World.size_setCell,World.size_drew]);omega)))) _ (by((try simp only[World.size_alloc,World.size_setCell,World.size_drew]);omega)) (by((try simp only[World.size_alloc,World.size_setCell,World.size_drew]);omega)) (nA _ _) (dX.dB qB (by((try simp only[World.size_alloc,World.size_setCell,World.size_drew]);omega)) (by((try simp only[World.size_alloc,World.size_setCell,World.size_drew]);omega)) (fun _=>Nat.le_refl _) (fun c hc _=>((Below.refl _ _).alloc (Nat.le_refl _) _).block c hc))⟩
    · exact⟨QZ.heap.size,rf,rh,ri,b_,ef,aS,rfl,cl.dB p3.out (by(repeat' (first | exact fe | exact fc | exact fb | exact Below.refl _ _ | (refine Below.drew ?_) | (refine Below.alloc ?_ ?_ _) | (refine Below.setCell ?_ ?_ _) | exact Nat.le_refl _ | exact fb.size | exact fc.size | exact fe.size | ((try simp only[World.size_alloc,World.size_setCell,World.size_drew]);omega)))) _ (by((try simp only[World.size_alloc,World.size_setCell,World.size_drew]);omega)) (by((try simp only[World.size_alloc,World.size_setCell,World.size_drew]);omega)) (v8 oz) (dX.dB qB (by((try simp only[World.size_alloc,World.size_setCell,World.size_drew]);omega)) (by((try simp only[World.size_alloc,World.size_setCell,World.size_drew]);omega)) (fun h=>absurd h (by((try simp only[World.size_alloc,World.size_setCell,World.size_drew]);omega))) (fun c _ bY=>by rw[Below.heap_setCell _ _ _ _ bY,Below.heap_setCell _ _ _ _ bY,Below.heap_setCell _ _ _ _ bY]))⟩
    · exact⟨ah.heap.size,rf,rh,ri,b_,ef,aS,rfl,cl.dB p3.out (by(repeat' (first | exact fe | exact fc | exact fb | exact Below.refl _ _ | (refine Below.drew ?_) | (refine Below.alloc ?_ ?_ _) | (refine Below.setCell ?_ ?_ _) | exact Nat.le_refl _ | exact fb.size | exact fc.size | exact fe.size | ((try simp only[World.size_alloc,World.size_setCell,World.size_drew]);omega)))) _ (by((try simp only[World.size_alloc,World.size_setCell,World.size_drew]);omega)) (by((try simp only[World.size_alloc,World.size_setCell,World.size_drew]);omega)) (v8 oz) (dX.dB qB (by((try simp only[World.size_alloc,World.size_setCell,World.size_drew]);omega)) (by((try simp only[World.size_alloc,World.size_setCell,World.size_drew]);omega)) (fun h=>absurd h (by((try simp only[World.size_alloc,World.size_setCell,World.size_drew]);omega))) (fun c _ bY=>by rw[Below.heap_setCell _ _ _ _ bY,Below.heap_setCell _ _ _ _ bY,Below.heap_setCell _ _ _ _ bY]))⟩
    · exact⟨q9.heap.size,rf,rh,ri,b_,ef,aS,rfl,cl.dB p3.out (by(repeat' (first | exact fe | exact fc | exact fb | exact Below.refl _ _ | (refine Below.drew ?_) | (refine Below.alloc ?_ ?_ _) | (refine Below.setCell ?_ ?_ _) | exact Nat.le_refl _ | exact fb.size | exact fc.size | exact fe.size | ((try simp only[World.size_alloc,World.size_setCell,World.size_drew]);omega)))) _ (by((try simp only[World.size_alloc,World.size_setCell,World.size_drew]);omega)) (by((try simp only[World.size_alloc,World.size_setCell,World.size_drew]);omega)) (v8 oz) (dX.dB qB (by((try simp only[World.size_alloc,World.size_setCell,World.size_drew]);omega)) (by((try simp only[World.size_alloc,World.size_setCell,World.size_drew]);omega)) (fun h=>absurd h (by((try simp only[World.size_alloc,World.size_setCell,World.size_drew]);omega))) (fun c _ bY=>by rw[Below.heap_setCell _ _ _ _ bY,Below.heap_setCell _ _ _ _ bY,Below.heap_setCell _ _ _ _ bY]))⟩
  case rest=>
  obtain⟨uw,rf,rh,ri,b_,ef,aS,rfl,aE⟩:=hcut
  obtain⟨H7,Wo⟩: ∃w,w=wc:=⟨_,rfl⟩
  subst Wo
  have uh:=Lib.hid aE;clear aE p3
  obtain⟨b5,q1,q2⟩:=lL (ib.box uh.out 10 rfl)
  obtain⟨eC,cZ,dg⟩:=lL (ib.box uh.out 3 rfl)
  go_wp2_with (go_at_call 12;refine(C2 (ib.at uh.out 10) (ib.at uh.out 3)).mono ?_)
  first
  | (rintro e aeu rfl hb)
  | (rintro e aeu ⟨rfl,hb⟩)
  have y_:=Lib.hid (uh.out.below hb);clear b5 q1 q2 eC cZ dg hb uh
  obtain⟨b5,q1,q2⟩:=lL (y_.out.get 9)
  go_wp2_with (go_at_call 18;refine(I4 (y_.out.Nz 8 rfl) (by decide) Ct.out).mono ?_)
  rw[wH.out,uj.out]
  first
  | (rintro e aev rfl hb)
  | (rintro e aev ⟨rfl,hb⟩)
  have Ru:=Lib.hid (y_.out.below hb);clear b5 q1 q2 hb y_
  go_wp2
  go_ret
  exact⟨rfl,Ru.out.end⟩
theorem X8 (p:aK) (f:Frame) (k:Int) (W:World) (eX eY eZ cL cI c1:Option Addr) (a0 J a2 eA dF b7 d0 d1 d2 cs aR e2:Nat) (ps fp:Int) (ok:Bool)
    (h1:dX W (fun c=>c<W.heap.size) (.agg (bW false p)) (.agg #[.int .i64 ps,.slice eX a0 d0,.slice eY J d1,.slice eZ a2 d2,.int .i64 fp])) (hs:1048576<kk p):
    Calls Tryz.prog 3 #[.agg #[.int .i64 ps,.slice eX a0 d0,.slice eY J d1,.slice eZ a2 d2,.int .i64 fp],.agg #[.bool ok,.slice cL eA cs,.slice cI dF aR,.slice c1 b7 e2],.int .i64 k] W fun e w'=>e= .returned (.bool true)∧Below W.heap.size W w':=by
  have mb:Hid (Below W.heap.size W ((W.alloc (.cells #[.int .i64 ps,.slice eX a0 d0,.slice eY J d1,.slice eZ a2 d2,.int .i64 fp] 26)).alloc (.cells #[.bool ok,.slice cL eA cs,.slice cI dF aR,.slice c1 b7 e2] 31))):=((Below.refl _ _).alloc (Nat.le_refl _) _).alloc (by simp) _
  have kP:Hid (V2 (Env.at ((W.alloc (.cells #[.int .i64 ps,.slice eX a0 d0,.slice eY J d1,.slice eZ a2 d2,.int .i64 fp] 26)).alloc (.cells #[.bool ok,.slice cL eA cs,.slice cI dF aR,.slice c1 b7 e2] 31))) (.agg (bW false p)) (.agg #[.int .i64 ps,.slice eX a0 d0,.slice eY J d1,.slice eZ a2 d2,.int .i64 fp])):=(h1.cT (fun c hc=>mb.out.block c hc) (fun _ h=>h)).at fun c hc=>Nat.lt_of_lt_of_le hc mb.out.size
  have wQ:Hid (oW p 1048576= -1):=by unfold Hid oW eQ;rw[if_pos (by omega)]
  clear h1 hs
  go_enter Tryz.func3,Tryz.ntmps3
  go_wp2_with (go_at_call 6;refine(C4 (p:=p) (l:=1048576) ⟨by omega,by omega⟩ kP.out).mono ?_)
  rw[wQ.out]
  first
  | (rintro e bz rfl hb)
  | (rintro e bz ⟨rfl,hb⟩)
  have Rs:=Lib.hid (mb.out.trans (hb.mono mb.out.size));clear hb
  go_wp2
  go_ret
  exact⟨rfl,Rs.out⟩
theorem X9 (p:aK) (f:Frame) (k:Int) (W:World) (eX eY eZ cL cI c1:Option Addr) (a0 J a2 eA dF b7 d0 d1 d2 cs aR e2:Nat) (ps fp:Int) (ok:Bool)
    (h1:dX W (fun c=>c<W.heap.size) (.agg (bW false p)) (.agg #[.int .i64 ps,.slice eX a0 d0,.slice eY J d1,.slice eZ a2 d2,.int .i64 fp]))
    (h2:dX W (fun c=>c<W.heap.size) (.agg (b9 false f)) (.agg #[.bool ok,.slice cL eA cs,.slice cI dF aR,.slice c1 b7 e2]))
    (hs:kk p≤1048576) (rL:1048576<kk p+oi f):
    Calls Tryz.prog 3 #[.agg #[.int .i64 ps,.slice eX a0 d0,.slice eY J d1,.slice eZ a2 d2,.int .i64 fp],.agg #[.bool ok,.slice cL eA cs,.slice cI dF aR,.slice c1 b7 e2],.int .i64 k] W fun e w'=>e= .returned (.bool true)∧Below W.heap.size W w':=by
  have wC:Hid (cl W W [hB W.heap.size (.agg (bW false p)) (.agg #[.int .i64 ps,.slice eX a0 d0,.slice eY J d1,.slice eZ a2 d2,.int .i64 fp]) (.agg (b9 false f)) (.agg #[.bool ok,.slice cL eA cs,.slice cI dF aR,.slice c1 b7 e2])]):=(cl.start W).add (hB W.heap.size _ _ _ _) (Nat.le_refl _) ⟨h1,h2⟩ (fun j h=>by cases h)
  have iV:Hid (cl W ((W.alloc (.cells #[.int .i64 ps,.slice eX a0 d0,.slice eY J d1,.slice eZ a2 d2,.int .i64 fp] 26)).alloc (.cells #[.bool ok,.slice cL eA cs,.slice cI dF aR,.slice c1 b7 e2] 31)) [hB W.heap.size (.agg (bW false p)) (.agg #[.int .i64 ps,.slice eX a0 d0,.slice eY J d1,.slice eZ a2 d2,.int .i64 fp]) (.agg (b9 false f)) (.agg #[.bool ok,.slice cL eA cs,.slice cI dF aR,.slice c1 b7 e2]),dI W.heap.size #[.int .i64 ps,.slice eX a0 d0,.slice eY J d1,.slice eZ a2 d2,.int .i64 fp] 26,dI (W.heap.size+1) #[.bool ok,.slice cL eA cs,.slice cI dF aR,.slice c1 b7 e2] 31]):=by
    have:=(wC.out.box #[.int .i64 ps,.slice eX a0 d0,.slice eY J d1,.slice eZ a2 d2,.int .i64 fp] 26).box #[.bool ok,.slice cL eA cs,.slice cI dF aR,.slice c1 b7 e2] 31
    rw[World.size_alloc] at this
    exact this
  clear wC h1 h2
  have j8:oW p 1048576=1048576 - kk p:=by unfold oW eQ;rw[if_neg (by omega)]
  have z2:q7 f (1048576 - kk p)= -1:=by unfold q7 eQ;rw[if_pos (by omega)]
  obtain⟨dO,EZ⟩: ∃y:Int,(1048576:Int) - kk p=y:=⟨_,rfl⟩
  rw[EZ] at j8 z2
  have fa:Hid (0≤dO∧dO≤1048576):=by unfold Hid;omega
  have wQ:=Lib.hid j8;clear j8
  have Z2:=Lib.hid z2;clear z2
  have g1:decide (dO<0)=false:=decide_eq_false (by omega)
  clear EZ hs rL
  go_enter Tryz.func3,Tryz.ntmps3
  go_wp2_with (go_at_call 6;refine(C4 (p:=p) (l:=1048576) ⟨by omega,by omega⟩ (hB.at iV.out 0).1).mono ?_)
  rw[wQ.out]
  first
  | (rintro e bz rfl hb)
  | (rintro e bz ⟨rfl,hb⟩)
  have kR:=Lib.hid (iV.out.below hb);clear hb iV
  obtain⟨b5,q1,q2,q3⟩:=rn (kR.out.get 2)
  go_wp2_with (go_at_call 7;refine(I7 (p:=f) (l:=dO) fa.out (hB.at kR.out 0).2).mono ?_)
  rw[Z2.out]
  first
  | (rintro e bM rfl hb)
  | (rintro e bM ⟨rfl,hb⟩)
  have hE:=Lib.hid (kR.out.below hb);clear hb kR b5 q1 q2 q3
  go_wp2
  go_ret
  exact⟨rfl,hE.out.end⟩
theorem X_ (a0:aK) (J:Frame) (a2:Int):bg Tryz.prog 3 [.agg (bW false a0),.agg (b9 false J),.int .i64 a2] (.bool true):=by
  refine bg.aay (by kernel_rfl) fun W vs aF=> ?_
  obtain⟨afl,vs,rfl,h1,aF⟩:=aF.cons_inv
  obtain⟨ae0,vs,rfl,h2,aF⟩:=aF.cons_inv
  obtain⟨jA,vs,rfl,aM,aF⟩:=aF.cons_inv
  obtain rfl:=aF.lZ
  have aM:aW W _ _ (.int .i64 a2) jA:=aM
  cases aM
  have t1:=Q1 (e:= .eh) (x:=a0) h1
  have t2:=Q1 (e:= .frame) (x:=J) h2
  obtain⟨eX,d0,eY,d1,eZ,d2,rfl,_⟩:=B7 t1
  obtain⟨cL,cs,cI,aR,c1,e2,rfl,_⟩:=B6 t2
  by_cases hs:kk a0≤1048576
  · by_cases rL:kk a0+oi J≤1048576
    · exact X7 a0 J a2 W eX eY eZ cL cI c1 _ _ _ _ _ _ d0 d1 d2 cs aR e2 _ _ _ _ rfl t1 t2 (Sa a0 J a2) hs rL
    · exact X9 a0 J a2 W eX eY eZ cL cI c1 _ _ _ _ _ _ d0 d1 d2 cs aR e2 _ _ _ t1 t2 hs (by omega)
  · exact X8 a0 J a2 W eX eY eZ cL cI c1 _ _ _ _ _ _ d0 d1 d2 cs aR e2 _ _ _ t1 (by omega)
end Go.Proofs.YtglpfccgmfhkdaaGreat.Fw
