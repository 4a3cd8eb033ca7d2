/- The machine, part Ew: writes into a frame's ways. -/
import Derived.Test.YtglpfccgmfhkdaaGreatM3
set_option linter.unusedVariables false
namespace Go.Proofs.YtglpfccgmfhkdaaGreat.Fw
open Go
def FF:TV→Bool
 | .jL _ _ _=>true
 | _=>false
theorem R7 {Z Z':FZ} {v:TV} (h:FF v=false): @TV.eM Z' v= @TV.eM Z v:=by cases v<;>first | rfl | cases h
def yc (s:TS) (b:Nat):Nat→Bool
 | 0=>true
 | k+1=>(Nat.beq k b || !FF (s.get (bJ k)))&&yc s b k
theorem NV {s:TS} {b:Nat}: ∀{n:Nat},yc s b n=true→ ∀k,k<n→k≠b→FF (s.get (bJ k))=false
 | 0,_,k,h,_=>by omega
 | n+1,h,k,hk,bY=>by
  simp only[yc,Bool.and_eq_true,Bool.or_eq_true,Bool.not_eq_true'] at h
  rcases Nat.lt_or_ge k n with q | q
  ·exact NV h.2 k q bY
  ·have:k=n:=by omega
   subst this
   rcases h.1 with e | e
   ·exact absurd (Nat.eq_of_beq_eq_true e) bY
   ·exact e
theorem aez {Z Z':FZ} {n:Nat} {s s':TS} {b g m:Nat} {ids:List Nat} {V Ir:List ac} {WD:List Nat} {bU NQ:Nat} {hv:V.length=bU} {qC:Ir.length=NQ} (hb:b<s.bb) (vb:s'.bb=s.bb) (he: ∀k,k≠b→s'.get (bJ k)=s.get (bJ k)) (aQ:s'.get (bJ b)= .jL g m ids) (hw:yc s b s.bb=true)
  (h1:s.get dj= .gy V WD bU hv) (h2:s'.get dj= .gy Ir ids NQ qC):(@TS.ay Z' n s').H=(@TS.f_ Z s).set b ⟨g,5,bp m Z'.ws ids⟩++List.map bR Z'.bs:=by
 rw[qa h2]
 congr 1
 apply List.ext_getElem?
 intro i
 rw[@oY Z' s' i,List.getElem?_set,@oY Z s i,@l9 Z s,vb]
 by_cases hi:b=i
 ·subst hi;rw[if_pos hb,if_pos rfl,if_pos hb,aQ];rfl
 ·rw[if_neg hi,he i (fun e=>hi e.symm)]
  by_cases h:i<s.bb
  ·rw[if_pos h,if_pos h,R7 (Z:=Z) (NV hw i h (fun e=>hi e.symm))]
  ·rw[if_neg h,if_neg h]
theorem yM {n:Nat} {s:TS} {l:List (Nat×TV)} (ao:n≤1000000) (h: ∀p∈l,1000000≤p.1):(s.add l s.vs s.bb).tT n=s.tT n:=by
 show(List.range n).map _=(List.range n).map _
 refine List.map_congr_left fun t bn=> ?_
 have bn:t<n:=List.mem_range.1 bn
 rw[TS.h6,rT fun v hv=>by have:=h _ hv;simp only at this;omega]
def G2 (c:Nat) (v:TV) (h:ac) (K:ac→aJ):aJ:=match v with
 | .i k x=>if k= .i64 then(match c with
  | 0=>K {h with az:=x}
  | 1=>K {h with ab:=x}
  | 4=>K {h with au:=x}
  | _=> .no) else .no
 | .b x=>(match c with
  | 3=>K {h with ar:=x.den}
  | _=> .no)
 | _=> .no
theorem O8 {c:Nat} {v:TV} {w:ac} {b:List Bool} {K:ac→aJ} {R:Exit→TS→Prop} (h:(G2 c v {w with aa:=b} K).den R):
  ∃x:ac,x.aa=w.aa∧(K {x with aa:=b}).den R∧(∀m id,gh (k0 m w id) c (eP v.bq)=k0 m x id)∧c+(eP v.bq).length≤5:=by
 unfold G2 at h
 split at h
 ·rename_i k x
  split at h
  ·rename_i hk
   subst hk
   split at h
   ·exact⟨{w with az:=x},rfl,h,fun m id=>rfl,(show(0+1:Nat)≤5 by decide)⟩
   ·exact⟨{w with ab:=x},rfl,h,fun m id=>rfl,(show(1+1:Nat)≤5 by decide)⟩
   ·exact⟨{w with au:=x},rfl,h,fun m id=>rfl,(show(4+1:Nat)≤5 by decide)⟩
   ·exact h.elim
  ·exact h.elim
 ·rename_i x
  split at h
  ·exact⟨{w with ar:=x.den},rfl,h,fun m id=>rfl,(show(3+1:Nat)≤5 by decide)⟩
  ·exact h.elim
 ·exact h.elim
theorem jN.Zu {ws:List ac} {ids:List Nat} {bs:List (List Bool)} (G:jN ws ids bs) {i id:Nat} {x:ac} (hi:i<ws.length) (h1:id<bs.length) (h2:bs.getD id []=x.aa) (aM: ∀j:Nat,ids[j]?≠some id):
  jN (ws.set i x) (ids.set i id) bs∧view (ws.set i x) (ids.set i id) bs=(view ws ids bs).set i x:=by
 have aE:=G.ok.len
 refine⟨⟨⟨by rw[List.length_set,List.length_set];exact aE,fun j k hk=> ?_,fun j k h aF hk=> ?_⟩,fun a b k aF hb=> ?_,G.len⟩,?_⟩
 ·rw[List.getElem?_set] at hk
  split at hk
  ·split at hk
   ·cases hk;exact h1
   ·cases hk
  ·exact G.ok.lt j k hk
 ·rw[List.getElem?_set] at aF hk
  split at aF
  ·rename_i e;subst e
   rw[if_pos rfl,if_pos (by omega)] at hk
   cases aF;cases hk;rw[h2]
  ·rename_i e
   rw[if_neg e] at hk
   exact G.ok.aa j k h aF hk
 ·rw[List.getElem?_set] at aF hb
  split at aF
  ·split at aF
   ·cases aF
    split at hb
    ·rename_i aR _ e2;omega
    ·exact absurd hb (aM b)
   ·cases aF
  ·split at hb
   ·split at hb
    ·cases hb;exact absurd aF (aM a)
    ·cases hb
   ·exact G.kF a b k aF hb
 ·apply List.ext_getElem?
  intro j
  unfold view
  rw[List.getElem?_zipWith,List.getElem?_set,List.getElem?_set,List.getElem?_set,List.getElem?_zipWith,List.length_zipWith]
  by_cases e:i=j
  ·subst e
   rw[if_pos rfl,if_pos rfl,if_pos rfl,if_pos hi,if_pos (by omega),if_pos (by omega)]
   show some ({x with aa:=bs.getD id []}:ac)=some x
   rw[h2]
  ·rw[if_neg e,if_neg e,if_neg e]
theorem jN.snoc {ws:List ac} {ids:List Nat} {bs:List (List Bool)} (G:jN ws ids bs) {xs:List Bool} (hx:xs.length≤1048576):jN ws ids (bs++[xs])∧view ws ids (bs++[xs])=view ws ids bs:=by
 have aQ: ∀id,id<bs.length→(bs++[xs]).getD id []=bs.getD id []:=fun id h=>by
  rw[List.getD_eq_getElem?_getD,List.getD_eq_getElem?_getD,List.getElem?_append_left h]
 refine⟨⟨⟨G.ok.len,fun i id h=>by have:=G.ok.lt i id h;rw[List.length_append];omega,fun i id h h1 h2=>by rw[aQ id (G.ok.lt i id h2)];exact G.ok.aa i id h h1 h2⟩,G.kF,fun b hb=> ?_⟩,?_⟩
 ·rcases List.mem_append.1 hb with hb | hb
  ·exact G.len b hb
  ·rw[List.mem_singleton.1 hb];exact hx
 ·apply List.ext_getElem?
  intro j
  unfold view
  rw[List.getElem?_zipWith,List.getElem?_zipWith]
  cases h1:ws[j]? with
  | none=>rfl
  | some w=>
   cases h2:ids[j]? with
   | none=>rfl
   | some id=>simp only[aQ id (G.ok.lt j id h2)]
def HK (P:Program) (t:TypeId) (b g:Nat) (i:Int) (c:Nat) (v:TV) (s:TS) (c8 gY:Nat) (ids:List Nat) (K:TS→aJ):aJ:=match s.get dj with
 | .gy V c6 bU hv=> .eq c8 g (.eq c6 ids (.eq (Nat.blt b s.bb&&yc s b s.bb&&tU P t v.bq) true (match v with
  | .agg l=>(match l with
   | [.i dA ay,.i hp go,.x_ id m k,.b gS,.i nd n1]=>(match s.get fH with
    | .new fX xs=>
     let s':=s.add [(dj,.gy (V.set i.toNat (ac.mk ay go xs gS.den n1)) (ids.set i.toNat id) bU ((List.length_set ..).trans hv)),(bJ b,.jL g gY (ids.set i.toNat id)),(fH,.u)] s.vs s.bb
     .eq c 0 (.eq (dA,hp,nd) (IntKind.i64,IntKind.i64,IntKind.i64) (.eq fX id (.eq m gY (.eq k xs.length (.eq s'.cg s.cg (.p (i.toNat<V.length) (K s')))))))
    | _=> .no)
   | _=> .no)
  | v=>G2 c v (nth V i) fun y=>
   let s':=s.add [(dj,.gy (V.set i.toNat y) ids bU ((List.length_set ..).trans hv))] s.vs s.bb
   .eq s'.cg s.cg (.p (i.toNat<V.length) (K s')))))
 | _=> .no
section
variable [Z:FZ] {P:Program} {cf:gC P} {s:TS} {R:Exit→TS→Prop}
theorem ad_ (ao:cf.n≤1000000) {t:TypeId} {b g c c8 gY:Nat} {ids:List Nat} {i:Int} {v:TV} {K:TS→aJ} {Kp:List (Nat×List AV)→List Blk→Prop} (aH:Fits s) (aQ:s.get (bJ b)= .jL c8 gY ids)
  (hK: ∀s' (Z':FZ),(K s').den R→ @Fits Z' s'→s'.tT cf.n=s.tT cf.n→Kp s'.cg (@TS.ay Z' cf.n s').H) (h:(HK P t b g i c v s c8 gY ids K).den R):
  k7 P t (.ptr b g i.toNat c) v.bq (s.ay cf.n).L (s.ay cf.n).H Kp:=by
 unfold HK at h
 split at h
 ·rename_i V c6 bU jZ hk
  obtain⟨h1,h2,aM,h⟩:=h
  subst h1;subst h2
  simp only[Bool.and_eq_true] at aM
  obtain⟨⟨hb,hw⟩,a8⟩:=aM
  have hb:b<s.bb:=by rw[←Nat.blt_eq];exact hb
  obtain⟨G,e,iH⟩:=aH V c6 _ _ hk
  have hs:=B0 a8
  have oA:=jJ G.ok
  rw[e] at oA
  have aB:(s.ay cf.n).H[b]?=some ⟨c8,5,bp gY Z.ws c6⟩:=by rw[q6 hb,aQ];rfl
  have U4:(s.ay cf.n).H=s.f_++List.map bR Z.bs:=qa hk
  unfold k7
  rw[if_pos hs]
  have fin: ∀{s':TS} {ws2:List ac} {ids2:List Nat} {V2:List ac} {n2:Nat} {hv2:V2.length=n2} {cells row':List AV},i.toNat<V.length→c+cells.length≤5→gh (k0 gY (nth Z.ws i) (nth c6 i)) c cells=row'→(bp gY Z.ws c6).set i.toNat row'=bp gY ws2 ids2→s'.bb=s.bb→(∀k,k≠b→s'.get (bJ k)=s.get (bJ k))→s'.get (bJ b)= .jL c8 gY ids2→s'.get dj= .gy V2 ids2 n2 hv2→
    s'.cg=s.cg→(K s').den R→ @Fits ⟨ws2,Z.bs⟩ s'→s'.tT cf.n=s.tT cf.n→(cM (s.ay cf.n).H[b]? fun blk=>blk.bi=c8∧cM blk.rows[i.toNat]? fun row=>c+cells.length≤row.length∧Kp (s.ay cf.n).L ((s.ay cf.n).H.set b {blk with rows:=blk.rows.set i.toNat (gh row c cells)})):=by
   intro s' ws2 ids2 V2 n2 hv2 cells row' hi hc vi rM vb kB lj At bN U6 hf cc
   refine dN aB ⟨rfl,dN (e0 G.ok.len (by omega)) ⟨hc,?_⟩⟩
   have:=hK s' ⟨ws2,Z.bs⟩ U6 hf cc
   rw[bN,aez (Z:=Z) (Z':=⟨ws2,Z.bs⟩) hb vb kB lj hw hk At] at this
   rw[U4,List.set_append_left _ _ (by rw[l9];exact hb),vi]
   show Kp s.cg (s.f_.set b ⟨c8,5,(bp gY Z.ws c6).set i.toNat row'⟩++_)
   rw[rM];exact this
  split at h
  ·split at h
   ·rename_i dA ay hp go id m k gS nd n1
    split at h
    ·rename_i fX xs vc
     obtain⟨h1,h2,bx,c9,e6,lP,qh,h⟩:=h
     subst h1;subst bx;subst c9;subst e6
     cases h2
     obtain⟨cu,n2,k5⟩:=iH _ _ vc
     obtain⟨wA,b3⟩:=G.Zu (i:=i.toNat) (id:=fX) (x:=ac.mk ay go xs gS.den n1) (by omega) cu n2 k5
     refine fin (s':=s.add [(dj,.gy (V.set i.toNat (ac.mk ay go xs gS.den n1)) (c6.set i.toNat fX) bU ((List.length_set ..).trans jZ)),(bJ b,.jL c8 m (c6.set i.toNat fX)),(fH,.u)] s.vs s.bb) (ws2:=Z.ws.set i.toNat (ac.mk ay go xs gS.den n1)) (V2:=V.set i.toNat (ac.mk ay go xs gS.den n1)) (n2:=bU) (hv2:=(List.length_set ..).trans jZ) (ids2:=c6.set i.toNat fX) (row':=k0 m (ac.mk ay go xs gS.den n1) fX) qh (Nat.le_refl 5) ?_ (Ai G.ok.len) rfl (fun k hk=> ?_) ?_ ?_ lP h ?_ (yM ao ?_)
     ·rfl
     ·rw[TS.h6,gP,if_neg (by unfold dj bJ;omega),gP,if_neg (by unfold bJ;omega),gP,if_neg (by unfold fH bJ;omega)];rfl
     ·rw[TS.h6,gP,if_neg (by unfold dj bJ;omega),gP,if_pos rfl]
     ·rw[TS.h6,gP,if_pos rfl]
     ·intro V3 AN k5 pq aM
      rw[TS.h6,gP,if_pos rfl] at aM
      cases aM
      refine⟨wA,by rw[←e];exact b3,fun id xs hx=> ?_⟩
      rw[TS.h6,gP,if_neg (by unfold dj fH;omega),gP,if_neg (by unfold bJ fH;omega),gP,if_pos rfl] at hx
      cases hx
     ·intro p ai
      simp only[List.mem_cons,List.not_mem_nil,or_false] at ai
      rcases ai with rfl | rfl | rfl
      ·exact Nat.le_refl _
      ·show 1000000≤bJ b;unfold bJ;omega
      ·show 1000000≤fH;unfold fH;omega
    ·exact h.elim
   ·exact h.elim
  ·have afa:i.toNat<V.length∨ ¬i.toNat<V.length:=by omega
   by_cases hi:i.toNat<V.length
   ·have hv:=Cd G.ok (i:=i) (by rw[e];exact hi)
    rw[e] at hv
    rw[hv] at h
    obtain⟨x,bC,h,bV,Q7⟩:=O8 h
    obtain⟨lP,qh,h⟩:=h
    have F:=(G.wV (j:=i) (by omega)).v_ x (by rw[bC];have:=(G.wV (j:=i) (by omega)).o8;exact this)
    have k1:(nth (view Z.ws c6 Z.bs) i).aa=Z.bs.getD (nth c6 i) []:=by rw[e,hv]
    rw[k1,e] at F
    refine fin (s':=s.add [(dj,.gy (V.set i.toNat {x with aa:=Z.bs.getD (nth c6 i) []}) c6 bU ((List.length_set ..).trans jZ))] s.vs s.bb) (ws2:=Z.ws.set i.toNat x) (ids2:=c6) (V2:=V.set i.toNat {x with aa:=Z.bs.getD (nth c6 i) []}) (n2:=bU) (hv2:=(List.length_set ..).trans jZ) qh Q7 (bV gY (nth c6 i)) (m4 G.ok.len (by omega)) rfl (fun k hk=> ?_) ?_ ?_ lP h ?_ (yM ao ?_)
    ·rw[TS.h6,gP,if_neg (by unfold dj bJ;omega)];rfl
    ·rw[TS.h6,gP,if_neg (by unfold dj bJ;omega)];exact aQ
    ·rw[TS.h6,gP,if_pos rfl]
    ·intro V3 AN k5 pq aM
     rw[TS.h6,gP,if_pos rfl] at aM
     cases aM
     refine⟨F.G,F.iy,fun id xs hx=> ?_⟩
     rw[TS.h6,gP,if_neg (by unfold dj fH;omega)] at hx
     exact iH id xs hx
    ·intro p ai
     rw[List.mem_singleton.1 ai];exact Nat.le_refl _
   ·obtain⟨x,bC,h,_⟩:=O8 (w:=nth V i) (b:=(nth V i).aa) h
    exact absurd h.2.1 hi
 ·exact h.elim
def yO (P:Program) (t:TypeId) (w:Int) (ids:List Nat) (m:Nat) (j:Int) (v:TV) (s:TS) (K:TS→aJ):aJ:=match s.get dj with
 | .gy V c6 bU hv=> .eq c6 ids (.eq m s.bb (.eq (tU P t v.bq) true (match v with
  | .b x=>
   let s':=s.add [(dj,.gy (V.set w.toNat {nth V w with aa:=(nth V w).aa.set j.toNat x.den}) ids bU ((List.length_set ..).trans hv))] s.vs s.bb
   .eq s'.cg s.cg (.p (w.toNat<V.length∧j.toNat<(nth V w).aa.length) (K s'))
  | _=> .no)))
 | _=> .no
theorem ad6 (ao:cf.n≤1000000) {t:TypeId} {m:Nat} {ids:List Nat} {w j:Int} {v:TV} {K:TS→aJ} {Kp:List (Nat×List AV)→List Blk→Prop} (aH:Fits s)
  (hK: ∀s' (Z':FZ),(K s').den R→ @Fits Z' s'→s'.tT cf.n=s.tT cf.n→Kp s'.cg (@TS.ay Z' cf.n s').H) (h:(yO P t w ids m j v s K).den R):
  k7 P t (.ptr (nth ids w+m) 0 j.toNat 0) v.bq (s.ay cf.n).L (s.ay cf.n).H Kp:=by
 unfold yO at h
 split at h
 ·rename_i V c6 bU jZ hk
  obtain⟨h1,h2,aM,h⟩:=h
  subst h1;subst h2
  have hs:=B0 aM
  unfold k7
  rw[if_pos hs]
  split at h
  ·rename_i x
   obtain⟨bx,c9,h⟩:=h
   obtain⟨G,e,iH⟩:=aH V c6 _ _ hk
   have oA:=jJ G.ok
   rw[e] at oA
   have hv:=Cd G.ok (i:=w) (by rw[e];exact c9.1)
   rw[e] at hv
   have cL:=G.wV (j:=w) (by omega)
   have F:=cL.G1 ((nth V w).aa.set j.toNat x.den) (by rw[List.length_set,e])
   rw[e] at F
   have hid:=G.ok.lt w.toNat _ (gZ (xs:=c6) (i:=w) (by have:=G.ok.len;omega))
   refine dN (DM aH hk c9.1) ⟨rfl,dN (w1 c9.2) ⟨Nat.le_refl 1,?_⟩⟩
   have cc:=yM (n:=cf.n) (s:=s) (l:=[(dj,TV.gy (V.set w.toNat {nth V w with aa:=(nth V w).aa.set j.toNat x.den}) c6 bU ((List.length_set ..).trans jZ))]) ao (fun p ai=>by rw[List.mem_singleton.1 ai];exact Nat.le_refl _)
   have rF: @Fits ⟨Z.ws,Z.bs.set (nth c6 w) ((nth V w).aa.set j.toNat x.den)⟩ (s.add [(dj,TV.gy (V.set w.toNat {nth V w with aa:=(nth V w).aa.set j.toNat x.den}) c6 bU ((List.length_set ..).trans jZ))] s.vs s.bb):=by
    intro V3 AN k5 pq aM
    rw[TS.h6,gP,if_pos rfl] at aM
    cases aM
    refine⟨F.G,F.iy,fun id xs hx=> ?_⟩
    rw[TS.h6,gP,if_neg (by unfold dj fH;omega)] at hx
    obtain⟨cu,n2,k5⟩:=iH id xs hx
    refine⟨by show id<(Z.bs.set (nth c6 w) ((nth V w).aa.set j.toNat x.den)).length;rw[List.length_set];exact cu,?_,k5⟩
    show(Z.bs.set (nth c6 w) ((nth V w).aa.set j.toNat x.den)).getD id []=xs
    have bY:nth c6 w≠id:=fun q=>k5 w.toNat (by rw[gZ (xs:=c6) (i:=w) (by have:=G.ok.len;omega),q])
    rw[List.getD_eq_getElem?_getD,List.getElem?_set,if_neg bY,←List.getD_eq_getElem?_getD];exact n2
   have:=hK _ ⟨Z.ws,Z.bs.set (nth c6 w) ((nth V w).aa.set j.toNat x.den)⟩ h rF cc
   rw[bx] at this
   have Ag:(s.ay cf.n).H=s.f_++List.map bR Z.bs:=qa hk
   have db: ∀Z':FZ,Z'.ws=Z.ws→ @TS.f_ Z' (s.add [(dj,TV.gy (V.set w.toNat {nth V w with aa:=(nth V w).aa.set j.toNat x.den}) c6 bU ((List.length_set ..).trans jZ))] s.vs s.bb)= @TS.f_ Z s:=fun Z' hw=>by
    show(List.range s.bb).map _=(List.range s.bb).map _
    refine List.map_congr_left fun b _=> ?_
    rw[TS.h6,gP,if_neg (by unfold dj bJ;omega)]
    show @TV.eM Z' (s.get (bJ b))= @TV.eM Z (s.get (bJ b))
    cases s.get (bJ b)<;>first | rfl | (simp only[TV.eM,hw])
   have D_:= @qa ⟨Z.ws,Z.bs.set (nth c6 w) ((nth V w).aa.set j.toNat x.den)⟩ cf.n (s.add [(dj,TV.gy (V.set w.toNat {nth V w with aa:=(nth V w).aa.set j.toNat x.den}) c6 bU ((List.length_set ..).trans jZ))] s.vs s.bb) (V.set w.toNat {nth V w with aa:=(nth V w).aa.set j.toNat x.den}) c6 bU ((List.length_set ..).trans jZ) (by rw[TS.h6,gP,if_pos rfl])
   rw[D_,db ⟨Z.ws,Z.bs.set (nth c6 w) ((nth V w).aa.set j.toNat x.den)⟩ rfl] at this
   rw[Ag,List.set_append_right _ _ (by rw[l9];omega),l9,Nat.add_sub_cancel]
   have hI:({bR (nth V w).aa with rows:=(bR (nth V w).aa).rows.set j.toNat (gh (a7 (nth (nth V w).aa j)) 0 (eP (TV.b x).bq))}:Blk)=bR ((nth V w).aa.set j.toNat x.den):=by
    show(⟨0,1,(List.map a7 (nth V w).aa).set j.toNat (a7 x.den)⟩:Blk)=⟨0,1,_⟩
    rw[CO]
   show Kp s.cg (s.f_++(List.map bR Z.bs).set (nth c6 w) {bR (nth V w).aa with rows:=(bR (nth V w).aa).rows.set j.toNat (gh (a7 (nth (nth V w).aa j)) 0 (eP (TV.b x).bq))})
   rw[hI,DN]
   exact this
  ·exact h.elim
 ·exact h.elim
def F8 (P:Program) (t:TypeId) (l c:TV) (s:TS) (K:TV→TS→aJ):aJ:=match l with
 | .i _ l=>(match c with
  | .i _ c=>(match s.get dj with
   | .gy V ids _ _=> .all Nat fun id=>
    let s':=s.add [(fH,.new id (List.replicate l.toNat false))] s.vs s.bb
    .eq (A3 P t) (some ([AV.bool false],pc P t)) (.eq l c (.eq s'.cg s.cg (.p (0≤l∧(pc P t:Int)*l≤140737488355328∧l≤1048576) (K (.x_ id s.bb (List.replicate l.toNat false).length) s'))))
   | _=> .no)
  | _=> .no)
 | _=> .no
theorem Z5 (ao:cf.n≤1000000) (aH:Fits s) {t:TypeId} {l c:TV} {K:TV→TS→aJ} {Kp:AV→List (Nat×List AV)→List Blk→Prop} (hK:us cf s R K Kp) (h:(F8 P t l c s K).den R):vx P t l.bq c.bq (s.ay cf.n).L (s.ay cf.n).H Kp:=by
 unfold F8 at h
 split at h
 ·split at h
  ·split at h
   ·rename_i A1 vt l nE X0 c afH V ids bU jZ hk
    obtain⟨h1,h2,aM,bx,bD⟩:=h Z.bs.length
    subst h2
    obtain⟨mF,z,q1,q2,q3,q4,cW,cO⟩:=Nx h1
    refine dN q1 (dN q2 ?_)
    rw[if_pos ⟨q3,q4⟩]
    refine⟨bx.1,Int.le_refl _,by rw[←cO];exact bx.2.1,by have:=bx.2.2;omega,?_⟩
    obtain⟨G,e,iH⟩:=aH V ids _ _ hk
    have oC:(List.replicate l.toNat false).length≤1048576:=by rw[List.length_replicate];have:=bx.2.2;omega
    obtain⟨wA,b3⟩:=G.snoc oC
    have cc:=yM (n:=cf.n) (s:=s) (l:=[(fH,TV.new Z.bs.length (List.replicate l.toNat false))]) ao (fun p ai=>by rw[List.mem_singleton.1 ai];show 1000000≤fH;unfold fH;omega)
    have KH:(s.add [(fH,TV.new Z.bs.length (List.replicate l.toNat false))] s.vs s.bb).get dj= .gy V ids bU jZ:=by rw[TS.h6,gP,if_neg (by unfold dj fH;omega)];exact hk
    have rF: @Fits ⟨Z.ws,Z.bs++[List.replicate l.toNat false]⟩ (s.add [(fH,TV.new Z.bs.length (List.replicate l.toNat false))] s.vs s.bb):=by
     intro V3 AN k5 pq aM
     rw[KH] at aM
     cases aM
     refine⟨wA,b3.trans e,fun id xs hx=> ?_⟩
     rw[TS.h6,gP,if_pos rfl] at hx
     cases hx
     refine⟨by show Z.bs.length<(Z.bs++[List.replicate l.toNat false]).length;rw[List.length_append];simp,by show(Z.bs++[List.replicate l.toNat false]).getD Z.bs.length []=_;rw[List.getD_eq_getElem?_getD,List.getElem?_append_right (Nat.le_refl _)];simp,fun j ap=> ?_⟩
     have:=G.ok.lt j _ ap;omega
    have:=hK _ _ ⟨Z.ws,Z.bs++[List.replicate l.toNat false]⟩ bD rF cc
    rw[aM] at this
    have Ag:(s.ay cf.n).H=s.f_++List.map bR Z.bs:=qa hk
    have D_:= @qa ⟨Z.ws,Z.bs++[List.replicate l.toNat false]⟩ cf.n _ V ids bU jZ KH
    have db: @TS.f_ ⟨Z.ws,Z.bs++[List.replicate l.toNat false]⟩ (s.add [(fH,TV.new Z.bs.length (List.replicate l.toNat false))] s.vs s.bb)= @TS.f_ Z s:=by
     show(List.range s.bb).map _=(List.range s.bb).map _
     refine List.map_congr_left fun b _=> ?_
     rw[TS.h6,gP,if_neg (by unfold fH bJ;omega)]
     show @TV.eM _ (s.get (bJ b))= @TV.eM Z (s.get (bJ b))
     cases s.get (bJ b)<;>rfl
    rw[D_,db] at this
    have hlen:(s.ay cf.n).H.length=Z.bs.length+s.bb:=by rw[Ag,List.length_append,l9,List.length_map];omega
    have px:z.length=1:=by have:=congrArg List.length cW;simpa using this.symm
    rw[hlen,px,←cW,Ag]
    show Kp (.ref (Z.bs.length+s.bb) 0 0 l.toNat false) s.cg (s.f_++List.map bR Z.bs++[⟨0,1,List.replicate l.toNat [AV.bool false]⟩])
    rw[show List.replicate l.toNat [AV.bool false]=List.map a7 (List.replicate l.toNat false) by rw[List.map_replicate];rfl,List.append_assoc,w8]
    have Tj:(List.replicate l.toNat false).length=l.toNat:=List.length_replicate
    rw[Tj] at this
    exact this
   ·exact h.elim
  ·exact h.elim
 ·exact h.elim
def QE (P:Program) (t:TypeId) (b g:Nat) (i:Int) (c:Nat) (v:TV) (s:TS) (c8:Nat) (aw:List TV) (K:TS→aJ):aJ:=
 let bX:=aw.take c++pa v++aw.drop (c+(pa v).length)
 let s':=s.gv b s.bb (.dB g bX)
 .eq c8 g (.eq i 0 (.eq (Nat.blt b s.bb&&vC v&&tU P t v.bq&&Nat.ble (c+(eP v.bq).length) aw.length) true (.eq (gh (cC aw) c (eP v.bq)) (cC bX) (.eq bX.length aw.length (.eq s'.cg s.cg (K s'))))))
theorem ad9 (ao:cf.n≤1000000) {t:TypeId} {b g c c8:Nat} {aw:List TV} {i:Int} {v:TV} {K:TS→aJ} {Kp:List (Nat×List AV)→List Blk→Prop} (aH:Fits s) (aQ:s.get (bJ b)= .dB c8 aw)
  (hK: ∀s' (Z':FZ),(K s').den R→ @Fits Z' s'→s'.tT cf.n=s.tT cf.n→Kp s'.cg (@TS.ay Z' cf.n s').H) (h:(QE P t b g i c v s c8 aw K).den R):
  k7 P t (.ptr b g i.toNat c) v.bq (s.ay cf.n).L (s.ay cf.n).H Kp:=by
 obtain⟨h1,h2,aM,bx,c9,e6,h⟩:=h
 subst h1;subst h2
 simp only[Bool.and_eq_true] at aM
 obtain⟨⟨⟨hb,_⟩,a8⟩,hle⟩:=aM
 have hb:b<s.bb:=by rw[←Nat.blt_eq];exact hb
 have hs:=B0 a8
 unfold k7
 rw[if_pos hs]
 refine dN (by rw[q6 hb,aQ]) ⟨rfl,dN (a:=cC aw) rfl ⟨by rw[mQ,List.length_map];exact Nat.le_of_ble_eq_true hle,?_⟩⟩
 have:=hK _ Z h (o_ aH) (o9 ao)
 rw[uz hb,e6] at this
 show Kp s.cg ((s.ay cf.n).H.set b ⟨c8,aw.length,[gh (cC aw) c (eP v.bq)]⟩)
 rw[bx,←c9]
 exact this
end
inductive mN where
 | v (e:aU)
 | fr
 | w
def mN.es:List mN→List aU
 | []=>[]
 | .v e::r=>e::mN.es r
 | .fr::r=>mN.es r
 | .w::r=> .int::mN.es r
def w6 (aQ:Nat):(l:List mN)→cA (mN.es l)→List AV
 | [],_=>[]
 | .v e::r,x=>mX e x.1::w6 aQ r x.2
 | .fr::r,x=> .ptr 0 aQ 0 0::w6 aQ r x
 | .w::r,x=> .ptr 3 0 (show Int from x.1).toNat 0::w6 aQ r x.2
def BJ (F:Frame):List TV:=[.b (.v F.ok),.ref 1 0 F.aC.length false,.ref 2 0 F.aq.length false,.ref 3 0 F.O.length false]
def DW [Z:FZ] (aQ:Nat) (ids:List Nat) (F:Frame):List Blk:=
 [⟨aQ,4,[cC (BJ F)]⟩,⟨0,1,F.aC.map (cq true .bool)⟩,⟨0,2,F.aq.map (cq true .ev)⟩,⟨0,5,bp 4 Z.ws ids⟩]++Z.bs.map bR
def Cm [Z:FZ] (ids:List Nat) (F:Frame):Prop:=jN Z.ws ids Z.bs∧view Z.ws ids Z.bs=F.O
def Rp (P:Program) (f:FuncId) (aQ:Nat) (args:List AV) (F:Frame) (Ie:Frame) (v:AV):Prop:=
 ∀(Z:FZ) (ids:List Nat),@Cm Z ids F→dw P f args (@DW Z aQ ids F) fun r H'=>r=v∧ ∃(Z':FZ) (c6:List Nat),@Cm Z' c6 Ie∧H'= @DW Z' aQ c6 Ie
def vw (aQ:Nat) (ids:List Nat) (F:Frame):List (Nat×TV):=
 [(bJ 0,.dB aQ (BJ F)),(bJ 1,.blk 0 .bool F.aC F.aC.length rfl),(bJ 2,.blk 0 .ev F.aq F.aq.length rfl),(bJ 3,.jL 0 4 ids),(dj,.gy F.O ids F.O.length rfl)]
def DV (s:TS) (K:Nat→Frame→List Nat→aJ):aJ:=match s.get (bJ 0) with
 | .dB g aw=>(match aw with
  | [.b k,.ref dF g1 cu f1,.ref b7 g2 n2 f2,.ref p6 g3 k5 f3]=>(match s.get (bJ 1) with
   | .blk h1 aR o aY _=>if q1:aR=aU.bool then(match s.get (bJ 2) with
    | .blk h2 e2 q bj _=>if q2:e2=aU.ev then(match s.get (bJ 3) with
     | .jL aM gY ids=>(match s.get dj with
      | .gy V c6 bU _=> .eq s.bb 4 (.eq (dF,g1,cu,f1) (1,0,aY,false) (.eq (b7,g2,n2,f2) (2,0,bj,false) (.eq (p6,g3,k5,f3) (3,0,bU,false) (.eq (h1,h2,aM,gY) (0,0,0,4)
       (.eq c6 ids (K g ⟨k.den,kX q1 o,kX q2 q,V⟩ ids))))))
      | _=> .no)
     | _=> .no) else .no
    | _=> .no) else .no
   | _=> .no)
  | _=> .no)
 | _=> .no
theorem Uq [Z:FZ] {n:Nat} {s:TS} {K:Nat→Frame→List Nat→aJ} {R:Exit→TS→Prop} (aH:Fits s) (h:(DV s K).den R): ∃g F ids,(K g F ids).den R∧Cm ids F∧(s.ay n).H=DW g ids F∧s.bb=4∧s.get dj= .gy F.O ids F.O.length rfl:=by
 unfold DV at h
 split at h
 ·rename_i g aw qo
  split at h
  ·split at h
   ·rename_i h1 aR o aY AD k2
    split at h
    ·rename_i q1
     subst q1
     split at h
     ·rename_i h2 e2 q bj k4 xv
      split at h
      ·rename_i q2
       subst q2
       split at h
       ·rename_i aM gY ids VC
        split at h
        ·rename_i V c6 bU jZ hk
         obtain⟨bf,dA,hp,nd,XY,FI,h⟩:=h
         cases dA;cases hp;cases nd;cases XY;subst FI;subst AD;subst k4;subst jZ
         obtain⟨G,e,_⟩:=aH V c6 _ _ hk
         refine⟨_,_,_,h,⟨G,e⟩,?_,bf,hk⟩
         rw[qa hk]
         have hH:s.f_=[(s.get (bJ 0)).eM,(s.get (bJ 1)).eM,(s.get (bJ 2)).eM,(s.get (bJ 3)).eM]:=by unfold TS.f_;rw[bf];rfl
         rw[hH,qo,k2,xv,VC];rfl
        ·exact h.elim
       ·exact h.elim
      ·exact h.elim
     ·exact h.elim
    ·exact h.elim
   ·exact h.elim
  ·exact h.elim
 ·exact h.elim
structure rc (P:Program) where
 f:FuncId
 iw:List mN
 rs:List aU
 pre:cA (mN.es iw)→Frame→Prop
 fn:cA (mN.es iw)→Frame→Frame
 bw:cA (mN.es iw)→Frame→cA rs
 ok: ∀aQ x F,pre x F→Rp P f aQ (w6 aQ iw x) F (fn x F) (pd rs (bw x F))
def kU:(l:List mN)→List TV→cA (mN.es l)
 | [],_=>()
 | .v e::r,v::vs=>(Uv e v,kU r vs)
 | .fr::r,_::vs=>kU r vs
 | .w::r,v::vs=>((match v with
  | .ptr _ _ i _ _=>i
  | _=>(0:Int)),kU r vs)
 | .v e::r,[]=>(e.td.default,kU r [])
 | .fr::r,[]=>kU r []
 | .w::r,[]=>((0:Int),kU r [])
def Ab {P:Program}:List (rc P)→FuncId→(rc P→aJ)→aJ→aJ
 | [],_,_,t=>t
 | c::r,f,K,t=>match Nat.beq c.f f with
  | true=>K c
  | false=>Ab r f K t
def C5 {P:Program} (c:rc P) (args:List TV) (s:TS) (K:TV→TS→aJ):aJ:=DV s fun g F ids=>
 .eq (cC args) (w6 g c.iw (kU c.iw args)) (.eq ((cC args).all et&&(cC args).all jC) true (.p (c.pre (kU c.iw args) F) (.all (List Nat) fun c6=>
  let s':=s.add ((fH,.u)::vw g c6 (c.fn (kU c.iw args) F)) s.vs s.bb
  .eq s'.cg s.cg (.eq (vA (pd c.rs (c.bw (kU c.iw args) F))) true (K (BH c.rs (c.bw (kU c.iw args) F)) s')))))
theorem Z3 (aQ:Nat) (ids:List Nat) (F:Frame) (s:TS):let s':=s.add ((fH,.u)::vw aQ ids F) s.vs s.bb
  s'.get (bJ 0)= .dB aQ (BJ F)∧s'.get (bJ 1)= .blk 0 .bool F.aC F.aC.length rfl∧s'.get (bJ 2)= .blk 0 .ev F.aq F.aq.length rfl∧s'.get (bJ 3)= .jL 0 4 ids∧s'.get dj= .gy F.O ids F.O.length rfl∧s'.get fH= .u:=by
 intro s'
 have aI:fH≠bJ 0∧fH≠bJ 1∧fH≠bJ 2∧fH≠bJ 3∧fH≠dj:=by unfold fH bJ dj;omega
 have e: ∀k,s'.get k=gG ((fH,.u)::vw aQ ids F) k (s.get k):=fun k=>TS.h6 ..
 refine⟨?_,?_,?_,?_,?_,?_⟩<;>rw[e]<;>rfl
theorem SQ [Z:FZ] {P:Program} {n:Nat} (ao:n≤1000000) {c:rc P} {args:List TV} {s:TS} {K:TV→TS→aJ} {R:Exit→TS→Prop} {Kp:AV→List (Nat×List AV)→List Blk→Prop} (aH:Fits s)
  (hK: ∀v s' (Z':FZ),(K v s').den R→ @Fits Z' s'→s'.tT n=s.tT n→Kp v.bq s'.cg (@TS.ay Z' n s').H) (h:(C5 c args s K).den R):kw P c.f (cC args) (s.ay n).L (s.ay n).H Kp:=by
 unfold C5 at h
 obtain⟨g,F,ids,bD,h1,h2,aM,_⟩:=Uq (n:=n) aH h
 obtain⟨dA,hp,nd,hk⟩:=bD
 simp only[Bool.and_eq_true] at hp
 refine .inr (.inr (.inl ⟨hp.1,hp.2,?_⟩))
 rw[h2,dA]
 refine(c.ok g _ F nd Z ids h1).mono fun r H' af=> ?_
 obtain⟨rfl,Z',c6,q1,rfl⟩:=af
 obtain⟨FI,XZ,hk⟩:=hk c6
 refine⟨XZ,?_⟩
 obtain⟨an,aY,bj,cF,dM,ZY⟩:=Z3 g c6 (c.fn (kU c.iw args) F) s
 have rF: @Fits Z' (s.add ((fH,.u)::vw g c6 (c.fn (kU c.iw args) F)) s.vs s.bb):=by
  intro V3 AN k5 pq aM
  rw[dM] at aM
  cases aM
  refine⟨q1.1,q1.2,fun id xs hx=> ?_⟩
  rw[ZY] at hx;cases hx
 have:=hK _ _ Z' hk rF (yM ao fun p ai=>by
  simp only[vw,List.mem_cons,List.not_mem_nil,or_false] at ai
  rcases ai with rfl | rfl | rfl | rfl | rfl | rfl
  ·show 1000000≤fH;unfold fH;omega
  ·show 1000000≤bJ 0;unfold bJ;omega
  ·show 1000000≤bJ 1;unfold bJ;omega
  ·show 1000000≤bJ 2;unfold bJ;omega
  ·show 1000000≤bJ 3;unfold bJ;omega
  ·exact Nat.le_refl _)
 rw[FI,GM,@qa Z' n _ _ _ _ _ dM] at this
 have hH: @TS.f_ Z' (s.add ((fH,.u)::vw g c6 (c.fn (kU c.iw args) F)) s.vs s.bb)=[@TV.eM Z' (.dB g (BJ (c.fn (kU c.iw args) F))),@TV.eM Z' (.blk 0 .bool (c.fn (kU c.iw args) F).aC _ rfl),@TV.eM Z' (.blk 0 .ev (c.fn (kU c.iw args) F).aq _ rfl),@TV.eM Z' (.jL 0 4 c6)]:=by
  rw[←an,←aY,←bj,←cF]
  show(List.range s.bb).map _=_
  rw[aM];rfl
 rw[hH] at this
 exact this
inductive lc where
 | v (e:aU)
 | p
def lc.es:List lc→List aU
 | []=>[]
 | .v e::r=>e::lc.es r
 | .p::r=>lc.es r
def zS (g:Nat):(l:List lc)→cA (lc.es l)→List AV
 | [],_=>[]
 | .v e::r,x=>mX e x.1::zS g r x.2
 | .p::r,x=> .ptr 0 g 0 0::zS g r x
structure o2 (P:Program) where
 f:FuncId
 ce:aU
 iw:List lc
 rs:List aU
 pre:cA (lc.es iw)→ce.T→Prop
 fn:cA (lc.es iw)→ce.T→ce.T
 bw:cA (lc.es iw)→ce.T→cA rs
 ok: ∀g x c,pre x c→sq P f g (zS g iw x) (cq false ce c) (cq false ce (fn x c)) (pd rs (bw x c))
def Oh:List lc→List TV→TV
 | .p::_,v::_=>v
 | .v _::r,_::vs=>Oh r vs
 | _,_=> .u
def Ee:List lc→Bool
 | []=>false
 | .p::_=>true
 | .v _::r=>Ee r
def GU:TS:=⟨[],[],[],0⟩
def zG (p:AV):(l:List lc)→List TV→(cA (lc.es l)→List Prop→aJ)→aJ
 | [],[],K=>K () []
 | .v e::r,v::vs,K=>conv GU e v fun x o=>zG p r vs fun y hr=>K (x,y) (o++hr)
 | .p::r,v::vs,K=> .eq v.bq p (zG p r vs K)
 | _,_,_=> .no
def aaz (e:aU):Bool:=e.nU
def Db {P:Program} (c:o2 P) (args:List TV) (p:AV) (cells:List TV) (K:TV→c.ce.T→aJ):aJ:=
 .eq (cC cells) (cq false c.ce (c.ce.mk (oj c.ce.b2 cells))) (.eq (Ee c.iw&&aaz c.ce&&(cC args).all et) true (zG p c.iw args fun x o=>
  Bj (o++[c.pre x (c.ce.mk (oj c.ce.b2 cells))]) (K (BH c.rs (c.bw x (c.ce.mk (oj c.ce.b2 cells)))) (c.fn x (c.ce.mk (oj c.ce.b2 cells))))))
def Dc {P:Program} (c:o2 P) (args:List TV) (s:TS) (K:TV→TS→aJ):aJ:=match Oh c.iw args with
 | .ptr b g _ _ _=>(match s.get (bJ b) with
  | .dB c8 cells=>(match Nat.blt b s.bb with
   | true=> .eq c8 g (Db c args (.ptr b g 0 0) cells fun v y=>
     let s':=s.gv b s.bb (.dB g (iC false c.ce y))
     .eq s'.cg s.cg (K v s'))
   | false=> .no)
  | _=> .no)
 | .lp v _=>(match j4 s.vs v with
  | some m=>Db c args (.e7 v 0) (hl s v 0 m) fun w y=>
    let s':=s.add (sG v 0 (iC false c.ce y)) s.vs s.bb
    .eq s'.cg (ko s.cg v (cq false c.ce y)) (.eq (n_ (sG v 0 (iC false c.ce y))) true (K w s'))
  | none=> .no)
 | _=> .no
def Ac {P:Program}:List (o2 P)→FuncId→(o2 P→aJ)→aJ→aJ
 | [],_,_,t=>t
 | c::r,f,K,t=>match Nat.beq c.f f with
  | true=>K c
  | false=>Ac r f K t
theorem JN {P:Program} {f:FuncId} {K:o2 P→aJ} {t:aJ} {R:Exit→TS→Prop}: ∀{l_:List (o2 P)},(Ac l_ f K t).den R→(∃m,m.f=f∧(K m).den R)∨t.den R
 | [],h=> .inr h
 | c::r,h=>by
  unfold Ac at h
  split at h
  ·rename_i hf;exact .inl ⟨c,Nat.eq_of_beq_eq_true hf,h⟩
  ·exact JN h
theorem zQ {e:aU} (h:e.nU=true) (x:e.T):(cq false e x).all te=true∧(cq false e x).all iB=true:=by cases e<;>first | exact⟨rfl,rfl⟩ | cases h
theorem Da {p:AV} {g:Nat} {R:Exit→TS→Prop}: ∀{l:List lc} {vs:List TV} {K:cA (lc.es l)→List Prop→aJ},(zG p l vs K).den R→ ∃x o,(K x o).den R∧((∀φ∈o,φ)→aO (sn p (.ptr 0 g 0 0)) (cC vs) (zS g l x))∧(Ee l=true→p∈cC vs)
 | [],[],K,h=>⟨(),[],h,fun _=>aO.nil,fun h=>by cases h⟩
 | .v e::r,v::vs,K,h=>by
  letI Z:FZ:=⟨[],[]⟩
  obtain⟨x,o,h,dA⟩:=C_ (n:=0) (Fits.none (s:=GU) rfl) (show(conv GU e v _).den R from h)
  obtain⟨y,hr,h,hp,nd⟩:=Da (l:=r) h
  exact⟨(x,y),o++hr,h,fun aG=>aO.cons (.inr (dA fun φ ep=>aG φ (List.mem_append_left _ ep))) (hp fun φ ep=>aG φ (List.mem_append_right _ ep)),fun ai=>List.mem_cons_of_mem _ (nd ai)⟩
 | .p::r,v::vs,K,h=>by
  obtain⟨e,h⟩:=h
  obtain⟨y,hr,h,hp,nd⟩:=Da (l:=r) h
  exact⟨y,hr,h,fun aG=>aO.cons (.inl ⟨e,rfl⟩) (hp aG),fun _=>by rw[cC,e];exact List.mem_cons_self ..⟩
 | [],_::_,K,h=>h.elim
 | .v _::_,[],K,h=>h.elim
 | .p::_,[],K,h=>h.elim
theorem Jc {P:Program} {c:o2 P} {args:List TV} {p:AV} {cells:List TV} {K:TV→c.ce.T→aJ} {R:Exit→TS→Prop} (g:Nat) (h:(Db c args p cells K).den R):
  ∃dH x y t,(K t y).den R∧(cC args).all et=true∧cC cells=cq false c.ce x∧c.ce.nU=true∧p∈cC args∧aO (sn p (.ptr 0 g 0 0)) (cC args) dH∧sq P c.f g dH (cq false c.ce x) (cq false c.ce y) t.bq:=by
 obtain⟨h1,h2,h⟩:=h
 simp only[Bool.and_eq_true] at h2
 obtain⟨x,o,h,hp,nd⟩:=Da (g:=g) h
 obtain⟨aG,h⟩:=NY h
 refine⟨_,_,_,_,h,h2.2,h1,h2.1.2,nd h2.1.1,hp fun φ ep=>aG φ (List.mem_append_left _ ep),?_⟩
 rw[GM]
 exact c.ok g x _ (aG _ (List.mem_append_right _ (List.mem_singleton.2 rfl)))
theorem OH {c:List TV} {e:aU} {x:e.T} (h:cC c=cq false e x):c.length=(cq false e x).length:=by rw[←h,mQ,List.length_map]
theorem SW [Z:FZ] {P:Program} {n:Nat} (ao:n≤1000000) {c:o2 P} {args:List TV} {s:TS} {K:TV→TS→aJ} {R:Exit→TS→Prop} {Kp:AV→List (Nat×List AV)→List Blk→Prop} (aH:Fits s)
  (hK: ∀v s' (Z':FZ),(K v s').den R→ @Fits Z' s'→s'.tT n=s.tT n→Kp v.bq s'.cg (@TS.ay Z' n s').H) (h:(Dc c args s K).den R):kw P c.f (cC args) (s.ay n).L (s.ay n).H Kp:=by
 unfold Dc at h
 split at h
 ·rename_i b g i m col ai
  split at h
  ·rename_i c8 cells aQ
   split at h
   ·rename_i hb
    have hb:b<s.bb:=by rw[←Nat.blt_eq];exact hb
    obtain⟨e,h⟩:=h
    subst e
    obtain⟨dH,x,y,t,bD,h1,h2,aM,bx,c9,e6⟩:=Jc c8 h
    obtain⟨bN,bD⟩:=bD
    refine .inr (.inr (.inr ⟨h1,dH,cq false c.ce x,cq false c.ce y,t.bq,(zQ aM x).1,(zQ aM y).2,.inl ⟨b,c8,?_,bx,c9,e6,?_⟩⟩))
    ·rw[q6 hb,aQ]
     show some (Blk.mk c8 cells.length [cC cells])=_
     rw[OH h2,h2]
    ·have:=hK _ _ Z bD (o_ aH) (o9 ao)
     rw[bN,uz hb] at this
     have aR:TV.eM (.dB c8 (iC false c.ce y))=Blk.mk c8 (cq false c.ce x).length [cq false c.ce y]:=by
      show Blk.mk c8 (iC false c.ce y).length [cC (iC false c.ce y)]=_
      rw[OH (zA false c.ce y),zA,sI,sI]
     rw[aR] at this
     exact this
   ·exact h.elim
  ·exact h.elim
 ·rename_i v col ai
  split at h
  ·rename_i m hm
   obtain⟨dH,x,y,t,bD,h1,h2,aM,bx,c9,e6⟩:=Jc 0 h
   obtain⟨bN,hb,bD⟩:=bD
   refine .inr (.inr (.inr ⟨h1,dH,cq false c.ce x,cq false c.ce y,t.bq,(zQ aM x).1,(zQ aM y).2,.inr ⟨v,?_,bx,c9,e6,?_⟩⟩))
   ·rw[tV,hm,←h2];rfl
   ·have:=hK _ _ Z bD (wT hb aH) (wS ao hb)
    rw[bN,wR hb] at this
    exact this
  ·exact h.elim
 ·exact h.elim
structure o4 (P:Program) where
 len:List Nat
 n1:List (rc P)
 B9:List (o2 P)
def HJ (P:Program) (n:Nat) (t:TypeId) (b g:Nat) (i:Int) (m c:Nat) (v:TV) (s:TS) (w:TV) (K:TS→aJ):aJ:=match w with
 | .jL c8 gY ids=>(match vC v with
  | true=>HK P t b g i c v s c8 gY ids K
  | false=> .no)
 | .dB c8 aw=>QE P t b g i c v s c8 aw K
 | _=>HG P n t b g i m c v s K
section
variable {P:Program} (cf:gC P) (s:TS)
def Ce (dR:o4 P) (o:Oper) (K:TV→TS→aJ):aJ:=match o.op with
 | .store t a v=>(match cx cf.n s a with
  | .lp x c=>oh (cx cf.n s v) fun w=>xf cf s o (.tup []) (sG x c (pa w)) s.vs K
  | .ptr b g i m c=>oh (cx cf.n s v) fun w=>HJ P cf.n t b g i m c w s (s.get (bJ b)) fun s'=>K (.tup []) s'
  | .uU w ids m j=>oh (cx cf.n s v) fun x=>yO P t w ids m j x s fun s'=>K (.tup []) s'
  | _=> .no)
 | .alloc e=>(match o.dst with
  | some d=>xf cf s o (.lp d 0) (sG d 0 (y0 P e)) ((d,(y0 P e).length)::s.vs) K
  | none=> .no)
 | .box _ x=>(match o.dst with
  | some d=>oh (cx cf.n s x) fun w=>xf cf s o (.lp d 0) (sG d 0 (pa w)) ((d,(pa w).length)::s.vs) K
  | none=> .no)
 | .makeSlice t l c=>(match iv s with
  | true=>vu cf.Dx t fun e=>F_ P cf.n t e (cx cf.n s l) (cx cf.n s c) s K
  | false=>F8 P t (cx cf.n s l) (cx cf.n s c) s K)
 | .buildSlice t m ps=>vu cf.Dx t fun e=>AZ s e (ps.toList.map fun p=>cx cf.n s p.2) fun xs=>qg (fun H Q=>i_ P o (fun x=>(cx cf.n s x).bq) s.cg H Q) (fun v=>K v s) (.v (Nl e xs (ps.toList.map fun p=>cx cf.n s p.2)))
 | .binOp op t x y _=>(match cx cf.n s x with
  | .l e xs _ _=>(match op with
   | .eql=> .eq (pz y&&(im P t).isSome) true (.two (.jc (xs≠[]) (K (.b .f) s)) (.jc (xs=[]) (.all Bool fun b=>K (.b (.v b)) s)))
   | _=> .no)
  | _=>qX cf s o fun v=>K v s)
 | .call c=>(match c.callee with
  | .builtin b=>(match b with
   | .len=>(match c.args.toList,c.argTypes.toList with
    | [x],[t]=>(match cx cf.n s x with
     | .l e xs de fr=>(match o.dst with
      | some d=>(match dR.len.any (Nat.beq d) with
       | true=>qX cf s o fun v=>K v s
       | false=> .eq (jd P t (TV.l e xs de fr).bq) true (.jc (xs.length≤4611686018427387904) (K (.i .i64 xs.length) s)))
      | none=> .no)
     | _=>qX cf s o fun v=>K v s)
    | _,_=> .no)
   | .append=>(match c.args.toList,c.argTypes.toList with
    | [x,y],[t,t2]=>CD P cf.n t t2 (cx cf.n s x) (cx cf.n s y) s K
    | _,_=> .no)
   | _=> .no)
  | .value f=>(match cx cf.n s f with
   | .fn g caps=>Ab dR.n1 g (fun m=>C5 m (c.args.toList.map (cx cf.n s)++caps) s K) (Ac dR.B9 g (fun m=>Dc m (c.args.toList.map (cx cf.n s)++caps) s K) (qX cf s o fun v=>K v s))
   | _=> .no)
  | _=> .no)
 | _=>qX cf s o fun v=>K v s
end
section
variable {P:Program} {cf:gC P} {s:TS} {R:Exit→TS→Prop}
variable {K:TV→TS→aJ} {Kp:AV→List (Nat×List AV)→List Blk→Prop}
theorem ad5 {t:TypeId} {m:Nat} {ids:List Nat} {w j:Int} {v:TV} {K:TS→aJ} (h:(yO P t w ids m j v s K).den R):et v.bq=true:=by
 unfold yO at h
 split at h
 ·obtain⟨_,_,_,h⟩:=h
  split at h
  ·rfl
  ·exact h.elim
 ·exact h.elim
end
section
variable {P:Program} {cf:gC P} {s:TS} {R:Exit→TS→Prop}
variable {K:TV→TS→aJ} {Kp:AV→List (Nat×List AV)→List Blk→Prop}
theorem JM {f:FuncId} {K:rc P→aJ} {t:aJ}: ∀{l_:List (rc P)},(Ab l_ f K t).den R→(∃m,m.f=f∧(K m).den R)∨t.den R
 | [],h=> .inr h
 | c::r,h=>by
  unfold Ab at h
  split at h
  ·rename_i hf;exact .inl ⟨c,Nat.eq_of_beq_eq_true hf,h⟩
  ·exact JM h
end
section
variable [Z:FZ] {P:Program} {cf:gC P} {s:TS} {R:Exit→TS→Prop}
variable {K:TV→TS→aJ} {Kp:AV→List (Nat×List AV)→List Blk→Prop}
theorem ad8 (ao:cf.n≤1000000) (aH:Fits s) {t:TypeId} {b g m c:Nat} {i:Int} {v:TV} {K:TS→aJ} {Kp:List (Nat×List AV)→List Blk→Prop} (hK: ∀s' (Z':FZ),(K s').den R→ @Fits Z' s'→s'.tT cf.n=s.tT cf.n→Kp s'.cg (@TS.ay Z' cf.n s').H)
  (h:(HJ P cf.n t b g i m c v s (s.get (bJ b)) K).den R):eu (et v.bq) (k7 P t (.ptr b g i.toNat c) v.bq (s.ay cf.n).L (s.ay cf.n).H Kp):=by
 unfold HJ at h
 split at h
 ·rename_i c8 gY ids aQ
  split at h
  ·rename_i hv
   exact Bf (Be hv) (ad_ ao aH aQ hK h)
  ·exact h.elim
 ·rename_i c8 aw aQ
  have aM:(Nat.blt b s.bb&&vC v&&tU P t v.bq&&Nat.ble (c+(eP v.bq).length) aw.length)=true:=h.2.2.1
  simp only[Bool.and_eq_true] at aM
  exact Bf (Be aM.1.1.2) (ad9 ao aH aQ hK h)
 ·exact ad2 ao aH hK h
theorem Q4 (ao:cf.n≤1000000) (aH:Fits s) {dR:o4 P} {o:Oper} (hK:us cf s R K Kp) (h:(Ce cf s dR o K).den R):jq P [] o (cb (s.ay cf.n).T) (s.ay cf.n).L (s.ay cf.n).H Kp:=by
 have yw: ∀v,(K v s).den R→Kp v.bq (s.ay cf.n).L (s.ay cf.n).H:=fun v hv=>hK v s Z hv aH rfl
 have rd:(qX cf s o fun v=>K v s).den R→i_ P o (cb (s.ay cf.n).T) (s.ay cf.n).L (s.ay cf.n).H fun r=>Kp r (s.ay cf.n).L (s.ay cf.n).H:=fun h=>OJ aH (Kp:=fun r=>Kp r (s.ay cf.n).L (s.ay cf.n).H) yw h
 unfold Ce at h
 split at h
 ·rename_i t a v fw
  split at h
  ·rw[ph] at h;exact D7 ao aH hK h
  ·rename_i b g i m c aF
   rw[ph] at h
   obtain⟨dst,op,ty,pos,after,guard⟩:=o
   cases fw
   show eu (et (cb (s.ay cf.n).T v)) (k7 P t (cb (s.ay cf.n).T a) (cb (s.ay cf.n).T v) _ _ _)
   rw[ki]
   show eu (et (cx cf.n s v).bq) (k7 P t (cx cf.n s a).bq (cx cf.n s v).bq _ _ _)
   rw[aF]
   exact ad8 ao aH (fun s' Z' h1 hf h2=>hK (.tup []) s' Z' h1 hf h2) h
  ·rename_i w ids m j aF
   rw[ph] at h
   obtain⟨dst,op,ty,pos,after,guard⟩:=o
   cases fw
   show eu (et (cb (s.ay cf.n).T v)) (k7 P t (cb (s.ay cf.n).T a) (cb (s.ay cf.n).T v) _ _ _)
   rw[ki]
   show eu (et (cx cf.n s v).bq) (k7 P t (cx cf.n s a).bq (cx cf.n s v).bq _ _ _)
   rw[aF]
   refine Bf ?_ (ad6 ao aH (fun s' Z' h1 hf h2=>hK (.tup []) s' Z' h1 hf h2) h)
   exact ad5 h
  ·exact h.elim
 ·split at h
  ·exact D7 ao aH hK h
  ·exact h.elim
 ·split at h
  ·rw[ph] at h;exact D7 ao aH hK h
  ·exact h.elim
 ·rename_i t l c fw
  obtain⟨dst,op,ty,pos,after,guard⟩:=o
  cases fw
  show vx P t (cb (s.ay cf.n).T l) (cb (s.ay cf.n).T c) _ _ _
  rw[ki]
  split at h
  ·obtain⟨e,h⟩:=FY h
   exact aac ao aH hK h
  ·exact Z5 ao aH hK h
 ·rename_i t m ps fw
  obtain⟨e,h⟩:=FY h
  obtain⟨xs,h⟩:=FX (n:=cf.n) aH h
  refine aby fw ?_
  rw[ki]
  exact rA (F:=fun H Q=>i_ P o _ _ H Q) (s.ay cf.n).H (Kp:=fun r=>Kp r (s.ay cf.n).L (s.ay cf.n).H) yw h
 ·rename_i op t x y ty2 fw
  split at h
  ·rename_i e xs de fr hx
   split at h
   ·obtain⟨h1,h2,aM⟩:=h
    obtain⟨dst,op,ty,pos,after,guard⟩:=o
    cases fw
    show rl P .eql t (cb (s.ay cf.n).T x) _ (pz y) _
    rw[ki]
    show rl P .eql t (cx cf.n s x).bq _ (pz y) _
    rw[hx]
    show if pz y=true∧(im P t).isSome=true then _ else _
    rw[if_pos (by simpa using h1)]
    refine⟨fun bY=> ?_,fun he b=> ?_⟩
    ·exact yw (.b .f) (h2 fun e=>bY (by rw[e];rfl))
    ·exact yw (.b (.v b)) (aM (by simpa using he) b)
   ·exact h.elim
  ·refine OK (rd h) (fun c=>by rw[fw];intro e;cases e) (fun t m ps=>by rw[fw];intro e;cases e)
 ·rename_i c fw
  obtain⟨callee,args,argTypes⟩:=c
  split at h
  ·rename_i b hb
   cases hb
   split at h
   ·split at h
    ·rename_i x t h1 h2
     simp only at h1 h2
     split at h
     ·rename_i e xs de fr hx
      split at h
      ·split at h
       ·exact GH fw (rd h)
       ·obtain⟨aR,h⟩:=h
        obtain⟨dst,op,ty,pos,after,guard⟩:=o
        cases fw
        show(match args.toList,argTypes.toList with
         | [x],[t]=>eu (jd P t (cb (s.ay cf.n).T x)) (qJ (cb (s.ay cf.n).T x) fun r=>Kp r _ _)
         | _,_=>False)
        simp only[h1,h2]
        rw[ki]
        show eu (jd P t (cx cf.n s x).bq) (qJ (cx cf.n s x).bq _)
        rw[hx,aR]
        show(List.map _ _).length≤_→Kp (.int .i64 ((List.map _ _).length:Nat)) _ _
        rw[List.length_map]
        exact fun aE=>yw _ (h aE)
      ·exact h.elim
     ·exact GH fw (rd h)
    ·exact h.elim
   ·split at h
    ·rename_i x y t t2 h1 h2
     simp only at h1 h2
     obtain⟨dst,op,ty,pos,after,guard⟩:=o
     cases fw
     show(match args.toList,argTypes.toList with
      | [s',x],[t,t2]=>et (cb (s.ay cf.n).T s')=true∧et (cb (s.ay cf.n).T x)=true∧sA P t t2 (cb (s.ay cf.n).T s') (cb (s.ay cf.n).T x) _ _ _
      | _,_=>False)
     simp only[h1,h2]
     rw[ki]
     exact RS ao aH hK h
    ·exact h.elim
   ·exact h.elim
  ·rename_i f hf
   cases hf
   split at h
   ·rename_i g caps hc
    rcases JM h with⟨m,e,hm⟩ | hm
    ·subst e
     obtain⟨dst,op,ty,pos,after,guard⟩:=o
     cases fw
     show kW (cb (s.ay cf.n).T f) fun g caps=>kw P g (args.toList.map (cb (s.ay cf.n).T)++caps) _ _ Kp
     rw[ki]
     show kW (cx cf.n s f).bq fun g caps=>kw P g (args.toList.map (fun x=>(cx cf.n s x).bq)++caps) _ _ Kp
     rw[hc]
     have:=SQ (n:=cf.n) ao aH (fun v s' Z' h1 h2 aM=>hK v s' Z' h1 h2 aM) hm
     rw[mQ,List.map_append,List.map_map] at this
     show kw P m.f (_++cC caps) _ _ Kp
     rw[mQ];exact this
    ·rcases JN hm with⟨m,e,ai⟩ | hm
     ·subst e
      obtain⟨dst,op,ty,pos,after,guard⟩:=o
      cases fw
      show kW (cb (s.ay cf.n).T f) fun g caps=>kw P g (args.toList.map (cb (s.ay cf.n).T)++caps) _ _ Kp
      rw[ki]
      show kW (cx cf.n s f).bq fun g caps=>kw P g (args.toList.map (fun x=>(cx cf.n s x).bq)++caps) _ _ Kp
      rw[hc]
      have:=SW (n:=cf.n) (Kp:=Kp) ao aH (fun v s' Z' h1 h2 aM=>hK v s' Z' h1 h2 aM) ai
      rw[mQ,List.map_append,List.map_map] at this
      show kw P m.f (_++cC caps) _ _ Kp
      rw[mQ];exact this
     ·exact GH fw (rd hm)
   ·exact h.elim
  ·exact h.elim
 ·rename_i h1 h2 aM bx c9 e6 lP
  exact OK (rd h) (fun c=>lP c) (fun t m ps=>c9 t m ps)
end
def tj (b:Bool):TV:= .b (match b with
 | true=> .t
 | false=> .f)
theorem Nn (b:Bool):(tj b).bq= .bool b:=by cases b<;>rfl
def BX (x:dJ) (s:TS) (K:Bool→TS→aJ):aJ:=match x with
 | .t=>K true s
 | .f=>K false s
 | x=> .ic x s (K true ⟨[],s.T++s.B,s.vs,s.bb⟩) (K false ⟨[],s.T++s.B,s.vs,s.bb⟩)
def B5 (d:Nat) (v:TV):TV:=match v with
 | .b x=>(match x with
  | .v p=> .b (.at d p)
  | x=> .b x)
 | v=>v
theorem aee (d:Nat) (v:TV):(B5 d v).bq=v.bq:=by
 unfold B5
 split
 ·split<;>rfl
 ·rfl
def jG (n:Nat) (s:TS) (d:Option Nat) (v:TV):TS:=match d with
 | none=>s
 | some d=>match Nat.blt d n with
  | true=>s.put d (B5 d v)
  | false=>s
theorem ad0 [FZ] {n:Nat} {s s':TS} (hv:s'.vs=s.vs) (hb:s'.bb=s.bb) (h: ∀k,s'.get k=s.get k):s'.ay n=s.ay n:=by
 have hc: ∀v c m,hl s' v c m=hl s v c m:=by
  intro v c m
  induction m generalizing c with
  | zero=>rfl
  | succ m bE=>rw[hl,hl,h _,bE]
 have aB:=HF (n:=n) hb (fun b=>h _) (h dj)
 have cc:s'.tT n=s.tT n:=by unfold TS.tT;simp only[h]
 have bN:s'.cg=s.cg:=by unfold TS.cg;simp only[hv,hc]
 show(⟨s'.tT n,s'.cg,(s'.ay n).H⟩:St)=_
 rw[cc,bN,aB];rfl
theorem Qx (s:TS) (k:Nat):TS.get ⟨[],s.T++s.B,s.vs,s.bb⟩ k=s.get k:=by unfold TS.get;simp only;rw[tk];rfl
theorem adU [FZ] {n:Nat} (s:TS):TS.ay n ⟨[],s.T++s.B,s.vs,s.bb⟩=s.ay n:=ad0 rfl rfl (Qx s)
theorem HE [FZ] {n:Nat} {x:dJ} {s:TS} {K:Bool→TS→aJ} {R:Exit→TS→Prop} (h:(BX x s K).den R): ∃s',s'.ay n=s.ay n∧(∀k,s'.get k=s.get k)∧(K x.den s').den R:=by
 have key:(aJ.ic x s (K true ⟨[],s.T++s.B,s.vs,s.bb⟩) (K false ⟨[],s.T++s.B,s.vs,s.bb⟩)).den R→ ∃s',s'.ay n=s.ay n∧(∀k,s'.get k=s.get k)∧(K x.den s').den R:=fun h=>by
  refine⟨_,adU s,Qx s,?_⟩
  ·cases hx:x.den with
   | true=>exact h.1 hx
   | false=>exact h.2 hx
 cases x with
 | t=>exact⟨s,rfl,fun _=>rfl,h⟩
 | f=>exact⟨s,rfl,fun _=>rfl,h⟩
 | _=>exact key h
theorem Bs {s:TS} {d k:Nat} {v:TV} (h:d<1000000) (hk:1000000≤k):(s.put d v).get k=s.get k:=by rw[TS.D4,if_neg (by omega)]
theorem Gv [FZ] {s:TS} {d:Nat} {v:TV} (h:d<1000000) (f:Fits s):Fits (s.put d v):=f.congr fun k h1 _=>Bs h h1
theorem Ok {s:TS} {d:Nat} {v:TV} (h:d<1000000):(s.put d v).cg=s.cg:=by
 have hc: ∀ec c m,hl (s.put d v) ec c m=hl s ec c m:=by
  intro ec c m
  induction m generalizing c with
  | zero=>rfl
  | succ m bE=>rw[hl,hl,Bs h (by unfold iN;omega),bE]
 show s.vs.map _=s.vs.map _
 simp only[hc]
theorem Oj [FZ] {n:Nat} {s:TS} {d:Nat} {v:TV} (h:d<1000000):((s.put d v).ay n).H=(s.ay n).H:=HF rfl (fun b=>Bs h (by unfold bJ;omega)) (Bs h (by unfold dj;omega))
theorem yk [FZ] {n:Nat} (ao:n≤1000000) (s:TS) (d:Option Nat) (v:TV):(jG n s d v).ay n=⟨putA (s.ay n).T d v.bq,(s.ay n).L,(s.ay n).H⟩:=by
 cases d with
 | none=>rfl
 | some d=>
  unfold jG
  simp only
  split
  ·rename_i aZ
   have aZ:d<n:=by rw[←Nat.blt_eq];exact aZ
   rw[←aee d v]
   generalize B5 d v=v
   have cc:(s.put d v).tT n=(s.tT n).set d v.bq:=by
    apply List.ext_getElem?
    intro t
    show((List.range n).map fun t=>((s.put d v).get t).bq)[t]?=(((List.range n).map fun t=>(s.get t).bq).set d v.bq)[t]?
    rw[List.getElem?_set]
    simp only[List.getElem?_map,List.length_map,List.length_range]
    rcases Nat.lt_or_ge t n with h | h
    ·rw[List.getElem?_range h]
     simp only[Option.map_some]
     rw[TS.D4]
     by_cases e:d=t
     ·simp[e,h]
     ·simp[e]
    ·rw[List.getElem?_eq_none (l:=List.range n) (by simpa using h)]
     by_cases e:d=t
     ·omega
     ·simp[e]
   have bN:=Ok (s:=s) (v:=v) (show d<1000000 by omega)
   have aB:=Oj (n:=n) (s:=s) (v:=v) (show d<1000000 by omega)
   show(⟨(s.put d v).tT n,(s.put d v).cg,((s.put d v).ay n).H⟩:St)=_
   rw[cc,bN,aB];rfl
  ·rename_i aZ
   have aZ: ¬d<n:=fun h=>by rw[←Nat.blt_eq] at h;rw[h] at aZ;cases aZ
   show s.ay n=⟨(s.ay n).T.set d v.bq,_,_⟩
   rw[List.set_eq_of_length_le]
   show((List.range n).map _).length≤d
   simp;omega
theorem yj [FZ] {n:Nat} (ao:n≤1000000) {s:TS} {d:Option Nat} {v:TV} (f:Fits s):Fits (jG n s d v):=by
 unfold jG
 split
 ·exact f
 ·split
  ·rename_i aZ
   exact Gv (by rw[Nat.blt_eq] at aZ;omega) f
  ·exact f
theorem On [FZ] {n:Nat} {s:TS} {t:Nat} {v:TV} (bn:t<1000000) (h:(s.get t).bq=v.bq):(s.put t v).ay n=s.ay n:=by
 have cc:(s.put t v).tT n=s.tT n:=by
  unfold TS.tT
  refine List.map_congr_left fun k _=> ?_
  rw[TS.D4];split
  ·rename_i e;subst e;exact h.symm
  ·rfl
 have bN:=Ok (s:=s) (v:=v) bn
 have aB:=Oj (n:=n) (s:=s) (v:=v) bn
 show(⟨(s.put t v).tT n,(s.put t v).cg,((s.put t v).ay n).H⟩:St)=_
 rw[cc,bN,aB];rfl
section
variable {P:Program} (cf:gC P)
def Bm (c x y:Operand) (s:TS) (K:TV→TS→aJ):aJ:=match cx cf.n s c with
 | .b z=>BX z s fun b s=>
  let s:=match c with
   | .tmp t=>s.put t (tj b)
   | _=>s
  oh (cx cf.n s (bif b then x else y)) fun v=>K v s
 | _=> .no
def Ae (ops:Array Oper) (o:Oper) (s:TS) (run skip:TS→aJ):aJ:=match o.guard with
 | none=>run s
 | some g=>match(ops[g.1]?).bind (·.dst) with
  | none=> .no
  | some t=>match cx cf.n s (.tmp t) with
   | .b z=>BX z s fun b s=>bif b==g.2 then run (s.put t (tj b)) else skip (s.put t (tj b))
   | .tup c=>match c with
    | []=>skip s
    | _=> .no
   | _=> .no
def stepT (dR:o4 P) (o:Oper) (s:TS) (K:TV→TS→aJ):aJ:=match o.op with
 | .pick c x y=>Bm cf c x y s K
 | _=>Ce cf s dR o K
def BI (dR:o4 P) (ops:Array Oper):List Oper→TS→(TS→aJ)→aJ
 | [],s,K=>K s
 | o::r,s,K=>Ae cf ops o s (fun s=>stepT cf dR o s fun v s=>BI dR ops r (jG cf.n s o.dst v) K) (fun s=>BI dR ops r (jG cf.n s o.dst (.tup [])) K)
def DU (ops:Array Oper) (s:TS):List Nat→aJ→aJ
 | [],k=>k
 | i::r,k=> .eq ((opI ops i).guard.isNone&&(opI ops i).dst.isSome) true (.eq (fun(Z:FZ) H Q=>kx P (opI ops i) (fun x=>(cx cf.n s x).bq) s.cg (@TS.f_ Z s++H) Q) (fun _ _ Q=>Q (match(opI ops i).dst with
  | some d=>(cx cf.n s (.tmp d)).bq
  | none=> .undef)) (DU ops s r k))
def sd (dR:o4 P) (ops:Array Oper):List Item→TS→(TS→aJ)→aJ
 | [],s,K=>K s
 | x::r,s,K=>Ae cf ops (opI ops x.i) s
   (fun s=>match x.q with
    | true=>(match oF (opI ops x.i) with
     | true=>(match(opI ops x.i).dst with
      | some d=> .eq (fun H Q=>kx P (opI ops x.i) (fun x=>(cx cf.n s x).bq) s.cg H Q) (fun _ Q=>Q (.e7 d 0)) (sd dR ops r (jG cf.n s (opI ops x.i).dst (.lp d 0)) K)
      | none=> .no)
     | false=>(match(opI ops x.i).op with
      | .pick c a b=>Bm cf c a b s fun v s=>sd dR ops r (jG cf.n s (opI ops x.i).dst v) K
      | _=>qX cf s (opI ops x.i) fun v=>sd dR ops r (jG cf.n s (opI ops x.i).dst v) K))
    | false=>(match(opI ops x.i).op with
     | .pick _ _ _=> .no
     | _=>Ce cf s dR (opI ops x.i) fun v s=>DU cf ops s x.iF (sd dR ops r (jG cf.n s (opI ops x.i).dst v) K)))
   (fun s=>sd dR ops r (jG cf.n s (opI ops x.i).dst (.tup [])) K)
def y1 (P:Program) (ops:Array Oper):List Item→List (Nat×List TV)
 | []=>[]
 | x::r=>match x.q with
  | true=>(match(opI ops x.i).op with
   | .alloc e=>(match(opI ops x.i).dst with
    | some d=>(d,y0 P e)::y1 P ops r
    | none=>y1 P ops r)
   | _=>y1 P ops r)
  | false=>y1 P ops r
def Ib:List (Nat×List TV)→List (Nat×TV)
 | []=>[]
 | (d,c)::r=>sG d 0 c++Ib r
def Dm (dR:o4 P) (ops:Array Oper) (ord:List Item) (jn:List (List Nat)) (s:TS) (K:TS→aJ):aJ:=
 let hS:=y1 P ops ord
 let s':=s.add (Ib hS) (hS.map (fun p=>(p.1,p.2.length))++s.vs) s.bb
 match n_ (Ib hS) with
 | false=> .no
 | true=> .eq (P.follows .mixedOrders) true (.eq jn.length ops.size (.eq (uK ops ord (wU jn)) true (.eq (ord.all (·.lit)) true (.eq s'.cg (hS.map (fun p=>(p.1,cC p.2))++s.cg)
  (.eq (sJ (hS.map fun p=>(p.1,cC p.2)) s.cg) true (.eq (sy ops s.cg ord) true (sd cf dR ops ord s' K)))))))
end
section
variable {P:Program} {cf:gC P} {R:Exit→TS→Prop}
theorem F3 {n t:Nat} {s:TS} {v:TV} (h:cx n s (.tmp t)=v) (hv:v≠ .u):t<n∧s.get t=v:=by
 have h:(match Nat.blt t n with
  | true=>s.get t
  | false=>TV.u)=v:=h
 split at h
 ·rename_i hb;exact⟨by rw[←Nat.blt_eq];exact hb,h⟩
 ·exact absurd h.symm hv
end
section
variable {P:Program} {cf:gC P} {R:Exit→TS→Prop}
theorem ab9 {T:List AV} {t:Nat} {a:AV} (h:T.getD t .undef=a):T.set t a=T∨a= .undef:=by
 by_cases aE:t<T.length
 ·left
  rw[List.getD_eq_getElem?_getD,List.getElem?_eq_getElem aE] at h
  have h:T[t]=a:=h
  rw[←h];exact List.set_getElem_self ..
 ·right;rw[←h,List.getD_eq_getElem?_getD,List.getElem?_eq_none (by omega)];rfl
end
section
variable {P:Program} {cf:gC P} {R:Exit→TS→Prop}
theorem aaZ {o:Oper} {T:List AV} {K:AV→Prop} {zP:Prop} (h: ∀c x y,o.op≠ .pick c x y):tz true o T K zP=zP:=by
 unfold tz
 split
 ·rename_i c x y e;exact absurd e (h c x y)
 ·rfl
end
section
variable [Z:FZ] {P:Program} {cf:gC P} {R:Exit→TS→Prop}
theorem J3 (ao:cf.n≤1000000) {ops:Array Oper} {o:Oper} {s:TS} {run skip:TS→aJ} {x y:List AV→Prop} (aH:Fits s) (hx: ∀s',Fits s'→s'.ay cf.n=s.ay cf.n→(run s').den R→x (s.ay cf.n).T) (ba: ∀s',Fits s'→s'.ay cf.n=s.ay cf.n→(skip s').den R→y (s.ay cf.n).T)
  (h:(Ae cf ops o s run skip).den R):m0 ops true o (s.ay cf.n).T x y:=by
 unfold Ae at h
 unfold m0
 split at h
 ·rename_i aQ;rw[aQ];exact hx s aH rfl h
 ·rename_i g aQ
  obtain⟨j,cz⟩:=g
  rw[aQ]
  simp only at h ⊢
  split at h
  ·exact h.elim
  ·rename_i t bn
   rw[bn]
   simp only
   have cc:(s.ay cf.n).T.getD t .undef=(cx cf.n s (.tmp t)).bq:=by
    have:=congrFun (ki cf.n s) (.tmp t);exact this
   split at h
   ·rename_i z pw
    rw[pw] at cc
    rw[cc]
    show oa true z.den _ _
    obtain⟨aE,gD⟩:=F3 pw (fun e=>by cases e)
    obtain⟨s',aR,e2,h⟩:=HE (n:=cf.n) h
    have m7:Fits (s'.put t (tj z.den)):=Gv (by omega) (aH.congr fun k _ _=>e2 k)
    have qx:(s'.put t (tj z.den)).ay cf.n=s.ay cf.n:=by
     rw[On (by omega) (by rw[e2,gD,Nn];rfl),aR]
    have rM: ∀b,z.den=b→(s.ay cf.n).T.set t (.bool b)=(s.ay cf.n).T:=fun b hb=>by
     rcases ab9 (show(s.ay cf.n).T.getD t .undef= .bool b by rw[cc,←hb];rfl) with q | q
     ·exact q
     ·cases q
    cases oD:z.den with
    | true=>
     rw[oD] at h qx m7
     show if cz=true then _ else _
     rw[rM true oD]
     cases cz with
     | true=>rw[if_pos rfl];exact hx _ m7 qx h
     | false=>rw[if_neg (by simp)];exact ba _ m7 qx h
    | false=>
     rw[oD] at h qx m7
     show if cz=true then _ else _
     rw[rM false oD]
     cases cz with
     | true=>rw[if_pos rfl];exact ba _ m7 qx h
     | false=>rw[if_neg (by simp)];exact hx _ m7 qx h
   ·rename_i c pw
    rw[pw] at cc
    split at h
    ·rw[cc];exact ba s aH rfl h
    ·exact h.elim
   ·exact h.elim
theorem N7 (ao:cf.n≤1000000) {c x y:Operand} {s:TS} {K:TV→TS→aJ} {Kp:AV→Prop} (aH:Fits s) (hK: ∀v s',Fits s'→s'.ay cf.n=s.ay cf.n→(K v s').den R→Kp v.bq) (h:(Bm cf c x y s K).den R):
  nC (cb (s.ay cf.n).T c) fun z=>oa true z (Kp (cb (s.ay cf.n).T x)) (Kp (cb (s.ay cf.n).T y)):=by
 unfold Bm at h
 split at h
 ·rename_i z pw
  obtain⟨s',aR,e2,h⟩:=HE (n:=cf.n) h
  simp only at h
  rw[ph] at h
  generalize rL:(match c with
   | .tmp t=>s'.put t (tj z.den)
   | _=>s')=s2 at h
  have dq:s2.ay cf.n=s.ay cf.n:=by
   rw[←rL,←aR]
   split
   ·rename_i t
    obtain⟨aE,gD⟩:=F3 pw (fun e=>by cases e)
    exact On (by omega) (by rw[e2,gD,Nn];rfl)
   ·rfl
  have hf2:Fits s2:=by
   rw[←rL]
   split
   ·rename_i t
    obtain⟨aE,gD⟩:=F3 pw (fun e=>by cases e)
    exact Gv (by omega) (aH.congr fun k _ _=>e2 k)
   ·exact aH.congr fun k _ _=>e2 k
  have:=hK _ _ hf2 dq h
  have aG: ∀o,(cx cf.n s2 o).bq=cb (s.ay cf.n).T o:=fun o=>by rw[←dq,ki]
  rw[aG] at this
  have hc:cb (s.ay cf.n).T c= .bool z.den:=by
   have:=congrFun (ki cf.n s) c
   rw[this]
   show(cx cf.n s c).bq=_
   rw[pw];rfl
  rw[hc]
  show oa true z.den _ _
  cases oD:z.den with
  | true=>rw[oD] at this;exact this
  | false=>rw[oD] at this;exact this
 ·exact h.elim
theorem ad4 (ao:cf.n≤1000000) {dR:o4 P} {o:Oper} {s:TS} {K:TV→TS→aJ} {Kp:AV→List (Nat×List AV)→List Blk→Prop} (aH:Fits s) (hK:us cf s R K Kp) (h:(stepT cf dR o s K).den R):
  tz true o (s.ay cf.n).T (fun v=>Kp v (s.ay cf.n).L (s.ay cf.n).H) (jq P [] o (cb (s.ay cf.n).T) (s.ay cf.n).L (s.ay cf.n).H Kp):=by
 unfold stepT at h
 split at h
 ·rename_i c x y fw
  unfold tz
  rw[fw]
  exact N7 ao (Kp:=fun v=>Kp v (s.ay cf.n).L (s.ay cf.n).H) aH (fun v s' hf e hv=>by
   have eT:s'.tT cf.n=s.tT cf.n:=congrArg St.T e
   have fR:s'.cg=s.cg:=congrArg St.L e
   have:=hK v s' Z hv hf eT
   rw[fR,e] at this;exact this) h
 ·rename_i bY
  rw[aaZ fun c x y=>bY c x y]
  exact Q4 ao aH hK h
end
section
variable {P:Program} {cf:gC P} {R:Exit→TS→Prop}
theorem GO (ao:cf.n≤1000000) {dR:o4 P} {ops:Array Oper} {K:TS→aJ} {Kp:List AV→List (Nat×List AV)→List Blk→Prop} (hK: ∀s (Z:FZ),(K s).den R→ @Fits Z s→Kp (s.tT cf.n) s.cg (@TS.ay Z cf.n s).H): ∀(l:List Oper) (Z:FZ) (s:TS),@Fits Z s→(BI cf dR ops l s K).den R→
  evOps P [] ops (l.map fun o=>(o,true)) (s.tT cf.n) s.cg (@TS.ay Z cf.n s).H Kp
 | [],Z,s,aH,h=>hK s Z h aH
 | o::r,Z,s,aH,h=>by
  refine J3 (Z:=Z) ao aH (fun s' hf e h=> ?_) (fun s' hf e h=> ?_) h
  ·have fR:s'.cg=s.cg:=congrArg St.L e
   rw[←e,←fR]
   exact ad4 (Z:=Z) ao (Kp:=fun v L' H'=>evOps P [] ops (r.map fun o=>(o,true)) (putA (s'.tT cf.n) o.dst v) L' H' Kp) hf (fun v s2 Z2 hv hf2 e2=>by
    have:=GO ao hK r Z2 _ (@yj Z2 _ ao _ _ _ hf2) hv
    have dq:= @yk Z2 cf.n ao s2 o.dst v
    have eT:(jG cf.n s2 o.dst v).tT cf.n=putA (s2.tT cf.n) o.dst v.bq:=congrArg St.T dq
    have Dv:(jG cf.n s2 o.dst v).cg=s2.cg:=congrArg St.L dq
    rw[eT,Dv,dq] at this
    rw[←e2];exact this) h
  ·have:=GO ao hK r Z _ (yj ao hf) h
   have dq:= @yk Z cf.n ao s' o.dst (.tup [])
   have eT:(jG cf.n s' o.dst (.tup [])).tT cf.n=putA (s'.tT cf.n) o.dst (.tup []):=congrArg St.T dq
   have Dv:(jG cf.n s' o.dst (.tup [])).cg=s'.cg:=congrArg St.L dq
   rw[eT,Dv,dq] at this
   have hH:s'.tT cf.n=s.tT cf.n:=congrArg St.T e
   have hI:s'.cg=s.cg:=congrArg St.L e
   rw[hH,hI,e] at this
   exact this
end
section
variable [Z:FZ] {P:Program} {cf:gC P} {R:Exit→TS→Prop}
theorem JQ {ops:Array Oper} {s:TS} {k:aJ}: ∀{iF:List Nat},(DU cf ops s iF k).den R→qd P ops iF (s.ay cf.n).T (s.ay cf.n).L (s.ay cf.n).H∧k.den R
 | [],h=>⟨trivial,h⟩
 | i::r,h=>by
  obtain⟨h1,h2,aM⟩:=h
  simp only[Bool.and_eq_true] at h1
  obtain⟨q1,q2⟩:=JQ aM
  refine⟨⟨⟨h1.1,h1.2,?_⟩,q1⟩,q2⟩
  rw[ki]
  have:=congrFun (congrFun (congrFun h2 Z) (gN s)) (fun v=>v=rq (opI ops i) (s.ay cf.n).T)
  have this:kx P (opI ops i) (fun x=>(cx cf.n s x).bq) (s.ay cf.n).L (s.ay cf.n).H (fun v=>v=rq (opI ops i) (s.ay cf.n).T)=_:=this
  rw[this]
  unfold rq
  cases(opI ops i).dst with
  | none=>rfl
  | some d=>
   have:=congrFun (ki cf.n s) (.tmp d)
   exact this.symm
end
section
variable {P:Program} {cf:gC P} {R:Exit→TS→Prop}
theorem aa6 (Z:FZ) (ao:cf.n≤1000000) (s:TS) (d:Option Nat) (v:TV):(jG cf.n s d v).tT cf.n=putA (s.tT cf.n) d v.bq∧(jG cf.n s d v).cg=s.cg∧(@TS.ay Z cf.n (jG cf.n s d v)).H=(@TS.ay Z cf.n s).H:=by
 have dq:= @yk Z cf.n ao s d v
 exact⟨congrArg St.T dq,congrArg St.L dq,by rw[dq]⟩
theorem OS (ao:cf.n≤1000000) {dR:o4 P} {ops:Array Oper} {K:TS→aJ} {Kp:List AV→List (Nat×List AV)→List Blk→Prop} (hK: ∀s (Z:FZ),(K s).den R→ @Fits Z s→Kp (s.tT cf.n) s.cg (@TS.ay Z cf.n s).H): ∀(l:List Item) (Z:FZ) (s:TS),@Fits Z s→l.all (·.lit)=true→(sd cf dR ops l s K).den R→
  jr P [] ops l (s.tT cf.n) s.cg (@TS.ay Z cf.n s).H Kp
 | [],Z,s,aH,_,h=>hK s Z h aH
 | x::r,Z,s,aH,aE,h=>by
  simp only[List.all_cons,Bool.and_eq_true] at aE
  show m0 ops x.lit (opI ops x.i) _ _ _
  rw[aE.1]
  have next: ∀(s' s2:TS) (Z2:FZ) (v:TV),@Fits Z2 s2→s2.tT cf.n=s'.tT cf.n→(sd cf dR ops r (jG cf.n s2 (opI ops x.i).dst v) K).den R→jr P [] ops r (putA (s'.tT cf.n) (opI ops x.i).dst v.bq) s2.cg (@TS.ay Z2 cf.n s2).H Kp:=fun s' s2 Z2 v hf e hv=>by
   have:=OS ao hK r Z2 _ (@yj Z2 _ ao _ _ _ hf) aE.2 hv
   obtain⟨q1,q2,q3⟩:=aa6 (cf:=cf) Z2 ao s2 (opI ops x.i).dst v
   rw[q1,q2,q3] at this
   rw[←e];exact this
  refine J3 (Z:=Z) ao aH (fun s' hf e h=> ?_) (fun s' hf e h=> ?_) h
  ·have fR:s'.cg=s.cg:=congrArg St.L e
   rw[←e,←fR]
   cases af:x.q with
   | true=>
    rw[af] at h
    show kx P (opI ops x.i) (cb (s'.ay cf.n).T) (s'.ay cf.n).L (s'.ay cf.n).H _
    cases aF:oF (opI ops x.i) with
    | true=>
     rw[aF] at h
     simp only at h
     split at h
     ·rename_i d aZ
      obtain⟨h1,h2⟩:=h
      rw[ki]
      have:=congrFun (congrFun h1 (s'.ay cf.n).H) (fun v=>jr P [] ops r (putA (s'.ay cf.n).T (opI ops x.i).dst v) (s'.ay cf.n).L (s'.ay cf.n).H Kp)
      have this:kx P (opI ops x.i) (fun x=>(cx cf.n s' x).bq) (s'.ay cf.n).L (s'.ay cf.n).H (fun v=>jr P [] ops r (putA (s'.ay cf.n).T (opI ops x.i).dst v) (s'.ay cf.n).L (s'.ay cf.n).H Kp)=_:=this
      refine Eq.mpr this ?_
      exact next s' s' Z (.lp d 0) hf rfl h2
     ·exact h.elim
    | false=>
     rw[aF] at h
     rw[uP aF]
     simp only at h
     split at h
     ·rename_i c a b fw
      have:=N7 (Z:=Z) ao (Kp:=fun v=>jr P [] ops r (putA (s'.ay cf.n).T (opI ops x.i).dst v) (s'.ay cf.n).L (s'.ay cf.n).H Kp) hf (fun v s2 hf2 e2 hv=>by
       have:=next s' s2 Z v hf2 (congrArg St.T e2) hv
       have dq:s2.cg=s'.cg:=congrArg St.L e2
       rw[dq,e2] at this;exact this) h
      unfold i_
      rw[fw];exact this
     ·exact OJ hf (Kp:=fun v=>jr P [] ops r (putA (s'.ay cf.n).T (opI ops x.i).dst v) (s'.ay cf.n).L (s'.ay cf.n).H Kp) (fun v hv=>next s' s' Z v hf rfl hv) h
   | false=>
    rw[af] at h
    simp only at h
    split at h
    ·exact h.elim
    ·exact Q4 (Z:=Z) ao hf (Kp:=fun v L' H'=>qd P ops x.iF (s'.tT cf.n) L' H'∧jr P [] ops r (putA (s'.tT cf.n) (opI ops x.i).dst v) L' H' Kp) (fun v s2 Z2 hv hf2 e2=>by
      obtain⟨q1,q2⟩:=JQ (Z:=Z2) hv
      have q1:qd P ops x.iF (s2.tT cf.n) s2.cg (@TS.ay Z2 cf.n s2).H:=q1
      rw[e2] at q1
      exact⟨q1,next s' s2 Z2 v hf2 e2 q2⟩) h
  ·have:=next s' s' Z (.tup []) hf rfl h
   have hH:s'.tT cf.n=s.tT cf.n:=congrArg St.T e
   have hI:s'.cg=s.cg:=congrArg St.L e
   rw[hH,hI,e] at this
   exact this
end
theorem Dn {cH:List Nat}: ∀(L:List (Nat×List AV)) (t:Nat),cH.contains t=true→dZ (mW cH L) t=none
 | [],t,h=>rfl
 | (k,c)::L,t,h=>by
  unfold mW
  split
  ·exact Dn L t h
  ·rename_i hk
   have:t≠k:=fun e=>by subst e;rw[h] at hk;cases hk
   simp only[dZ,if_neg this];exact Dn L t h
def DX:Bool→Bool→Bool
 | _,false=>true
 | a,true=>a
theorem JV {a b:Bool} (h:DX a b=true):b=true→a=true:=fun e=>by subst e;exact h
def ku (a b:AV):Prop:=b=a∨b= .undef∨ ∃rows full fr mq,a= .aV rows full fr∧b= .aV rows false mq∧(mq=true→fr=true)
theorem ku.O0 {w:World} {PA PF:Nat→Prop} {rows:List (List AV)} {full fr mq:Bool} {v:Value} (ai: ∀c,PF c→PA c) (hf:mq=true→fr=true) (h:aW w PA PF (.aV rows full fr) v):aW w PA PF (.aV rows false mq) v:=by
 cases h with
 | aV eU e1 fG cd dQ hrel=>
  refine .aV (fun c hc=> ?_) e1 (fun h=>by cases h) cd dQ hrel
  have:=eU c hc
  cases mq with
  | true=>rw[hf rfl] at this;exact this
  | false=>
   cases fr with
   | true=>exact ai c this
   | false=>exact this
theorem ku.v1 {E:Env} {a b:AV} {v:Value} (ai: ∀c,E.PF c→E.PA c) (h:ku a b) (hv:b1 E a v):b1 E b v:=by
 rcases h with rfl | rfl | ⟨rows,full,fr,mq,rfl,rfl,hf⟩
 ·exact hv
 ·exact b1.undef _ _
 ·exact ku.O0 ai hf hv
theorem ku.v3 {E:Env} {a b:AV} {v:Value} (ai: ∀c,E.PF c→E.PA c) (h:ku a b) (hv:V3 E a v):V3 E b v:=by
 rcases h with rfl | rfl | ⟨rows,full,fr,mq,rfl,rfl,hf⟩
 ·exact hv
 ·exact V3.undef _ _
 ·exact ku.O0 ai hf hv
theorem ku.of {a b:AV} (h:b=a∨b= .undef):ku a b:=h.imp_right .inl
theorem Weak.acM [cw] {T T':List AV} {L:List (Nat×List AV)} {H:List Blk} (aE:T'.length=T.length) (h: ∀t,ku (T.getD t .undef) (T'.getD t .undef)):Weak ⟨T,L,H⟩ ⟨T',L,H⟩:=fun cj E tmps g s=>
 ⟨E,rfl,g,s.h,s.l,fun t=>(h t).v3 s.h.dr (s.hP t),by show T'.length=_;rw[aE];exact s.size⟩
theorem Weak.cells [cw] {T:List AV} {L L':List (Nat×List AV)} {H:List Blk} (bN: ∀t cells,dZ L t=some cells→ ∃gw,dZ L' t=some gw∧gw.length=cells.length∧ ∀(i:Nat) (a:AV),gw[i]?=some a→ ∃b,cells[i]?=some b∧ku b a):Weak ⟨T,L,H⟩ ⟨T,L',H⟩:=fun cj E tmps g s=>
 ⟨E,rfl,g,s.h,fun t c hm=>by
  obtain⟨cells,aw,ty,q1,q2,q3⟩:=s.l t c hm
  obtain⟨gw,cZ,dg,fK⟩:=bN t cells q1
  refine⟨gw,aw,ty,cZ,q2,by rw[dg];exact q3.1,fun i a v aF hv=> ?_⟩
  obtain⟨b,hb,q⟩:=fK i a aF
  exact q.v1 s.h.dr (q3.2 i b v hb hv),s.hP,s.size⟩
theorem aeA [cw] {T T':List AV} {L L':List (Nat×List AV)} {H:List Blk} (aE:T'.length=T.length) (cc: ∀t,ku (T.getD t .undef) (T'.getD t .undef)) (cH:List Nat) (ai:T'.all (nQ cH)=true)
  (bN: ∀t cells,cH.contains t=false→dZ L t=some cells→ ∃gw,dZ L' t=some gw∧gw.length=cells.length∧ ∀(i:Nat) (a:AV),gw[i]?=some a→ ∃b,cells[i]?=some b∧ku b a):Weak ⟨T,L,H⟩ ⟨T',L',H⟩:=by
 refine(Weak.acM aE cc).trans ((Weak.mW cH ai).trans (Weak.cells fun t cells h=> ?_))
 cases bn:cH.contains t with
 | true=>rw[Dn L t bn] at h;cases h
 | false=>rw[zK L t bn] at h;exact bN t cells bn h
theorem No (l:List (Nat×TV)) (k:Nat) (d:TV):(∃v,(k,v)∈l∧gG l k d=v)∨gG l k d=d:=by
 induction l with
 | nil=>exact .inr rfl
 | cons p r bE=>
  obtain⟨a,w⟩:=p
  rw[gP]
  by_cases e:a=k
  ·subst e;exact .inl ⟨w,List.mem_cons_self ..,if_pos rfl⟩
  ·rw[if_neg e]
   rcases bE with⟨v,h1,h2⟩ | h
   ·exact .inl ⟨v,List.mem_cons_of_mem _ h1,h2⟩
   ·exact .inr h
theorem C0 (s:TS) (v:Nat): ∀(c m:Nat),(hl s v c m).length=m
 | _,0=>rfl
 | c,m+1=>by rw[hl,List.length_cons,C0 s v (c+1) m]
theorem zB (s:TS) (v:Nat): ∀(m c i:Nat),(cC (hl s v c m))[i]?=if i<m then some (s.get (iN v (c+i))).bq else none
 | 0,c,i=>by simp[hl,cC]
 | m+1,c,i=>by
  rw[hl,cC]
  cases i with
  | zero=>simp
  | succ i=>
   rw[List.getElem?_cons_succ,zB s v m (c+1) i,show c+1+i=c+(i+1) by omega]
   by_cases h:i<m
   ·rw[if_pos h,if_pos (by omega)]
   ·rw[if_neg h,if_neg (by omega)]
theorem B1 [FZ] (n:Nat) (s:TS):s.ay n=⟨(s.ay n).T,(s.ay n).L,(s.ay n).H⟩:=rfl
theorem Q2 [cw] [FZ] {n:Nat} {s S:TS} (eo:iv S=iv s) (cc: ∀t,t<n→ku (s.get t).bq (S.get t).bq) (cH:List Nat) (ai:(S.ay n).T.all (nQ cH)=true)
  (hv: ∀v m,cH.contains v=false→j4 s.vs v=some m→j4 S.vs v=some m∧ ∀c,ku (s.get (iN v c)).bq (S.get (iN v c)).bq)
  (hb:S.bb=s.bb) (c5: ∀b,b<s.bb→(S.get (bJ b)).eM=(s.get (bJ b)).eM):Weak (s.ay n) (S.ay n):=by
 have aB:(S.ay n).H=(s.ay n).H:=by
  show S.f_++gN S=s.f_++gN s
  have e2:gN S=gN s:=by unfold gN;rw[eo]
  rw[e2]
  congr 1
  apply List.ext_getElem?
  intro b
  rw[oY,oY,hb]
  by_cases h:b<s.bb
  ·rw[if_pos h,if_pos h,c5 b h]
  ·rw[if_neg h,if_neg h]
 rw[B1 n s,B1 n S,aB]
 refine aeA (by show((List.range n).map _).length=((List.range n).map _).length;simp) (fun t=> ?_) cH ai fun t cells bn h=> ?_
 ·rw[yN,yN]
  by_cases h:t<n
  ·rw[if_pos h,if_pos h];exact cc t h
  ·rw[if_neg h,if_neg h];exact .inl rfl
 ·rw[tV] at h
  cases hm:j4 s.vs t with
  | none=>rw[hm] at h;cases h
  | some m=>
   rw[hm] at h
   cases h
   obtain⟨q1,q2⟩:=hv t m bn hm
   refine⟨cC (hl S t 0 m),by rw[tV,q1];rfl,?_,fun i a aF=> ?_⟩
   ·show(cC _).length=(cC _).length
    rw[mQ,mQ,List.length_map,List.length_map,C0,C0]
   ·rw[zB] at aF ⊢
    by_cases hi:i<m
    ·rw[if_pos hi] at aF ⊢
     cases aF
     exact⟨_,rfl,q2 (0+i)⟩
    ·rw[if_neg hi] at aF;cases aF
theorem ZV (l:List AV):l.all (nQ [])=true:=by
 have aI: ∀a,tl [] a=true:=fun a=>by cases a<;>rfl
 have h1: ∀a,rU [] a=true:=fun a=>by
  unfold rU
  split
  ·exact List.all_eq_true.2 fun x _=>aI x
  ·exact aI _
 have h2: ∀a,rV [] a=true:=fun a=>by
  unfold rV
  split
  ·exact List.all_eq_true.2 fun x _=>h1 x
  ·exact h1 _
 have aM: ∀a,nQ [] a=true:=fun a=>by
  unfold nQ
  split
  ·exact List.all_eq_true.2 fun x _=>h2 x
  ·exact h2 _
 exact List.all_eq_true.2 fun x _=>aM x
theorem Fits.le [FZ] {s S:TS} (h:s.gj S) (f:Fits s):Fits S:=f.congr fun k h1 h2=>(h.get k).resolve_right fun q=>by
 rcases q with q | q
 ·have:=q.1;omega
 ·have:=q.1;omega
theorem aeB [cw] [FZ] {n:Nat} (ao:n≤1000000) {s S:TS} (h:s.gj S):Weak (s.ay n) (S.ay n):=by
 have IK: ∀k,¬k<1000000→S.get k=s.get k∨(1000010≤k∧Iq (s.get k) (S.get k)):=fun k hk=>(h.get k).imp_right fun q=>q.resolve_left fun q=>hk q.1
 have xp: ∀k,¬k<1000000→(S.get k).bq=(s.get k).bq∧(S.get k).eM=(s.get k).eM:=fun k hk=>by
  rcases IK k hk with e | ⟨_,g,c,ck,aR,e2,dq⟩
  ·rw[e];exact⟨rfl,rfl⟩
  ·rw[aR,e2]
   refine⟨rfl,?_⟩
   show Blk.mk g ck.length [cC ck]=Blk.mk g c.length [cC c]
   have aE:ck.length=c.length:=by have:=congrArg List.length dq;rwa [mQ,mQ,List.length_map,List.length_map] at this
   rw[dq,aE]
 have aH:S.get dj=s.get dj:=(IK dj (by unfold dj;omega)).resolve_right fun q=>by have:=q.1;unfold dj at this;omega
 refine Q2 (Bb aH) (fun t bn=> ?_) [] (ZV _) (fun v m _ hm=>⟨by rw[h.vs];exact hm,fun c=> .inl (xp _ (by unfold iN;omega)).1⟩) h.bb fun b _=>(xp _ (by unfold bJ;omega)).2
 rcases h.get t with e | ⟨_,e⟩ | ⟨e,_⟩
 ·exact .inl (by rw[e])
 ·exact .of e
 ·omega
inductive kt:Type 1 where
 | nil
 | uE (a b:kt)
 | lp (kT:List (Nat×Nat×aU)) (cT:List Nat) (jA:List (Nat×Nat)) (jR:List aU) (rd:List Nat) (il:cA jR→List (Nat×TV)) (I:cA jR→Prop) (m:cA jR→Nat) (b:cA jR→kt)
def kt.fst:kt→kt
 | .uE a _=>a
 | a=>a
def kt.snd:kt→kt
 | .uE _ b=>b
 | a=>a
def CC:(jR:List aU)→(cA jR→aJ)→aJ
 | [],F=>F ()
 | e::r,F=> .all e.T fun x=>CC r fun y=>F (x,y)
theorem Ix {R:Exit→TS→Prop}: ∀{jR:List aU} {F:cA jR→aJ},(CC jR F).den R→ ∀v,(F v).den R
 | [],F,h,()=>h
 | e::r,F,h,(x,y)=>Ix (h x) y
def GF:(e:aU)→TV→(e.T→aJ)→aJ
 | .int,v,K=>(match v with
  | .i _ m=>K m
  | _=> .no)
 | .u64,v,K=>(match v with
  | .i _ m=>K m
  | _=> .no)
 | .bool,v,K=>(match v with
  | .b x=>K x.den
  | _=> .no)
 | .str,v,K=>(match v with
  | .s x=>K x
  | _=> .no)
 | .nat,v,K=>(match v with
  | .blk g _ _ _ _=>K g
  | _=> .no)
 | .gx,v,K=>(match v with
  | .dB _ c=>K (aU.mk .gx (oj aU.gx.b2 c))
  | _=> .no)
 | .l e,v,K=>(match v with
  | .l b3 xs _ _=>if h:b3=e then K (kX h xs) else .no
  | .blk _ b3 xs _ _=>if h:b3=e then K (kX h xs) else .no
  | .nil _ _=>K []
  | _=> .no)
 | _,_,_=> .no
def BC (s:TS):(jR:List aU)→List Nat→(cA jR→aJ)→aJ
 | [],_,K=>K ()
 | e::r,k::AU,K=>GF e (s.get k) fun x=>BC s r AU fun y=>K (x,y)
 | _,_,_=> .no
theorem abx {R:Exit→TS→Prop} {e:aU} {v:TV} {K:e.T→aJ} (h:(GF e v K).den R): ∃x,(K x).den R:=by
 cases e with
 | int=>
  have h:(match v with
   | .i _ m=>K m
   | _=>aJ.no).den R:=h
  split at h
  ·exact⟨_,h⟩
  ·exact h.elim
 | u64=>
  have h:(match v with
   | .i _ m=>K m
   | _=>aJ.no).den R:=h
  split at h
  ·exact⟨_,h⟩
  ·exact h.elim
 | bool=>
  have h:(match v with
   | .b x=>K x.den
   | _=>aJ.no).den R:=h
  split at h
  ·exact⟨_,h⟩
  ·exact h.elim
 | str=>
  have h:(match v with
   | .s x=>K x
   | _=>aJ.no).den R:=h
  split at h
  ·exact⟨_,h⟩
  ·exact h.elim
 | nat=>
  have h:(match v with
   | .blk g _ _ _ _=>K g
   | _=>aJ.no).den R:=h
  split at h
  ·exact⟨_,h⟩
  ·exact h.elim
 | gx=>
  have h:(match v with
   | .dB _ c=>K (aU.mk .gx (oj aU.gx.b2 c))
   | _=>aJ.no).den R:=h
  split at h
  ·exact⟨_,h⟩
  ·exact h.elim
 | l e=>
  have h:(match v with
   | .l b3 xs _ _=>if h:b3=e then K (kX h xs) else aJ.no
   | .blk _ b3 xs _ _=>if h:b3=e then K (kX h xs) else aJ.no
   | .nil _ _=>K []
   | _=>aJ.no).den R:=h
  split at h
  ·split at h
   ·exact⟨_,h⟩
   ·exact h.elim
  ·split at h
   ·exact⟨_,h⟩
   ·exact h.elim
  ·exact⟨_,h⟩
  ·exact h.elim
 | _=>exact h.elim
theorem GG {R:Exit→TS→Prop} {s:TS}: ∀{jR:List aU} {AU:List Nat} {K:cA jR→aJ},(BC s jR AU K).den R→ ∃v,(K v).den R
 | [],_,K,h=>⟨(),h⟩
 | e::r,k::AU,K,h=>by
  obtain⟨x,h⟩:=abx (show(GF e (s.get k) _).den R from h)
  obtain⟨y,h⟩:=GG h
  exact⟨(x,y),h⟩
 | e::r,[],K,h=>h.elim
def C6 (s:TS) (k:Nat) (w:TV) (t:aJ):aJ:=match w with
 | .ref b g m f=>(match s.get k with
  | .ref bT c8 e3 zY=>(match s.get (bJ b) with
   | .blk _ _ xs NB _=> .eq bT b (.eq zY f (.eq c8 g (.eq e3 NB (.eq m xs.length t))))
   | _=> .no)
  | _=> .no)
 | .blk g e xs _ _=>(match s.get k with
  | .blk c8 b3 ub _ _=>if h:b3=e then .eq c8 g (.eq (kX h ub) xs t) else .no
  | _=> .no)
 | .b y=>(match s.get k with
  | .b x=> .eq x.den y.den t
  | _=> .no)
 | .dB g c=>(match s.get k with
  | .dB c8 ck=> .eq c8 g (.eq (cC ck) (cC c) (.eq ck.length c.length t))
  | _=> .no)
 | .l e xs de fr=>(match de with
  | true=> .eq (s.get k) (.l e xs true fr) t
  | false=>match s.get k with
   | .l b3 ub _ mq=>if h:b3=e then .eq (DX mq fr) true (.eq (kX h ub) xs t) else .no
   | .nil _ mq=> .eq (DX mq fr) true (.eq [] xs t)
   | _=> .no)
 | w=> .eq (s.get k) w t
def AR:TV→Bool
 | .blk _ _ _ _ _=>true
 | .dB _ _=>true
 | .jL _ _ _=>true
 | _=>false
def FE:TV→Bool
 | .gy _ _ _ _=>true
 | .new _ _=>true
 | _=>false
theorem SR [FZ] {R:Exit→TS→Prop} {s:TS} {k:Nat} {w:TV} {t:aJ} (h:(C6 s k w t).den R):(ku (s.get k).bq w.bq∧(AR w=true→w.eM=(s.get k).eM)∧(FE w=true→s.get k=w))∧t.den R:=by
 unfold C6 at h
 split at h
 ·split at h
  ·rename_i bT c8 e3 zY hk
   split at h
   ·rename_i g0 cs xs NB aE hb
    obtain⟨h1,h2,aM,bx,c9,e6⟩:=h
    subst h1;subst h2;subst aM;subst bx;subst c9
    refine⟨⟨.inl ?_,(fun q=>by cases q),fun q=>by cases q⟩,e6⟩
    rw[hk,aE]
   ·exact h.elim
  ·exact h.elim
 ·split at h
  ·rename_i c8 b3 ub e3 Aw hk
   split at h
   ·rename_i he
    subst he
    obtain⟨h1,h2,aM⟩:=h
    subst h1
    have h2:ub=_:=h2
    subst h2
    refine⟨⟨.inl ?_,fun _=> ?_,fun q=>by cases q⟩,aM⟩<;>rw[hk]<;>rfl
   ·exact h.elim
  ·exact h.elim
 ·split at h
  ·rename_i y _ x hk
   obtain⟨h1,h2⟩:=h
   refine⟨⟨.inl ?_,(fun q=>by cases q),fun q=>by cases q⟩,h2⟩
   rw[hk];show AV.bool y.den= .bool x.den;rw[h1]
  ·exact h.elim
 ·split at h
  ·rename_i c8 ck hk
   obtain⟨h1,h2,aM,bx⟩:=h
   refine⟨⟨.inl (by rw[hk];rfl),fun _=> ?_,fun q=>by cases q⟩,bx⟩
   rw[hk]
   show(⟨_,_,_⟩:Blk)=⟨_,_,_⟩
   rw[h1,h2,aM]
  ·exact h.elim
 ·split at h
  ·obtain⟨h1,h2⟩:=h
   exact⟨⟨.inl (by rw[h1]),(fun _=>by rw[h1]),fun _=>h1⟩,h2⟩
  ·split at h
   ·rename_i b3 ub Uu mq hk
    split at h
    ·rename_i he
     subst he
     obtain⟨h1,h2,aM⟩:=h
     have h2:ub=_:=h2
     subst h2
     exact⟨⟨.inr (.inr ⟨_,_,_,_,by rw[hk];rfl,rfl,JV h1⟩),(fun q=>by cases q),fun q=>by cases q⟩,aM⟩
    ·exact h.elim
   ·rename_i Uu mq hk
    obtain⟨h1,h2,aM⟩:=h
    subst h2
    exact⟨⟨.inr (.inr ⟨[],_,_,_,by rw[hk];rfl,rfl,JV h1⟩),(fun q=>by cases q),fun q=>by cases q⟩,aM⟩
   ·exact h.elim
 ·obtain⟨h1,h2⟩:=h
  exact⟨⟨.inl (by rw[h1]),(fun _=>by rw[h1]),fun _=>h1⟩,h2⟩
def C7 (s:TS):List (Nat×TV)→aJ→aJ
 | [],t=>t
 | (k,w)::r,t=>C6 s k w (C7 s r t)
theorem I8 [FZ] {R:Exit→TS→Prop} {s:TS} {t:aJ}: ∀{l:List (Nat×TV)},(C7 s l t).den R→(∀k w,(k,w)∈l→ku (s.get k).bq w.bq∧(AR w=true→w.eM=(s.get k).eM)∧(FE w=true→s.get k=w))∧t.den R
 | [],h=>⟨(fun k w h=>by cases h),h⟩
 | (k,w)::r,h=>by
  obtain⟨h1,h2⟩:=SR h
  obtain⟨aM,bx⟩:=I8 h2
  refine⟨fun iM w' hm=> ?_,bx⟩
  rcases List.mem_cons.1 hm with e | hm
  ·cases e;exact h1
  ·exact aM iM w' hm
def B3 (vs:List (Nat×Nat)):List (Nat×Nat)→Bool
 | []=>true
 | (v,m)::r=>(match j4 vs v with
  | some e3=>Nat.beq m e3
  | none=>false)&&B3 vs r
def zk (s:TS):Nat→Bool
 | 0=>true
 | b+1=>AR (s.get (bJ b))&&zk s b
def uL (jA:List (Nat×Nat)):List (Nat×Nat)→List Nat
 | []=>[]
 | (v,_)::r=>match(j4 jA v).isSome with
  | true=>uL jA r
  | false=>v::uL jA r
def Et (s S:TS) (t:aJ):aJ:=
 .eq (B3 s.vs S.vs) true (.eq (Nat.beq S.bb s.bb) true (.eq (zk S s.bb) true (.eq (S.T.all fun p=>nQ (uL S.vs s.vs) p.2.bq) true (.eq (iv S) (iv s) (C7 s S.T t)))))
theorem F1: ∀{l:List (Nat×Nat)} {v m:Nat},j4 l v=some m→(v,m)∈l
 | [],_,_,h=>by cases h
 | (k,e3)::r,v,m,h=>by
  unfold j4 at h
  split at h
  ·rename_i hk;cases h;rw[Nat.eq_of_beq_eq_true hk];exact List.mem_cons_self ..
  ·exact List.mem_cons_of_mem _ (F1 h)
theorem Dp {jA:List (Nat×Nat)}: ∀{l:List (Nat×Nat)} {v m:Nat},(uL jA l).contains v=false→(v,m)∈l→(j4 jA v).isSome=true
 | [],_,_,_,h=>by cases h
 | (k,e3)::r,v,m,aZ,h=>by
  unfold uL at aZ
  split at aZ
  ·rename_i hk
   rcases List.mem_cons.1 h with e | h
   ·cases e;exact hk
   ·exact Dp aZ h
  ·rename_i hk
   simp only[List.contains_cons,Bool.or_eq_false_iff] at aZ
   rcases List.mem_cons.1 h with e | h
   ·cases e;simp at aZ
   ·exact Dp aZ.2 h
theorem QF {vs:List (Nat×Nat)}: ∀{l:List (Nat×Nat)},B3 vs l=true→ ∀v m,(v,m)∈l→j4 vs v=some m
 | [],_,_,_,h=>by cases h
 | (k,e3)::r,hs,v,m,h=>by
  simp only[B3,Bool.and_eq_true] at hs
  rcases List.mem_cons.1 h with e | h
  ·cases e
   have h1:=hs.1
   split at h1
   ·rename_i bj hm;rw[hm,Nat.eq_of_beq_eq_true h1]
   ·cases h1
  ·exact QF hs.2 v m h
theorem Iw {s:TS}: ∀{n:Nat},zk s n=true→ ∀b,b<n→AR (s.get (bJ b))=true
 | 0,_,b,h=>by omega
 | n+1,hs,b,h=>by
  simp only[zk,Bool.and_eq_true] at hs
  rcases Nat.lt_or_ge b n with q | q
  ·exact Iw hs.2 b q
  ·have:b=n:=by omega
   subst this;exact hs.1
theorem Kw [cw] [FZ] {n:Nat} {s S:TS} {t:aJ} {R:Exit→TS→Prop} (c5:S.B=[]) (aH:Fits s) (h:(Et s S t).den R):Weak (s.ay n) (S.ay n)∧Fits S∧t.den R:=by
 obtain⟨h1,h2,aM,bx,eo,c9⟩:=h
 obtain⟨e6,lP⟩:=I8 c9
 have vb:=Nat.eq_of_beq_eq_true h2
 have gD: ∀k,(∃v,(k,v)∈S.T∧S.get k=v)∨S.get k= .u:=fun k=>by
  unfold TS.get;rw[c5];exact No ..
 have Ks: ∀k,ku (s.get k).bq (S.get k).bq:=fun k=>by
  rcases gD k with⟨v,hm,e⟩ | e
  ·rw[e];exact(e6 k v hm).1
  ·rw[e];exact .inr (.inl rfl)
 have vi: ∀k,FE (S.get k)=true→s.get k=S.get k:=fun k hk=>by
  rcases gD k with⟨v,hm,e⟩ | e
  ·rw[e] at hk ⊢;exact(e6 k v hm).2.2 hk
  ·rw[e] at hk;cases hk
 have U2:Fits S:=fun V ids iO h' lh=>by
  have e:=vi dj (by rw[lh];rfl)
  obtain⟨q1,q2,q3⟩:=aH V ids iO h' (by rw[e,lh])
  exact⟨q1,q2,fun id xs iH=>q3 id xs (by rw[vi fH (by rw[iH];rfl),iH])⟩
 refine⟨Q2 eo (fun t _=>Ks t) (uL S.vs s.vs) ?_ (fun v m aZ hm=> ?_) vb (fun b hb=> ?_),U2,lP⟩
 ·rw[List.all_eq_true]
  intro a aF
  obtain⟨k,_,rfl⟩:=List.mem_map.1 (show a∈(List.range n).map fun t=>(S.get t).bq from aF)
  rcases gD k with⟨v,hm,e⟩ | e
  ·rw[e];exact List.all_eq_true.1 bx (k,v) hm
  ·rw[e];rfl
 ·have hs:=Dp aZ (F1 hm)
  cases af:j4 S.vs v with
  | none=>rw[af] at hs;cases hs
  | some e3=>
   have:=QF h1 v e3 (F1 af)
   rw[hm] at this
   cases this
   exact⟨rfl,fun c=>Ks _⟩
 ·have hi:=Iw aM b hb
  rcases gD (bJ b) with⟨v,hm,e⟩ | e
  ·rw[e] at hi ⊢;exact(e6 _ v hm).2.1 hi
  ·rw[e] at hi;cases hi
def zW (s:TS):Nat→Nat→List (Nat×TV)
 | _,0=>[]
 | b,k+1=>(bJ b,s.get (bJ b))::zW s (b+1) k
def lF (s S:TS):TS:=⟨S.T++zW s S.bb (s.bb - S.bb),[],S.vs,s.bb⟩
def OF (n:Nat):TV→Bool
 | .dB _ c=>(cC c).all (oT n)
 | .jL _ _ _=>false
 | _=>true
def Je (jf:Option Nat) (S:TS) (m:Nat):Bool:=match jf with
 | some k=>Nat.ble k S.bb&&Nat.ble S.bb m&&iv S&&S.T.all fun p=>vV S.bb p.2.bq&&OF S.bb p.2
 | none=>false
def toHead (jf:Option Nat) (s S:TS) (t:aJ):aJ:=match Nat.beq S.bb s.bb with
 | true=>Et s S t
 | false=>Et s (lF s S) (.eq (lF s S).cg S.cg (.eq (Je jf S s.bb) true t))
theorem JD (s:TS): ∀(k b:Nat) (j:Nat),(j<bJ b)→ ∀v,(j,v) ∉ zW s b k
 | 0,b,j,h,v,hm=>by cases hm
 | k+1,b,j,h,v,hm=>by
  rcases List.mem_cons.1 hm with e | hm
  ·cases e;exact absurd h (Nat.lt_irrefl _)
  ·exact JD s k (b+1) j (by unfold bJ at h ⊢;omega) v hm
theorem aeD {s S:TS} (c5:S.B=[]) {j:Nat} (h:j<bJ S.bb):(lF s S).get j=S.get j:=by
 show gG (S.T++zW s S.bb (s.bb - S.bb)) j (gG [] j .u)=gG S.T j (gG S.B j .u)
 rw[tk,c5,rT (JD s _ _ j h)]
theorem To {n:Nat} (fr:Bool) (e:aU) (x:e.T):(cq fr e x).all (oT n)=true:=by cases e<;>rfl
theorem abK {n:Nat} {a:AV} (h:vV n a=true):oT n a=true:=by cases a<;>first | exact h | rfl
theorem toHead_sound [h5:cw] [FZ] {n:Nat} (ao:n≤1000000) {jf:Option Nat} (fS: ∀k,jf=some k→h5.n≤k) {s S:TS} {t:aJ} {R:Exit→TS→Prop} (c5:S.B=[]) (aH:Fits s) (h:(toHead jf s S t).den R):Weak (s.ay n) (S.ay n)∧Fits S∧t.den R:=by
 unfold toHead at h
 split at h
 ·exact Kw c5 aH h
 ·obtain⟨w,hf,fR,h1,h2⟩:=Kw (n:=n) (S:=lF s S) rfl aH h
  unfold Je at h1
  split at h1
  ·rename_i k
   simp only[Bool.and_eq_true] at h1
   obtain⟨⟨⟨q1,q2⟩,q3⟩,q4⟩:=h1
   have q1:=Nat.le_of_ble_eq_true q1
   have q2:=Nat.le_of_ble_eq_true q2
   have aQ: ∀j,j<bJ S.bb→(lF s S).get j=S.get j:=fun j h=>aeD c5 h
   have Au: ∀b,b<S.bb→bJ b<bJ S.bb:=fun b h=>by unfold bJ;omega
   have Wy:dj<bJ S.bb:=by unfold dj bJ;omega
   have VP:iv (lF s S)=true:=by rw[Bb (aQ dj Wy)];exact q3
   have eT:(lF s S).tT n=S.tT n:=List.map_congr_left fun t bn=>by rw[aQ t (by have:=List.mem_range.1 bn;unfold bJ;omega)]
   have gD: ∀k,(∃v,(k,v)∈S.T∧S.get k=v)∨S.get k= .u:=fun k=>by
    unfold TS.get;rw[c5];exact No ..
   have EL: ∀k,vV S.bb (S.get k).bq=true∧OF S.bb (S.get k)=true:=fun k=>by
    rcases gD k with⟨v,hm,e⟩ | e
    ·have:=List.all_eq_true.1 q4 _ hm
     rw[Bool.and_eq_true] at this
     rw[e];exact this
    ·rw[e];exact⟨rfl,rfl⟩
   have aB: ∀b,((lF s S).ay n).H[b]?=if b<s.bb then some ((lF s S).get (bJ b)).eM else none:=fun b=>by
    show((lF s S).f_++gN (lF s S))[b]?=_
    have:gN (lF s S)=[]:=by unfold gN;rw[VP]
    rw[this,List.append_nil,oY];rfl
   have Jh:=Weak.cut (T:=S.tT n) (L:=S.cg) (H:=((lF s S).ay n).H) S.bb (Nat.le_trans (fS k rfl) q1) (fun t=> ?_) (fun t cells hc=> ?_) (fun b blk hb xp row av=> ?_)
   ·have aR:(lF s S).ay n=⟨S.tT n,S.cg,((lF s S).ay n).H⟩:=by rw[←eT,←fR];rfl
    have e2:(⟨S.tT n,S.cg,((lF s S).ay n).H.take S.bb⟩:St)=S.ay n:=by
     show _=(⟨S.tT n,S.cg,S.f_++gN S⟩:St)
     have:gN S=[]:=by unfold gN;rw[q3]
     rw[this,List.append_nil]
     congr 1
     apply List.ext_getElem?
     intro b
     rw[List.getElem?_take,aB,oY]
     by_cases hb:b<S.bb
     ·rw[if_pos hb,if_pos (by omega),if_pos hb,aQ _ (Au b hb)]
     ·rw[if_neg hb,if_neg hb]
    rw[aR] at w
    rw[e2] at Jh
    exact⟨w.trans Jh,hf.congr fun k h1 h2=>(aQ k (by unfold bJ;omega)).symm,h2⟩
   ·have:=yN (n:=n) (s:=S) t
    have this:(S.tT n).getD t .undef=_:=this
    rw[this]
    split
    ·exact(EL t).1
    ·rfl
   ·have:=tV (n:=n) (s:=S) t
    have this:dZ S.cg t=_:=this
    rw[this] at hc
    cases hm:j4 S.vs t with
    | none=>rw[hm] at hc;cases hc
    | some m=>
     rw[hm] at hc
     cases hc
     rw[List.all_eq_true]
     intro a aF
     obtain⟨i,hi⟩:=List.mem_iff_getElem?.1 aF
     rw[zB] at hi
     split at hi
     ·cases hi;exact abK (EL _).1
     ·cases hi
   ·rw[aB,if_pos (by omega),aQ _ (Au b hb)] at xp
    cases xp
    have af:=(EL (bJ b)).2
    revert av af
    cases S.get (bJ b) with
    | blk g e xs m h=>
     intro av _
     obtain⟨x,_,rfl⟩:=List.mem_map.1 (show row∈xs.map (cq true e) from av)
     exact To true e x
    | dB g c=>
     intro av af
     rw[List.mem_singleton.1 (show row∈[cC c] from av)];exact af
    | jL g m ids=>intro _ af;cases af
    | _=>intro av _;cases av
  ·cases h1
def uu (n:Nat):List (Nat×Nat×aU)→TS→(TS→aJ)→aJ
 | [],s,K=>K s
 | p::r,s,K=>
  let s1:=s.gv s.bb (s.bb+1) (.blk 0 p.2.2 [] 0 rfl)
  match p.1 with
  | 0=> .eq (qG (cx n s (.tmp p.2.1)).bq) true (.eq s1.cg s.cg (.eq (iv s) true (uu n r (jG n s1 (some p.2.1) (.ref s.bb 0 0 false)) K)))
  | v+1=>
   let s2:=s1.add [(iN v p.2.1,.ref s.bb 0 0 false)] s1.vs s1.bb
   match j4 s.vs v with
   | some m=> .eq (qG ((cC (hl s v 0 m)).getD p.2.1 .undef)) true (.eq s2.cg (ko s.cg v ((cC (hl s v 0 m)).set p.2.1 (.ref s.bb 0 0 0 false))) (.eq (n_ [(iN v p.2.1,.ref s.bb 0 0 false)]) true (.eq (iv s) true (uu n r s2 K))))
   | none=> .no
theorem zj [cw] [FZ] {n:Nat} (ao:n≤1000000) {R:Exit→TS→Prop} {K:TS→aJ}: ∀{l:List (Nat×Nat×aU)} {s:TS},Fits s→(uu n l s K).den R→ ∃s',Weak (s.ay n) (s'.ay n)∧Fits s'∧(K s').den R
 | [],s,aH,h=>⟨s,.refl _,aH,h⟩
 | (p,q,e)::r,s,aH,h=>by
  unfold uu at h
  simp only at h
  split at h
  ·obtain⟨h1,h2,eo,h⟩:=h
   obtain⟨s',w,hf,h⟩:=zj ao (yj ao (o_ aH)) h
   refine⟨s',Weak.trans ?_ w,hf,h⟩
   have cc:(cx n s (.tmp q)).bq=(s.ay n).T.getD q .undef:=(congrFun (ki n s) (.tmp q)).symm
   rw[cc] at h1
   have:=Weak.RL q e.jB (L:=(s.ay n).L) (H:=(s.ay n).H) h1
   rw[yk ao]
   show Weak _ ⟨putA ((s.gv s.bb (s.bb+1) _).tT n) _ _,(s.gv s.bb (s.bb+1) _).cg,((s.gv s.bb (s.bb+1) _).ay n).H⟩
   rw[o9 ao,h2,zu eo]
   rw[B2 eo] at this
   exact this
  ·rename_i v
   split at h
   ·rename_i m hm
    obtain⟨h1,h2,c5,eo,h⟩:=h
    obtain⟨s',w,hf,h⟩:=zj ao (wT c5 (o_ aH)) h
    refine⟨s',Weak.trans ?_ w,hf,h⟩
    have:=Weak.CB v q e.jB (T:=(s.ay n).T) (H:=(s.ay n).H) (show dZ (s.ay n).L v=some (cC (hl s v 0 m)) by rw[tV,hm];rfl) h1
    rw[B2 eo] at this
    show Weak _ ⟨(TS.add _ _ _ _).tT n,(TS.add _ _ _ _).cg,((TS.add _ _ _ _).ay n).H⟩
    rw[h2,wS ao c5,o9 ao]
    have dq:=wR (n:=n) (s:=s.gv s.bb (s.bb+1) (.blk 0 e [] 0 rfl)) (vs:=(s.gv s.bb (s.bb+1) (.blk 0 e [] 0 rfl)).vs) c5
    rw[dq,zu eo]
    exact this
   ·exact h.elim
theorem Tn {e:aU} (h:e.nU=true) (x:e.T): ∀a∈cq true e x,iB a=true∧mZ a=true:=by
 have key:(cq true e x).all (fun a=>iB a&&mZ a)=true:=by cases e<;>first | rfl | cases h
 intro a aF
 have:=List.all_eq_true.1 key a aF
 rwa [Bool.and_eq_true] at this
theorem ael (e:aU) (x:e.T):(cq true e x).map hX=cq false e x:=by
 rw[←ml,←ml]
 have key: ∀(es:List aU) (y:cA es),(h8 true es y).map hX=h8 false es y:=by
  intro es
  induction es with
  | nil=>intro y;rfl
  | cons e r bE=>
   intro y
   show hX (iE true e y.1)::(h8 true r y.2).map hX=_
   rw[bE,h8]
   congr 1
   cases e<;>rfl
 exact key _ _
def xc (jf:Option Nat) (n:Nat):List (Nat×Nat)→TS→(TS→aJ)→aJ
 | [],s,K=>K s
 | p::r,s,K=>match s.get (match p.1 with
   | 0=>p.2
   | v+1=>iN v p.2) with
  | .ref b g m _=>(match jf with
   | some k=>(match Nat.ble k b with
    | true=>p7 s b g fun e xs e3 h=>
     let s1:=s.gv b s.bb (.blk (g+1) e [] 0 rfl)
     match p.1 with
     | 0=> .eq (Nat.blt p.2 n) true (.eq e3 m (.eq e.nU true (.eq s1.cg s.cg (.p (xs.length≤4611686018427387904) (xc jf n r (jG n s1 (some p.2) (.l e xs false true)) K)))))
     | v+1=>
      let s2:=s1.add [(iN v p.2,.l e xs false true)] s1.vs s1.bb
      match j4 s.vs v with
      | some gY=> .eq (Nat.blt p.2 gY&&n_ [(iN v p.2,TV.l e xs false true)]) true (.eq e3 m (.eq e.nU true (.eq s2.cg (ko s.cg v ((cC (hl s v 0 gY)).set p.2 (TV.l e xs false true).bq)) (.p (xs.length≤4611686018427387904) (xc jf n r s2 K)))))
      | none=> .no
    | false=> .no)
   | none=> .no)
  | _=> .no
theorem D0 [h5:cw] [FZ] {n:Nat} (ao:n≤1000000) {jf:Option Nat} (fS: ∀k,jf=some k→h5.n≤k) {R:Exit→TS→Prop} {K:TS→aJ}: ∀{l:List (Nat×Nat)} {s:TS},Fits s→(xc jf n l s K).den R→ ∃s',Weak (s.ay n) (s'.ay n)∧Fits s'∧(K s').den R
 | [],s,aH,h=>⟨s,.refl _,aH,h⟩
 | (p,q)::r,s,aH,h=>by
  unfold xc at h
  simp only at h
  split at h
  ·rename_i b g m de nJ
   split at h
   ·rename_i k
    split at h
    ·rename_i Au
     have Kl:=Nat.le_trans (fS k rfl) (Nat.le_of_ble_eq_true Au)
     obtain⟨e,xs,e3,hm,h,hb,aB⟩:=uA (n:=n) h
     have fW: ∀row∈xs.map (cq true e),e.nU=true→ ∀a∈row,iB a=true∧mZ a=true:=fun row av aG a aF=>by
      obtain⟨x,_,rfl⟩:=List.mem_map.1 av
      exact Tn aG x a aF
     have pv:(xs.map (cq true e)).map (fun row=>row.map hX)=xs.map (cq false e):=by
      rw[List.map_map];exact List.map_congr_left fun x _=>ael e x
     cases p with
     | zero=>
      obtain⟨aI,h1,h2,aM,bx,h⟩:=h
      replace nJ:s.get q= .ref b g m de:=nJ
      obtain⟨s',w,hf,h⟩:=D0 ao fS (yj ao (o_ aH)) h
      refine⟨s',Weak.trans ?_ w,hf,h⟩
      have af:q<n:=by rw[Nat.blt_eq] at aI;exact aI
      have cc:(s.ay n).T.getD q .undef= .ref b g 0 m de:=by
       rw[yN,if_pos af,nJ];rfl
      have:=Weak.Ut q (L:=(s.ay n).L) cc (by rw[List.length_map,←h1];exact hm.symm) aB Kl (fun row av a aF=>fW row av h2 a aF) (by rw[List.length_map];exact bx)
      rw[pv] at this
      rw[yk ao]
      show Weak _ ⟨putA ((s.gv b s.bb _).tT n) _ _,(s.gv b s.bb _).cg,((s.gv b s.bb _).ay n).H⟩
      rw[o9 ao,aM,uz hb]
      exact this
     | succ v=>
      replace nJ:s.get (iN v q)= .ref b g m de:=nJ
      simp only at h
      split at h
      ·rename_i gY qq
       obtain⟨aI,h1,h2,aM,bx,h⟩:=h
       rw[Bool.and_eq_true,Nat.blt_eq] at aI
       obtain⟨s',w,hf,h⟩:=D0 ao fS (wT aI.2 (o_ aH)) h
       refine⟨s',Weak.trans ?_ w,hf,h⟩
       have hc:dZ (s.ay n).L v=some (cC (hl s v 0 gY)):=by rw[tV,qq];rfl
       have cc:(cC (hl s v 0 gY)).getD q .undef= .ref b g 0 m de:=by
        rw[List.getD_eq_getElem?_getD,zB,if_pos aI.1,Nat.zero_add,nJ];rfl
       have:=Weak.Us v q (T:=(s.ay n).T) hc cc (by rw[List.length_map,←h1];exact hm.symm) aB Kl (fun row av a aF=>fW row av h2 a aF) (by rw[List.length_map];exact bx)
       rw[pv] at this
       show Weak _ ⟨(TS.add _ _ _ _).tT n,(TS.add _ _ _ _).cg,((TS.add _ _ _ _).ay n).H⟩
       have dq:=wR (n:=n) (s:=s.gv b s.bb (.blk (g+1) e [] 0 rfl)) (vs:=(s.gv b s.bb (.blk (g+1) e [] 0 rfl)).vs) aI.2
       rw[aM,wS ao aI.2,o9 ao,dq,uz hb]
       exact this
      ·exact h.elim
    ·exact h.elim
   ·exact h.elim
  ·exact h.elim
def L1 (k:Nat):List (Nat×TV)→Bool
 | []=>false
 | p::r=>match Nat.beq p.1 k with
  | true=>true
  | false=>L1 k r
def FJ (s:TS) (il:List (Nat×TV)):List Nat→List (Nat×TV)
 | []=>[]
 | k::r=>match L1 k il with
  | true=>FJ s il r
  | false=>(k,s.get k)::FJ s il r
def QX (v:Nat):Nat→Nat→List Nat
 | _,0=>[]
 | c,m+1=>iN v c::QX v (c+1) m
def L8:List (Nat×Nat)→List Nat
 | []=>[]
 | p::r=>QX p.1 0 p.2++L8 r
def IS:Nat→List Nat
 | 0=>[]
 | b+1=>bJ b::IS b
def eb (cT:List Nat) (jA:List (Nat×Nat)) (k:Nat) (I:Int→Prop) (m:Int→Nat) (b:Int→kt):kt:= .lp [] cT jA [.int] [k] (fun v=>[(k,.i .i64 v.1)]) (fun v=>I v.1) (fun v=>m v.1) fun v=>b v.1
def aJ.zX:aJ→Bool
 | .j2 ex _=>(match ex with
  | .normal=>false
  | _=>true)
 | .hg | .no | .all _ _=>false
 | .p _ t | .jc _ t | .eq _ _ t=>t.zX
 | .ic _ _ x y | .two x y | .gX x _ _ y=>(match x.zX with
  | true=>true
  | false=>y.zX)
def sO:Code→Bool
 | .loop _=>true
 | .seq x y=>sO x || sO y
 | .cond _ x y=>sO x || sO y
 | .block _ x=>sO x
 | .scope x=>sO x
 | _=>false
def DD (iQ:List (List (Nat×TV)×List (Nat×TV))) (t:aJ):aJ:=match iQ with
 | []=>t
 | p::r=> .eq p.1 p.2 (DD r t)
theorem Js {R:Exit→TS→Prop} {t:aJ}: ∀{iQ:List (List (Nat×TV)×List (Nat×TV))},(DD iQ t).den R→(∀p∈iQ,p.1=p.2)∧t.den R
 | [],h=>⟨(fun p h=>by cases h),h⟩
 | p::r,h=>by
  obtain⟨h1,h2⟩:=h
  obtain⟨aM,bx⟩:=Js h2
  exact⟨fun q af=>by
   rcases List.mem_cons.1 af with rfl | af
   ·exact h1
   ·exact aM q af,bx⟩
structure uk (P:Program) where
 len:List Nat
 Ta:List (Nat×List Item×List (List Nat))
 n1:List (rc P)
 B9:List (o2 P)
 Ot:List (Nat×List (Nat×Nat)×List (Nat×Nat×aU))
def A0:List (Nat×List Item×List (List Nat))→Nat→(List Item→List (List Nat)→aJ)→aJ
 | [],_,_=> .no
 | p::r,id,K=>match Nat.beq p.1 id with
  | true=>K p.2.1 p.2.2
  | false=>A0 r id K
def F0:List (Nat×List (Nat×Nat)×List (Nat×Nat×aU))→Nat→List (Nat×Nat)×List (Nat×Nat×aU)
 | [],_=>([],[])
 | p::r,id=>match Nat.beq p.1 id with
  | true=>p.2
  | false=>F0 r id
section
variable {P:Program} (cf:gC P) (dR:uk P) (jf:Option Nat)
def xq (s:TS) (cT:List Nat) (jA:List (Nat×Nat)) (il:List (Nat×TV)):TS:=⟨il++FJ s il (cT++(L8 jA++(dj::IS s.bb))),[],jA,s.bb⟩
def jm:Code→TS→kt→(Exit→TS→kt→aJ)→aJ
 | .skip,s,a,K=>K .normal s a
 | .ret,s,a,K=>K .ret s a
 | .exit id,s,a,K=>K (.exit id) s a
 | .region id ops draw,s,a,K=>xc jf cf.n (F0 dR.Ot id).1 s fun s=>uu cf.n (F0 dR.Ot id).2 s fun s=>(match draw with
  | false=>BI cf ⟨dR.len,dR.n1,dR.B9⟩ ops ops.toList s fun s=>K .normal s a
  | true=>A0 dR.Ta id fun ord jn=>Dm cf ⟨dR.len,dR.n1,dR.B9⟩ ops ord jn s fun s=>K .normal s a)
 | .seq x y,s,a,K=>(match sO x with
  | true=>jm x s a fun ex s a=>match ex with
   | .normal=>jm y s a K
   | ex=>K ex s a
  | false=>match(jm x s a fun ex s _=> .j2 ex s).lY with
   | .some S iQ=>DD iQ (.gX ((jm x s a fun ex s _=> .j2 ex s).bind fun ex s=>match ex with
    | .normal=> .hg
    | ex=>K ex s a.fst) (jm x s a fun ex s _=> .j2 ex s).facts (jm x s a fun ex s _=> .j2 ex s).ky (jm y S (match(jm x s a fun ex s _=> .j2 ex s).zX with
    | true=>a.snd
    | false=>a) K))
   | _=>jm x s a fun ex s a=>match ex with
    | .normal=>jm y s a K
    | ex=>K ex s a)
 | .cond c x y,s,a,K=>(match cx cf.n s c with
  | .b z=>BX z s fun b s=>match b with
   | true=>jm x s a.fst K
   | false=>jm y s a.snd K
  | _=> .no)
 | .block id c,s,a,K=>jm c s a fun ex s a=>match ex with
  | .exit fX=>(match Nat.beq fX id with
   | true=>K .normal s a
   | false=>K (.exit fX) s a)
  | ex=>K ex s a
 | .loop c,s,a,K=>(match a with
  | .lp kT cT jA jR rd il I m b=>uu cf.n kT s fun s=>BC s jR rd fun v0=>toHead jf s (xq s cT jA (il v0)) (.p (I v0) (CC jR fun v=> .jc (I v) (jm c (xq s cT jA (il v)) (b v) fun ex s' a=>match ex with
   | .normal=>BC s' jR rd fun ec=>toHead jf s' (xq s cT jA (il ec)) (.p (I ec∧m ec<m v) .hg)
   | ex=>K ex s' a)))
  | _=> .no)
 | _,_,_,_=> .no
end
section
variable {P:Program} {cf:gC P} {dR:uk P}
theorem ZO {R:Exit→TS→Prop} {l:List (Nat×List Item×List (List Nat))} {id:Nat} {K:List Item→List (List Nat)→aJ} (h:(A0 l id K).den R): ∃o A,(K o A).den R:=by
 induction l with
 | nil=>exact h.elim
 | cons p r bE=>
  unfold A0 at h
  split at h
  ·exact⟨_,_,h⟩
  ·exact bE h
theorem Tb [cw] (ao:cf.n≤1000000) {dR:o4 P} {R:Exit→TS→Prop} {ops:Array Oper} {ord:List Item} {jn:List (List Nat)} {s:TS} {K:TS→aJ} {Q:Exit→St→Prop} {id:Nat} (hK: ∀s (Z:FZ),(K s).den R→ @Fits Z s→Q .normal (@TS.ay Z cf.n s)) (Z:FZ) (aH:Fits s) (h:(Dm cf dR ops ord jn s K).den R):WpS P (.region id ops true) Q (s.ay cf.n):=by
 unfold Dm at h
 simp only at h
 split at h
 ·exact h.elim
 ·rename_i hb
  obtain⟨h1,h2,aM,bx,c9,lP,qh,h⟩:=h
  rw[B1]
  refine WpS.OO (esc:=[]) ord jn h1 h2 aM rfl _ lP qh ?_
  have:=OS ao (Kp:=fun T L H=>Q .normal ⟨T,L,H⟩) (fun s Z hs hf=>hK s Z hs hf) ord Z _ (wT hb aH) bx h
  rw[c9,wR hb,wS ao hb] at this
  exact this
theorem Q3 [h5:cw] (ao:cf.n≤1000000) {jf:Option Nat} (fS: ∀k,jf=some k→h5.n≤k): ∀(c:Code) {R:Exit→TS→Prop} {s:TS} {a:kt} {K:Exit→TS→kt→aJ} {Q:Exit→St→Prop},(∀ex s a (Z:FZ),(K ex s a).den R→ @Fits Z s→Q ex (@TS.ay Z cf.n s))→ ∀Z:FZ,@Fits Z s→(jm cf dR jf c s a K).den R→WpS P c Q (@TS.ay Z cf.n s):=by
 intro c
 induction c with
 | skip=>intro R s a K Q hK Z aH h;exact WpS.skip (hK _ _ _ Z h aH)
 | ret=>intro R s a K Q hK Z aH h;exact WpS.ret (hK _ _ _ Z h aH)
 | exit id=>intro R s a K Q hK Z aH h;exact WpS.exit (hK _ _ _ Z h aH)
 | region id ops draw=>
  intro R s a K Q hK Z aH h
  obtain⟨s1,bz,px,h⟩:=D0 ao fS aH h
  obtain⟨s2,bM,rO,h⟩:=zj ao px h
  refine WpS.ra ?_ (bz.trans bM)
  cases draw with
  | false=>
   rw[B1]
   refine WpS.OP (esc:=[]) rfl ?_
   exact GO ao (Kp:=fun T L H=>Q .normal ⟨T,L,H⟩) (fun s Z hs hf=>hK _ s _ Z hs hf) ops.toList Z s2 rO h
  | true=>
   obtain⟨ord,jn,h⟩:=ZO h
   exact Tb ao (fun s Z hs hf=>hK _ s _ Z hs hf) Z rO h
 | cond c x y ho gW=>
  intro R s a K Q hK Z aH h
  unfold jm at h
  split at h
  ·rename_i z pw
   obtain⟨s',aR,e2,h⟩:=HE (n:=cf.n) h
   have hf:=aH.congr fun k _ _=>e2 k
   rw[←aR]
   have hc:cb (s'.ay cf.n).T c= .bool z.den:=by
    rw[aR,congrFun (ki cf.n s) c]
    show(cx cf.n s c).bq=_
    rw[pw];rfl
   refine WpS.cond ?_
   rw[hc]
   refine⟨fun hb=> ?_,fun hb=> ?_⟩
   ·rw[hb] at h;exact ho hK Z hf h
   ·rw[hb] at h;exact gW hK Z hf h
  ·exact h.elim
 | block id c bE=>
  intro R s a K Q hK Z aH h
  refine WpS.block (bE (K:=fun ex s a=>match ex with
   | .exit fX=>(match Nat.beq fX id with
    | true=>K .normal s a
    | false=>K (.exit fX) s a)
   | ex=>K ex s a) (fun ex s a Z hs hf=> ?_) Z aH h)
  cases ex with
  | exit fX=>
   show if fX=id then _ else _
   have hs:(match Nat.beq fX id with
    | true=>K .normal s a
    | false=>K (.exit fX) s a).den R:=hs
   split at hs
   ·rename_i hb;rw[if_pos (Nat.eq_of_beq_eq_true hb)];exact hK _ _ _ Z hs hf
   ·rename_i hb
    rw[if_neg fun e=>by subst e;rw[Nat.beq_refl] at hb;cases hb];exact hK _ _ _ Z hs hf
  | _=>exact hK _ _ _ Z hs hf
 | seq x y K7 K8=>
  intro R s a K Q hK Z aH h
  have Jd:(jm cf dR jf x s a fun ex s a=>match ex with
   | .normal=>jm cf dR jf y s a K
   | ex=>K ex s a).den R→WpS P (.seq x y) Q (s.ay cf.n):=fun h=>by
   refine WpS.seq (K7 (fun ex s a Z hs hf=> ?_) Z aH h)
   cases ex with
   | normal=>exact K8 hK Z hf hs
   | _=>exact hK _ _ _ Z hs hf
  unfold jm at h
  split at h
  ·exact Jd h
  ·split at h
   ·rename_i S iQ hm
    obtain⟨af,h⟩:=Js h
    obtain⟨h1,h2⟩:=h
    rw[aJ.R6] at h1
    have aM:=aJ.Z4 hm af h1
    refine WpS.seq (K7 (K:=fun ex s _=> .j2 ex s) (fun ex s' gk Z hs hf=> ?_) Z aH aM)
    have hs:_∧(ex= .normal→s'.gj S∧_∧_):=hs
    cases ex with
    | normal=>
     obtain⟨q1,q2,q3⟩:=hs.2 rfl
     exact WpS.ra (K8 hK Z (hf.le q1) (h2 (TB q3 q2))) (aeB ao q1)
    | _=>exact hK _ _ _ Z hs.1 hf
   ·exact Jd h
 | loop c bE=>
  intro R s a K Q hK Z aH h
  unfold jm at h
  split at h
  ·rename_i kT cT jA jR rd il I m b
   obtain⟨s1,bz,px,h⟩:=zj ao aH h
   obtain⟨v0,h⟩:=GG h
   obtain⟨bM,rO,h⟩:=toHead_sound (n:=cf.n) ao fS rfl px h
   obtain⟨aI,h⟩:=h
   have hv:=Ix h
   refine WpS.Nq (V:=cA jR×FZ) (fun v=> @TS.ay v.2 cf.n (xq s1 cT jA (il v.1))) (fun v=>I v.1∧ @Fits v.2 (xq s1 cT jA (il v.1))) (fun v=>m v.1) rfl (v0,Z) (bz.trans bM) ⟨aI,rO⟩ fun v a_=> ?_
   refine bE (fun ex s' a Z' hs hf=> ?_) v.2 a_.2 (hv v.1 a_.1)
   cases ex with
   | normal=>
    obtain⟨ec,hs⟩:=GG hs
    obtain⟨cU,Al,hs⟩:=toHead_sound (n:=cf.n) ao fS rfl hf hs
    exact⟨(ec,Z'),⟨hs.1.1,Al⟩,hs.1.2,cU⟩
   | _=>exact hK _ _ _ Z' hs hf
  ·exact h.elim
 | _=>intro R s a K Q hK Z aH h;exact h.elim
end
def vJ:(e:aU)→e.T→TV
 | .ptr e,x=> .da e x 0
 | .hG f .unit,_=> .fn f []
 | .hG f e,x=> .fn f [vJ e x]
 | e,x=>match e.isS with
  | true=> .agg (iC false e x)
  | false=>yV false e x
theorem aaR: ∀(e:aU) (x:e.T),(vJ e x).bq=mX e x:=by
 have bi: ∀(e:aU) (x:e.T),(match e.isS with
  | true=>TV.agg (iC false e x)
  | false=>yV false e x).bq=match e.isS with
  | true=> .agg (cq false e x)
  | false=>iE false e x:=fun e x=>by
  cases e.isS with
  | true=>show AV.agg (cC _)=_;rw[zA]
  | false=>exact HX false e x
 intro e
 induction e with
 | hG f e bE=>
  intro x
  have key:vJ (.hG f e) x= .fn f [vJ e x]→mX (.hG f e) x= .fn f [mX e x]→(vJ (.hG f e) x).bq=mX (.hG f e) x:=fun h1 h2=>by
   rw[h1,h2,←bE x];rfl
  cases e with
  | unit=>rfl
  | _=>exact key rfl rfl
 | ptr e bE=>intro x;rfl
 | _=>intro x;exact bi _ x
def tv:Nat→(es:List aU)→cA es→List (Nat×TV)
 | _,[],_=>[]
 | i,e::r,x=>(i,vJ e x.1)::tv (i+1) r x.2
def nM (ps:List aU) (x:cA ps):TS:=⟨tv 0 ps x,[],[],0⟩
theorem N4: ∀(es:List aU) (x:cA es) (i t:Nat),(gG (tv i es x) t .u).bq=if t<i then .undef else(mm es x).getD (t - i) .undef
 | [],x,i,t=>by
  show AV.undef=_
  split<;>simp[mm]
 | e::r,x,i,t=>by
  rw[tv,gP,mm]
  by_cases h:i=t
  ·subst h
   rw[if_pos rfl,if_neg (by omega),Nat.sub_self,aaR];rfl
  ·rw[if_neg h,N4 r x.2 (i+1) t]
   by_cases h2:t<i
   ·rw[if_pos (by omega),if_pos h2]
   ·rw[if_neg (by omega),if_neg h2,show t - i=(t - (i+1))+1 by omega];rfl
theorem Jo: ∀(es:List aU) (x:cA es),(mm es x).length=es.length
 | [],_=>rfl
 | e::r,x=>by rw[mm,List.length_cons,List.length_cons,Jo r]
theorem FC (ps:List aU) (x:cA ps) (h:ps.length≤1000000):iv (nM ps x)=true:=by
 have key: ∀(es:List aU) (y:cA es) (i:Nat),i+es.length≤1000000→ ∀v,(dj,v) ∉ tv i es y:=by
  intro es
  induction es with
  | nil=>intro y i _ v hv;cases hv
  | cons e r bE=>
   intro y i hi v hv
   simp only[List.length_cons] at hi
   rcases List.mem_cons.1 hv with e | hv
   ·injection e with e _;unfold dj at e;omega
   ·exact bE y.2 (i+1) (by omega) v hv
 unfold iv
 have:(nM ps x).get dj= .u:=by
  show gG (tv 0 ps x) dj (gG [] dj .u)=_
  rw[rT (key ps x 0 (by omega))];rfl
 rw[this]
theorem L2 [FZ] {fn:Func} {ps:List aU} {x:cA ps} (h:ps.length≤fn.ntmps) (aE:ps.length≤1000000):AQ fn (mm ps x) []=(nM ps x).ay fn.ntmps:=by
 have cc:mm ps x++List.replicate (fn.ntmps - (mm ps x).length) AV.undef=((nM ps x).ay fn.ntmps).T:=by
  apply List.ext_getElem?
  intro t
  show _=((List.range fn.ntmps).map fun t=>((nM ps x).get t).bq)[t]?
  rw[List.getElem?_map]
  rcases Nat.lt_or_ge t fn.ntmps with aE | aE
  ·rw[List.getElem?_range aE]
   show _=some (gG (tv 0 ps x) t .u).bq
   rw[N4,if_neg (by omega),Nat.sub_zero]
   rcases Nat.lt_or_ge t (mm ps x).length with h1 | h1
   ·rw[List.getElem?_append_left h1,List.getD_eq_getElem?_getD,List.getElem?_eq_getElem h1];rfl
   ·rw[List.getElem?_append_right h1,List.getElem?_replicate,if_pos (by omega),List.getD_eq_getElem?_getD,List.getElem?_eq_none h1];rfl
  ·rw[List.getElem?_eq_none (l:=List.range fn.ntmps) (by simpa using aE),List.getElem?_eq_none]
   ·rfl
   ·rw[List.length_append,List.length_replicate,Jo];omega
 have aB:((nM ps x).ay fn.ntmps).H=[]:=by
  show(nM ps x).f_++gN (nM ps x)=[]
  unfold gN;rw[FC ps x aE];rfl
 show(⟨_,[],[]⟩:St)=⟨((nM ps x).ay fn.ntmps).T,[],((nM ps x).ay fn.ntmps).H⟩
 rw[cc,aB]
def z8 (s:TS):(e:aU)→TV→e.T→aJ→aJ
 | .int,v,r,t=>(match v with
  | .i k m=>if k= .i64 then .p (m=r) t else .no
  | _=> .no)
 | .u64,v,r,t=>(match v with
  | .i k m=>if k= .u64 then .p (m=r) t else .no
  | _=> .no)
 | .bool,v,r,t=>(match v with
  | .b x=> .p (x.den=r) t
  | _=> .no)
 | .str,v,r,t=>(match v with
  | .s x=> .p (x=r) t
  | _=> .no)
 | .l e,v,r,t=>(match v with
  | .l b3 xs _ fr=>(match fr with
   | true=>if h:b3=e then .p (kX h xs=r) t else .no
   | false=> .no)
  | .nil _ _=> .p ([]=r) t
  | .ref b g m _=>p7 s b g fun b3 xs e3 _=>if h:b3=e then .eq e.nU true (.eq e3 m (.p (xs.length≤4611686018427387904∧kX h xs=r) t)) else .no
  | _=> .no)
 | _,_,_,_=> .no
def DQ (s:TS):(es:List aU)→List TV→cA es→aJ→aJ
 | [],[],_,t=>t
 | e::r,v::vs,x,t=>z8 s e v x.1 (DQ s r vs x.2 t)
 | _,_,_,_=> .no
def z_ (s:TS) (e:aU) (v:TV) (r:e.T) (t:aJ):aJ:=match e.isS with
 | true=>(match v with
  | .agg c=>DQ s e.b2 c (e.un r) t
  | _=> .no)
 | false=>z8 s e v r t
def DP (s:TS):(es:List aU)→List TV→cA es→aJ→aJ
 | [],[],_,t=>t
 | e::r,v::vs,x,t=>z_ s e v x.1 (DP s r vs x.2 t)
 | _,_,_,_=> .no
def GJ (P:Program) (n:Nat) (s:TS):ResultVar→TV
 | .tmp t=>cx n s (.tmp t)
 | .cell a t=>(match cx n s (.tmp a) with
  | .lp v c=>(match j4 s.vs v with
   | some m=>tY P t (hl s v 0 m) c
   | none=> .u)
  | _=> .u)
def qb (P:Program) (n:Nat) (fn:Func) (rs:List aU) (r:cA rs) (s:TS):aJ:=
 let vs:=fn.results.toList.map (GJ P n s)
 .eq (fun H Q=>qY P ⟨s.tT n,s.cg,H⟩ fn.results.toList Q) (fun _ Q=>Q (cC vs)) (.eq ((cC vs).all jC) true (DP s rs vs r .hg))
section
variable {n:Nat} {s:TS} {R:Exit→TS→Prop} {t:aJ}
theorem SG {H:List Blk} (e:aU) (x:e.T) (h:e.nU=true):j9 H (cq true e x) (cq false e x):=by
 cases e with
 | int=>exact Sl x
 | u64=>exact .cons (.int _ _) rfl .nil
 | u8=>exact Sn x
 | bool=>exact CQ x
 | str=>exact Sm x
 | bO=>exact IV x
 | ei=>exact So x
 | eh=>exact .cons (.int _ _) rfl (.cons (jU _) rfl (.cons (jU _) rfl (.cons (jU _) rfl (.cons (.int _ _) rfl .nil))))
 | mo=>exact Sj x
 | ev=>exact IW x
 | held=>exact Sk x
 | frame=>exact .cons (.bool _) rfl (.cons (jU _) rfl (.cons (jU _) rfl (.cons (jU _) rfl .nil)))
 | done=>exact Si x
 | fault=>exact .cons (.int _ _) rfl (.cons (.int _ _) rfl .nil)
 | stays=>exact .cons (jU _) rfl (.cons (jU _) rfl (.cons (jU _) rfl .nil))
 | gx=>exact .cons (jU _) rfl (.cons (.int _ _) rfl (.cons (.int _ _) rfl .nil))
 | l e=>exact .cons (jU _) rfl .nil
 | _=>cases h
end
section
variable [FZ] {n:Nat} {s:TS} {R:Exit→TS→Prop} {t:aJ}
theorem JH {e:aU} {v:TV} {r:e.T} (h:(z8 s e v r t).den R):ft (s.ay n).H v.bq (iE true e r)∧t.den R:=by
 cases e with
 | int=>
  have h:(match v with
   | .i k m=>if k=IntKind.i64 then aJ.p (m=r) t else .no
   | _=> .no).den R:=h
  split at h
  ·split at h
   ·rename_i hk;subst hk;exact⟨Qz h.1,h.2⟩
   ·exact h.elim
  ·exact h.elim
 | u64=>
  have h:(match v with
   | .i k m=>if k=IntKind.u64 then aJ.p (m=r) t else .no
   | _=> .no).den R:=h
  split at h
  ·split at h
   ·rename_i hk;subst hk;exact⟨Qz h.1,h.2⟩
   ·exact h.elim
  ·exact h.elim
 | bool=>
  have h:(match v with
   | .b x=>aJ.p (x.den=r) t
   | _=> .no).den R:=h
  split at h
  ·exact⟨tS h.1,h.2⟩
  ·exact h.elim
 | str=>
  have h:(match v with
   | .s x=>aJ.p (x=r) t
   | _=> .no).den R:=h
  split at h
  ·exact⟨adZ h.1,h.2⟩
  ·exact h.elim
 | l e=>
  have h:(match v with
   | .l b3 xs _ fr=>(match fr with
    | true=>if h:b3=e then aJ.p (kX h xs=r) t else .no
    | false=> .no)
   | .nil _ _=> .p ([]=r) t
   | .ref b g m _=>p7 s b g fun b3 xs e3 _=>if h:b3=e then .eq e.nU true (.eq e3 m (.p (xs.length≤4611686018427387904∧kX h xs=r) t)) else .no
   | _=> .no).den R:=h
  split at h
  ·split at h
   ·split at h
    ·rename_i he;subst he;exact⟨adX (e:=cq false _) h.1,h.2⟩
    ·exact h.elim
   ·exact h.elim
  ·exact⟨adY (e:=cq false e) h.1,h.2⟩
  ·rename_i b g m de
   obtain⟨b3,xs,e3,hm,h,hb,aB⟩:=uA (n:=n) h
   split at h
   ·rename_i he
    subst he
    obtain⟨aI,h1,h2,aM⟩:=h
    subst h1
    subst hm
    exact⟨Qy (eT:=cq true b3) (eF:=cq false b3) aB (fun x=>SG b3 x aI) h2,aM⟩
   ·exact h.elim
  ·exact h.elim
 | _=>exact h.elim
theorem JJ: ∀{es:List aU} {vs:List TV} {r:cA es},(DQ s es vs r t).den R→aO (ft (s.ay n).H) (cC vs) (h8 true es r)∧t.den R
 | [],[],_,h=>⟨aO.nil,h⟩
 | e::r,v::vs,x,h=>by
  obtain⟨h1,h2⟩:=JH (n:=n) (show(z8 s e v x.1 _).den R from h)
  obtain⟨aM,bx⟩:=JJ h2
  exact⟨aO.cons h1 aM,bx⟩
 | [],_::_,_,h=>h.elim
 | _::_,[],_,h=>h.elim
theorem TK {e:aU} {v:TV} {r:e.T} (h:(z_ s e v r t).den R):rj (s.ay n).H v.bq (nF e r)∧t.den R:=by
 unfold z_ at h
 unfold nF
 cases db:e.isS with
 | true=>
  rw[db] at h
  simp only at h
  split at h
  ·rename_i c
   obtain⟨h1,h2⟩:=JJ (n:=n) h
   refine⟨.inl ⟨cC c,cq true e r,rfl,rfl,?_⟩,h2⟩
   rw[←ml];exact h1
  ·exact h.elim
 | false=>
  rw[db] at h
  obtain⟨h1,h2⟩:=JH (n:=n) h
  exact⟨.inr h1,h2⟩
theorem JI: ∀{es:List aU} {vs:List TV} {r:cA es},(DP s es vs r t).den R→aO (rj (s.ay n).H) (cC vs) (oc es r)∧t.den R
 | [],[],_,h=>⟨aO.nil,h⟩
 | e::r,v::vs,x,h=>by
  obtain⟨h1,h2⟩:=TK (n:=n) (show(z_ s e v x.1 _).den R from h)
  obtain⟨aM,bx⟩:=JI h2
  exact⟨aO.cons h1 aM,bx⟩
 | [],_::_,_,h=>h.elim
 | _::_,[],_,h=>h.elim
theorem DR {P:Program} {fn:Func} {rs:List aU} {r:cA rs} (h:(qb P n fn rs r s).den R):sb P fn (s.ay n) fun v H=>jQ H v (pd rs r):=by
 unfold qb at h
 simp only at h
 obtain⟨h1,h2,aM⟩:=h
 unfold sb
 have uX:qY P (s.ay n) fn.results.toList=_:=congrFun h1 (s.ay n).H
 rw[congrFun uX]
 refine⟨h2,?_⟩
 obtain⟨bx,_⟩:=JI (n:=n) aM
 have key: ∀(rs:List aU) (r:cA rs) (l:List AV),aO (rj (s.ay n).H) l (oc rs r)→jQ (s.ay n).H (pZ l) (pd rs r):=by
  intro rs r l ai
  match rs,r,l with
  | [],_,[]=>exact .inl ⟨[],[],rfl,rfl,aO.nil⟩
  | [],_,_::_=>have:=ai.1;simp[oc] at this
  | [e],r,[]=>have:=ai.1;simp[oc] at this
  | [e],r,[v]=>exact .inr ai.head
  | [e],r,_::_::_=>have:=ai.1;simp[oc] at this
  | e::b3::rs,r,[]=>have:=ai.1;simp[oc] at this
  | e::b3::rs,r,[v]=>have:=ai.1;simp[oc] at this
  | e::b3::rs,r,v::w::l=>exact .inl ⟨_,_,rfl,rfl,ai⟩
 exact key rs r _ bx
end
def HU {P:Program} (cf:gC P) (dR:uk P) (fn:Func) (ps rs:List aU) (x:cA ps) (r:cA rs) (a:kt):aJ:=jm cf dR (some 0) (jS fn) (nM ps x) a fun ex s _=>match ex with
 | .normal=>qb P cf.n fn rs r s
 | .ret=>qb P cf.n fn rs r s
 | _=> .no
theorem bg.run {P:Program} {f:FuncId} {fn:Func} {ps rs:List aU} {x:cA ps} {r:cA rs} (cf:gC P) (dR:uk P) (a:kt) {C:Prop} (hf:P.funcs[f]?=some fn) (h:C) (e:C=(HU cf dR fn ps rs x r a).mT.den:=by kernel_rfl)
  (e2:(HU cf dR fn ps rs x r a).lhs=(HU cf dR fn ps rs x r a).rhs:=by kernel_rfl) (hb:fn.body=some (jS fn):=by kernel_rfl) (hm:(fn.name== "runtime.NumGoroutine")=false:=by kernel_rfl)
  (ao:(Nat.beq cf.n fn.ntmps&&Nat.ble cf.n 1000000&&Nat.ble ps.length cf.n)=true:=by kernel_rfl):bg P f (mm ps x) (pd rs r):=by
 simp only[Bool.and_eq_true] at ao
 have h1:=Nat.eq_of_beq_eq_true ao.1.1
 have h2:=Nat.le_of_ble_eq_true ao.1.2
 have aM:=Nat.le_of_ble_eq_true ao.2
 refine dw.Gg hf hb hm fun h5 fS=> ?_
 rw[@L2 ⟨[],[]⟩ fn ps x (by rw[←h1];exact aM) (by omega),←h1]
 refine Q3 h2 (fun k e=>by cases e;rw[fS];exact Nat.le_refl _) (jS fn) (R:=fun _ _=>True) (K:=fun ex s _=>match ex with
  | .normal=>qb P cf.n fn rs r s
  | .ret=>qb P cf.n fn rs r s
  | _=> .no) (fun ex s _ Z hs hf=> ?_) ⟨[],[]⟩ (@Fits.none ⟨[],[]⟩ _ (FC ps x (by omega))) (aJ.full (e▸h) e2)
 cases ex with
 | normal=>exact DR hs
 | ret=>exact DR hs
 | _=>exact hs.elim
def Env.ro (w:World) (B:Nat→Prop):Env:={w:=w,PA:=B,PF:=fun _=>False,m:=fun _=>none,bi:=fun _=>0,sz:=fun _=>0,cp:=fun _=>0,mL:=fun _=>none}
def dX (w:World) (B:Nat→Prop) (a:AV) (v:Value):Prop:=V2 (Env.ro w B) a v
theorem dX.cT {w w':World} {B B':Nat→Prop} {a:AV} {v:Value} (h:dX w B a v) (hk: ∀c,B c→w'.heap[c]?=w.heap[c]?) (hs: ∀c,B c→B' c):dX w' B' a v:=
 V2.le (E:=Env.ro w B) (E':=Env.ro w' B') ⟨hs,fun _ h=>h.elim,hk,fun _ h=>h.elim,fun _=>Nat.le_refl _,(fun _ _ h _=>by cases h),(fun _ _ h=>by cases h)⟩ h
theorem dX.at {w:World} {B:Nat→Prop} {a:AV} {v:Value} (h:dX w B a v) (aE: ∀c,B c→c<w.heap.size):V2 (Env.at w) a v:=dX.cT (B':=fun c=>c<w.heap.size) h (fun _ _=>rfl) aE
def eG (w w':World) (c:Nat):Prop:=w.heap.size≤c∧c<w'.heap.size∧Plain w' c
def zR (e:aU) (x:e.T):AV:=match e.isS with
 | true=> .agg (cq false e x)
 | false=>iE false e x
theorem aW.hX {w:World} {PA PF B:Nat→Prop} (ai: ∀c,PF c→B c) (aF: ∀c,PA c→B c) {e:aU} {x:e.T} {v:Value} (h:aW w PA PF (iE true e x) v):aW w B (fun _=>False) (iE false e x) v:=by
 cases e with
 | l e=>
  cases h with
  | aV eU e1 fG cd dQ hrel=>exact .aV (fun c hc=>ai c (by simpa using eU c hc)) e1 fG cd dQ hrel
 | int=>cases h;exact .int _ _
 | u64=>cases h;exact .int _ _
 | u8=>cases h;exact .int _ _
 | bool=>cases h;exact .bool _
 | str=>cases h;exact .str _
 | _=>exact .undef _
theorem HZ {w:World} {PA PF B:Nat→Prop} (ai: ∀c,PF c→B c) (aF: ∀c,PA c→B c): ∀{es:List aU} {x:cA es} {vs:List Value},aO (fun a v=>aW w PA PF a v) (h8 true es x) vs→aO (b1 (Env.ro w B)) (h8 false es x) vs
 | [],_,vs,h=>by obtain rfl:=h.lZ;exact aO.nil
 | e::r,x,vs,h=>by
  obtain⟨v,vs,rfl,h1,h2⟩:=h.cons_inv
  exact aO.cons (aW.v1 (E:=Env.ro w B) (aW.hX ai aF h1)) (HZ ai aF h2)
theorem H4 {E:Env} {fr:Bool} {e:aU} {x:e.T} {v:Value} (h:b1 E (iE fr e x) v):aW E.w E.PA E.PF (iE fr e x) v:=by
 cases e<;>exact h
theorem Cc {E:Env} {fr:Bool}: ∀{es:List aU} {x:cA es} {vs:List Value},aO (b1 E) (h8 fr es x) vs→aO (fun a v=>aW E.w E.PA E.PF a v) (h8 fr es x) vs
 | [],_,vs,h=>by obtain rfl:=h.lZ;exact aO.nil
 | e::r,x,vs,h=>by
  obtain⟨v,vs,rfl,h1,h2⟩:=h.cons_inv
  exact aO.cons (H4 h1) (Cc h2)
theorem aW.x8 {w:World} {PA PF B:Nat→Prop} (aF: ∀c,PA c→B c) {e:aU} {x:e.T} {v:Value} (h:aW w PA PF (iE false e x) v):aW w B (fun _=>False) (iE false e x) v:=by
 cases e with
 | l e=>
  cases h with
  | aV eU e1 fG cd dQ hrel=>exact .aV (fun c hc=>aF c (by simpa using eU c hc)) e1 fG cd dQ hrel
 | int=>cases h;exact .int _ _
 | u64=>cases h;exact .int _ _
 | u8=>cases h;exact .int _ _
 | bool=>cases h;exact .bool _
 | str=>cases h;exact .str _
 | _=>exact .undef _
theorem NJ {w:World} {PA PF B:Nat→Prop} (aF: ∀c,PA c→B c): ∀{es:List aU} {x:cA es} {vs:List Value},aO (fun a v=>aW w PA PF a v) (h8 false es x) vs→aO (b1 (Env.ro w B)) (h8 false es x) vs
 | [],_,vs,h=>by obtain rfl:=h.lZ;exact aO.nil
 | e::r,x,vs,h=>by
  obtain⟨v,vs,rfl,h1,h2⟩:=h.cons_inv
  exact aO.cons (aW.v1 (E:=Env.ro w B) (aW.x8 aF h1)) (NJ aF h2)
theorem Q1 {e:aU} {x:e.T} {w:World} {v:Value} (h:V2 (Env.wd w) (.agg (cq false e x)) v):dX w (fun c=>c<w.heap.size) (.agg (cq false e x)) v:=by
 obtain⟨ew,rfl,ai⟩:=(show ∃ew:List Value,v= .agg ew.toArray∧aO (b1 _) (cq false e x) ew from h)
 refine⟨ew,rfl,?_⟩
 rw[←ml] at ai ⊢
 exact NJ (fun _ h=>h) (Cc ai)
theorem bg.yU {P:Program} {f:FuncId} {args:List AV} {e:aU} {x:e.T} (h:bg P f args (nF e x)) {w:World} {vs:List Value} (aF:aO (V2 (Env.at w)) args vs):
  Calls P f vs.toArray w fun iD w'=> ∃v,iD= .returned v∧RowKit.Below w.heap.size w w'∧dX w' (eG w w') (zR e x) v:=by
 refine(h.2 (Env.at w) vs (fun _=>rfl) (CE w) aF).mono ?_
 rintro iD w' ⟨r,v,H',E',rfl,av,rfl,ao,hs,hv,a8⟩
 have hb:RowKit.Below w.heap.size w E'.w:=⟨a8.os,a8.tape,a8.output,a8.size,fun k hk=>a8.cT k hk (fun⟨b,hb⟩=>by cases hb) (fun⟨b,hb⟩=>by cases hb)⟩
 have iH: ∀c,E'.PF c∨E'.fk c→eG w E'.w c:=fun c hc=>by
  rcases hc with hc | hc
  ·exact⟨(a8.e9 c hc).elim (fun h=>h.elim) id,hs.dy c (hs.dr c hc),hs.fh c hc⟩
  ·exact⟨(a8.nL c hc).elim (fun⟨b,hb⟩=>by cases hb) id,hs.fl c hc,hs.K9 hc⟩
 have j0:V3 {Env.ro E'.w (eG w E'.w) with PF:=eG w E'.w} (nF e x) v:=Hb (E':={Env.ro E'.w (eG w E'.w) with PF:=eG w E'.w}) hs rfl (fun c hc=>⟨iH c hc,iH c hc⟩) av hv
 refine⟨v,rfl,hb,?_⟩
 unfold zR
 unfold nF at j0
 cases db:e.isS with
 | true=>
  rw[db] at j0
  obtain⟨ew,rfl,ai⟩:=(show ∃ew:List Value,v= .agg ew.toArray∧aO (b1 _) (cq true e x) ew from j0)
  refine⟨ew,rfl,?_⟩
  rw[←ml] at ai ⊢
  exact HZ (fun _ h=>h) (fun _ h=>h) (Cc ai)
 | false=>
  rw[db] at j0
  have j0:V3 {Env.ro E'.w (eG w E'.w) with PF:=eG w E'.w} (iE true e x) v:=j0
  have h1:b1 {Env.ro E'.w (eG w E'.w) with PF:=eG w E'.w} (iE true e x) v:=by cases e<;>first | exact j0 | cases db
  have:=aW.hX (B:=eG w E'.w) (fun _ h=>h) (fun _ h=>h) (H4 h1)
  exact jp (aW.v1 (E:=Env.ro E'.w (eG w E'.w)) this)
theorem bg.int {P:Program} {f:FuncId} {args:List AV} {n:Int} (h:bg P f args (.int .i64 n)) {w:World} {vs:List Value} (aF:aO (V2 (Env.at w)) args vs):
  Calls P f vs.toArray w fun iD w'=>iD= .returned (.int .i64 n)∧RowKit.Below w.heap.size w w':=
 (bg.yU (e:= .int) (x:=n) h aF).mono fun iD w' ⟨v,h1,h2,aM⟩=>by
  have aM:aW w' _ _ (.int .i64 n) v:=aM
  cases aM;exact⟨h1,h2⟩
theorem bg.bool {P:Program} {f:FuncId} {args:List AV} {b:Bool} (h:bg P f args (.bool b)) {w:World} {vs:List Value} (aF:aO (V2 (Env.at w)) args vs):
  Calls P f vs.toArray w fun iD w'=>iD= .returned (.bool b)∧RowKit.Below w.heap.size w w':=
 (bg.yU (e:= .bool) (x:=b) h aF).mono fun iD w' ⟨v,h1,h2,aM⟩=>by
  have aM:aW w' _ _ (.bool b) v:=aM
  cases aM;exact⟨h1,h2⟩
theorem q8 {w:World} {B:Nat→Prop} {rows:List (List AV)} {v:Value} (h:dX w B (.aV rows false false) v): ∃A cap,v= .slice A rows.length cap∧aW w B (fun _=>False) (.aV rows false false) v:=by
 have h:aW w B (fun _=>False) (.aV rows false false) v:=h
 cases h with
 | aV eU e1 fG cd dQ hrel=>exact⟨_,_,rfl,.aV eU e1 fG cd dQ hrel⟩
structure eS where
 lo:Nat
 hi:Nat
 P:World→Prop
 ay: ∀w w':World,(∀c,lo≤c→c<hi→w'.heap[c]?=w.heap[c]?)→P w→P w'
structure cl (W w:World) (l:List eS):Prop where
 os:w.os=W.os
 tape:w.tape=W.tape
 output:w.output=W.output
 size:W.heap.size≤w.heap.size
 jg: ∀c,c<W.heap.size→w.heap[c]?=W.heap[c]?
 ord:l.Pairwise fun a b=>a.hi≤b.lo
 all: ∀i∈l,i.hi≤w.heap.size∧i.P w
theorem cl.get {W w:World} {l:List eS} (h:cl W w l) (j:Nat) {i:eS} (e:l[j]?=some i:=by rfl):i.P w:=(h.all i (List.mem_of_getElem? e)).2
theorem cl.hi {W w:World} {l:List eS} (h:cl W w l) (j:Nat) {i:eS} (e:l[j]?=some i:=by rfl):i.hi≤w.heap.size:=(h.all i (List.mem_of_getElem? e)).1
theorem cl.below {W w w':World} {l:List eS} (h:cl W w l) (hb:RowKit.Below w.heap.size w w'):cl W w' l where
 os:=hb.os.trans h.os
 tape:=hb.tape.trans h.tape
 output:=hb.output.trans h.output
 size:=Nat.le_trans h.size hb.size
 jg:=fun c hc=>(hb.block c (Nat.lt_of_lt_of_le hc h.size)).trans (h.jg c hc)
 ord:=h.ord
 all:=fun i hi=>⟨Nat.le_trans (h.all i hi).1 hb.size,i.ay w w' (fun c _ hc=>hb.block c (Nat.lt_of_lt_of_le hc (h.all i hi).1)) (h.all i hi).2⟩
theorem cl.drewN {W w:World} {l:List eS} (h:cl W w l):cl W w.drew l:=h.below ⟨rfl,rfl,rfl,Nat.le_refl _,fun _ _=>rfl⟩
theorem cl.add {W w:World} {l:List eS} (h:cl W w l) (i:eS) (h1:i.hi≤w.heap.size) (h2:i.P w) (aM: ∀j∈l,j.hi≤i.lo):cl W w (l++[i]):=
 {h with
  ord:=List.pairwise_append.2 ⟨h.ord,List.pairwise_singleton _ _,fun a aF b hb=>by rw[List.mem_singleton.1 hb];exact aM a aF⟩
  all:=fun j ap=>by
   rcases List.mem_append.1 ap with ap | ap
   ·exact h.all j ap
   ·rw[List.mem_singleton.1 ap];exact⟨h1,h2⟩}
theorem cl.made {W w w':World} {l:List eS} (h:cl W w l) (hb:RowKit.Below w.heap.size w w') (i:eS) (aI:i.lo=w.heap.size) (h1:i.hi=w'.heap.size) (h2:i.P w'):cl W w' (l++[i]):=
 (h.below hb).add i (Nat.le_of_eq h1) h2 fun j ap=>by rw[aI];exact(h.all j ap).1
def dI (b:Nat) (aw:Array Value) (ty:TypeId):eS where
 lo:=b
 hi:=b+1
 P:=fun w=>w.heap[b]?=some (.cells aw ty (0,0))
 ay:=fun w w' h ai=>(h b (Nat.le_refl _) (Nat.lt_succ_self _)).trans ai
theorem cl.box {W w:World} {l:List eS} (h:cl W w l) (aw:Array Value) (ty:TypeId):cl W (w.alloc (.cells aw ty (0,0))) (l++[dI w.heap.size aw ty]):=
 h.made ((RowKit.Below.refl _ _).alloc (Nat.le_refl _) _) (dI w.heap.size aw ty) rfl (by simp[dI]) (nA _ _)
theorem cl.zv {W w:World} {l:List eS} (h:cl W w l) (j:Nat) {b:Nat} {aw:Array Value} {ty:TypeId} (e:l[j]?=some (dI b aw ty)):b<w.heap.size:=h.hi j e
def K4 (n:Nat) (a:AV) (v:Value):eS where
 lo:=0
 hi:=n
 P:=fun w=>dX w (fun c=>c<n) a v
 ay:=fun w w' h ai=>ai.cT (fun c hc=>h c (Nat.zero_le _) hc) (fun _ h=>h)
def hB (n:Nat) (a:AV) (v:Value) (b:AV) (u:Value):eS where
 lo:=0
 hi:=n
 P:=fun w=>dX w (fun c=>c<n) a v∧dX w (fun c=>c<n) b u
 ay:=fun w w' h ai=>⟨ai.1.cT (fun c hc=>h c (Nat.zero_le _) hc) (fun _ h=>h),ai.2.cT (fun c hc=>h c (Nat.zero_le _) hc) (fun _ h=>h)⟩
def lJ (w:World) (lo hi c:Nat):Prop:=lo≤c∧c<hi∧Plain w c
def kg (lo hi:Nat) (a:AV) (v:Value):eS where
 lo:=lo
 hi:=hi
 P:=fun w=>dX w (lJ w lo hi) a v
 ay:=fun w w' h ai=>ai.cT (fun c hc=>h c hc.1 hc.2.1) fun c hc=>⟨hc.1,hc.2.1,hc.2.2.same (h c hc.1 hc.2.1)⟩
theorem cl.NS {W w w':World} {l:List eS} {a:AV} {v:Value} (h:cl W w l) (hb:RowKit.Below w.heap.size w w') (bn:dX w' (eG w w') a v):cl W w' (l++[kg w.heap.size w'.heap.size a v]):=
 h.made hb (kg w.heap.size w'.heap.size a v) rfl rfl bn
def vl (lo hi:Nat):eS:=⟨lo,hi,fun _=>True,fun _ _ _ _=>trivial⟩
theorem kg.at {W w:World} {l:List eS} (h:cl W w l) (j:Nat) {lo hi:Nat} {a:AV} {v:Value} (e:l[j]?=some (kg lo hi a v):=by rfl):V2 (Env.at w) a v:=
 (h.get j e).at fun c hc=>Nat.lt_of_lt_of_le hc.2.1 (h.hi j e)
theorem K4.at {W w:World} {l:List eS} (h:cl W w l) (j:Nat) {n:Nat} {a:AV} {v:Value} (e:l[j]?=some (K4 n a v):=by rfl):V2 (Env.at w) a v:=
 (h.get j e).at fun c hc=>Nat.lt_of_lt_of_le hc (h.hi j e)
theorem hB.at {W w:World} {l:List eS} (h:cl W w l) (j:Nat) {n:Nat} {a b:AV} {v u:Value} (e:l[j]?=some (hB n a v b u):=by rfl):V2 (Env.at w) a v∧V2 (Env.at w) b u:=
 ⟨(h.get j e).1.at fun c hc=>Nat.lt_of_lt_of_le hc (h.hi j e),(h.get j e).2.at fun c hc=>Nat.lt_of_lt_of_le hc (h.hi j e)⟩
theorem cl.mark {W w w':World} {l:List eS} (h:cl W w l) (j:Nat) (i:eS) (e:l[j]?=some i) (ap:W.heap.size≤i.lo) {S:Nat→Prop} (db: ∀c,S c→i.lo≤c∧c<i.hi) (hk:dm S w w') (ir:eS) (aE:ir.lo=i.lo) (bD:ir.hi=i.hi) (ai:ir.P w'):cl W w' (l.set j ir):=by
 have kA:=(List.getElem?_eq_some_iff.1 e).1
 have Aq:l[j]=i:=(List.getElem?_eq_some_iff.1 e).2
 refine⟨hk.os.trans h.os,hk.tape.trans h.tape,hk.output.trans h.output,Nat.le_trans h.size hk.size,fun c hc=>(hk.other c (Nat.lt_of_lt_of_le hc h.size) fun hs=>by have:=(db c hs).1;omega).trans (h.jg c hc),?_,?_⟩
 ·rw[List.pairwise_iff_getElem]
  have aG:=List.pairwise_iff_getElem.1 h.ord
  intro a b aF hb Va
  simp only[List.length_set] at aF hb
  have:=aG a b aF hb Va
  rw[List.getElem_set,List.getElem_set]
  by_cases aR:j=a
  ·subst aR
   rw[if_pos rfl,if_neg (by omega),bD,←Aq];exact this
  ·rw[if_neg aR]
   by_cases e2:j=b
   ·subst e2
    rw[if_pos rfl,aE,←Aq];exact this
   ·rw[if_neg e2];exact this
 ·intro q af
  obtain⟨a,aF⟩:=List.mem_iff_getElem?.1 af
  rw[List.getElem?_set] at aF
  by_cases aR:j=a
  ·subst aR
   rw[if_pos rfl,if_pos kA] at aF
   cases aF
   exact⟨by rw[bD];exact Nat.le_trans (h.all i (List.mem_of_getElem? e)).1 hk.size,ai⟩
  ·rw[if_neg aR] at aF
   have hm:=List.mem_of_getElem? aF
   refine⟨Nat.le_trans (h.all q hm).1 hk.size,q.ay w w' (fun c br bm=>hk.other c (Nat.lt_of_lt_of_le bm (h.all q hm).1) fun hs=> ?_) (h.all q hm).2⟩
   have aG:=List.pairwise_iff_getElem.1 h.ord
   have u0:=(List.getElem?_eq_some_iff.1 aF).1
   have Ko:l[a]=q:=(List.getElem?_eq_some_iff.1 aF).2
   have h1:=db c hs
   rcases Nat.lt_or_gt_of_ne aR with aX | nJ
   ·have:=aG j a kA u0 aX
    rw[Aq,Ko] at this;omega
   ·have:=aG a j u0 kA nJ
    rw[Aq,Ko] at this;omega
theorem cl.after {W w:World} {l:List eS} (h:cl W w l) (i j:Nat) {a b:eS} (aF:l[i]?=some a) (hb:l[j]?=some b) (li:i<j):a.hi≤b.lo:=by
 have h1:=(List.getElem?_eq_some_iff.1 aF).1
 have h2:=(List.getElem?_eq_some_iff.1 hb).1
 have:=List.pairwise_iff_getElem.1 h.ord i j h1 h2 li
 rw[(List.getElem?_eq_some_iff.1 aF).2,(List.getElem?_eq_some_iff.1 hb).2] at this
 exact this
theorem cl.told {W w:World} {l:List eS} (h:cl W w l) (j:Nat) {lo hi:Nat} {a:AV} {v:Value} (e:l[j]?=some (kg lo hi a v)):dX w (lJ w lo hi) a v:=h.get j e
theorem cl.forget {W w w':World} {l:List eS} (h:cl W w l) (j:Nat) {lo hi:Nat} {a:AV} {v:Value} (e:l[j]?=some (kg lo hi a v)) (ap:W.heap.size≤lo) (hk:dm (lJ w lo hi) w w'):cl W w' (l.set j (vl lo hi)):=
 h.mark j (kg lo hi a v) e ap (fun c hc=>⟨hc.1,hc.2.1⟩) hk (vl lo hi) rfl rfl trivial
theorem dm.pl {w w':World} {lo hi:Nat} (hk:dm (lJ w lo hi) w w'): ∀c,lJ w lo hi c→lJ w' lo hi c:=fun c hc=>by
 obtain⟨aw,ty,hx⟩:=hc.2.2
 obtain⟨bX,h1,_⟩:=hk.at hx
 exact⟨hc.1,hc.2.1,bX,ty,h1⟩
theorem cl.end {W w:World} {l:List eS} (h:cl W w l):RowKit.Below W.heap.size W w:=⟨h.os,h.tape,h.output,h.size,h.jg⟩
theorem cl.start (W:World):cl W W []:=⟨rfl,rfl,rfl,Nat.le_refl _,fun _ _=>rfl,List.Pairwise.nil,fun i h=>by cases h⟩
def ib (lo hi b:Nat) (aw:Array Value) (ty:TypeId) (a:AV) (v:Value):eS where
 lo:=lo
 hi:=hi
 P:=fun w=>lo≤b∧b<hi∧w.heap[b]?=some (.cells aw ty (0,0))∧dX w (fun c=>lJ w lo hi c∧c≠b) a v
 ay:=fun w w' h ai=>⟨ai.1,ai.2.1,(h b ai.1 ai.2.1).trans ai.2.2.1,ai.2.2.2.cT (fun c hc=>h c hc.1.1 hc.1.2.1) fun c hc=>⟨⟨hc.1.1,hc.1.2.1,hc.1.2.2.same (h c hc.1.1 hc.1.2.1)⟩,hc.2⟩⟩
theorem cl.dB {W w w':World} {l:List eS} (h:cl W w l) (hb:RowKit.Below w.heap.size w w') (b:Nat) {aw:Array Value} {ty:TypeId} {a:AV} {v:Value} (h1:w.heap.size≤b) (h2:b<w'.heap.size) (hc:w'.heap[b]?=some (.cells aw ty (0,0))) (bn:dX w' (fun c=>lJ w' w.heap.size w'.heap.size c∧c≠b) a v):cl W w' (l++[ib w.heap.size w'.heap.size b aw ty a v]):=
 h.made hb (ib w.heap.size w'.heap.size b aw ty a v) rfl rfl ⟨h1,h2,hc,bn⟩
theorem ib.at {W w:World} {l:List eS} (h:cl W w l) (j:Nat) {lo hi b:Nat} {aw:Array Value} {ty:TypeId} {a:AV} {v:Value} (e:l[j]?=some (ib lo hi b aw ty a v):=by rfl):V2 (Env.at w) a v:=
 (h.get j e).2.2.2.at fun c hc=>Nat.lt_of_lt_of_le hc.1.2.1 (h.hi j e)
theorem ib.box {W w:World} {l:List eS} (h:cl W w l) (j:Nat) {lo hi b:Nat} {aw:Array Value} {ty:TypeId} {a:AV} {v:Value} (e:l[j]?=some (ib lo hi b aw ty a v)):w.heap[b]?=some (.cells aw ty (0,0)):=(h.get j e).2.2.1
theorem ib.lt {W w:World} {l:List eS} (h:cl W w l) (j:Nat) {lo hi b:Nat} {aw:Array Value} {ty:TypeId} {a:AV} {v:Value} (e:l[j]?=some (ib lo hi b aw ty a v)):b<w.heap.size:=Nat.lt_of_lt_of_le (h.get j e).2.1 (h.hi j e)
theorem A9 {w w':World} {aw:Array Value} {ty:TypeId} (hb:RowKit.Below (w.alloc (.cells aw ty (0,0))).heap.size (w.alloc (.cells aw ty (0,0))) w'):w'.heap[w.heap.size]?=some (.cells aw ty (0,0)):=
 (hb.block _ (by rw[World.size_alloc];exact Nat.lt_succ_self _)).trans (nA _ _)
theorem NH {w w':World} {aw:Array Value} {ty:TypeId} (hb:RowKit.Below (w.alloc (.cells aw ty (0,0))).drew.heap.size (w.alloc (.cells aw ty (0,0))).drew w'):w'.heap[w.heap.size]?=some (.cells aw ty (0,0)):=
 (hb.block _ (by rw[World.size_drew,World.size_alloc];exact Nat.lt_succ_self _)).trans (nA _ _)
theorem dX.dB {aP w w':World} {lo b:Nat} {a:AV} {v:Value} (h:dX w (eG aP w) a v) (AA:lo≤aP.heap.size) (hs:w.heap.size≤w'.heap.size) (hb:aP.heap.size≤b→w.heap.size≤b) (hk: ∀c,c<w.heap.size→c≠b→w'.heap[c]?=w.heap[c]?):dX w' (fun c=>lJ w' lo w'.heap.size c∧c≠b) a v:=by
 have bY: ∀c,eG aP w c→c≠b:=fun c hc e=>by
  subst e
  have h1:=hc.1
  have h2:=hc.2.1
  have:=hb h1
  omega
 refine h.cT (fun c hc=>hk c hc.2.1 (bY c hc)) fun c hc=> ?_
 have h1:=hc.1
 have h2:=hc.2.1
 exact⟨⟨by omega,by omega,hc.2.2.same (hk c hc.2.1 (bY c hc))⟩,bY c hc⟩
theorem G5 {w:World} {b o:Nat} {aw:Array Value} {ty:TypeId} {v:Value} (h:w.heap[b]?=some (.cells aw ty (0,0))):(w.setCell ⟨b,o,none⟩ v).heap[b]?=some (.cells (aw.setIfInBounds o v) ty (0,0)):=by
 simp[World.setCell,Array.getElem?_modify,h]
theorem v8 {w:World} {b:Nat} {a0 J a2 v0 v1 v2:Value} {ty:TypeId} (h:w.heap[b]?=some (.cells #[a0,J,a2] ty (0,0))):(((w.setCell ⟨b,0,none⟩ v0).setCell ⟨b,1,none⟩ v1).setCell ⟨b,2,none⟩ v2).heap[b]?=some (.cells #[v0,v1,v2] ty (0,0)):=
 G5 (G5 (G5 h))
theorem bg.aay {P:Program} {f:FuncId} {args:List AV} (fj:r5 P f=true)
  (h: ∀(w:World) (vs:List Value),aO (V2 (Env.wd w)) args vs→Calls P f vs.toArray w fun e w'=>e= .returned (.bool true)∧RowKit.Below w.heap.size w w'):bg P f args (.bool true):=by
 refine⟨fj,fun E vs bN aB aF=>(h E.w vs (aF.mono fun _ _ k=>k.wd aB bN)).mono ?_⟩
 rintro e w' ⟨rfl,hb⟩
 have hk: ∀c,E.PA c→w'.heap[c]?=E.w.heap[c]?:=fun c hc=>hb.block c (aB.dy c hc)
 have hm:=fun b=>aB.fresh b (Nat.zero_le _)
 refine⟨.bool true,.bool true,[],{E with w:=w'},rfl,.inr (.inr (.bool true)),rfl,bN,{aB with
  heap:=fun b c Kt=>by rw[(hm b).1] at Kt;cases Kt
  dy:=fun c hc=>Nat.lt_of_lt_of_le (aB.dy c hc) hb.size
  fl:=fun c hc=>Nat.lt_of_lt_of_le (aB.fl c hc) hb.size
  gf:=fun c hc=>Nat.lt_of_lt_of_le (aB.gf c hc) hb.size
  fh:=fun c hc=>(aB.fh c hc).same (hk c (aB.dr c hc))},aW.bool true,?_⟩
 exact⟨⟨fun _ h=>h,fun _ h=>h,hk,fun c hc=>hk c (aB.dr c hc),fun _=>Nat.le_refl _,fun _ _ h _=>⟨h,rfl,rfl⟩,fun _ _ h=>h⟩,hb.os,hb.tape,hb.output,hb.size,fun c hc _ _=>hb.block c hc,fun _ _ h=> .inl h,fun _ h=> .inl h,fun _ h=> .inl h,fun _ h=> .inl h⟩
def cP:List (Nat×aU):=[(22,.int),(23,.ei),(24,(.l .bool)),(27,.bool),(28,.ev),(29,.held),(37,.ei),(41,.ev),(42,.held),(53,.mo),(55,.done),(57,.mo),(120,.bO),(126,.bO),(129,(.l .bO)),(162,(.l .int))]
end Go.Proofs.YtglpfccgmfhkdaaGreat.Fw
set_option linter.unusedVariables false
set_option maxRecDepth 100000
set_option maxHeartbeats 4000000
set_option linter.unusedSimpArgs false
namespace Go.Proofs.YtglpfccgmfhkdaaGreat.Fw
open Go
attribute [local irreducible] evS evSD WpS Weak Oper.looksAt
def MJ (a0:(List Int)) (J:Int) (ae:Int):Prop:=
 a0.length≤4611686018427387904→((decide ((IntKind.i64.wrap (J - (a0.length:Int)))<0))=true→(-1)=ae)∧((!(decide ((IntKind.i64.wrap (J - (a0.length:Int)))<0)))=true→(IntKind.i64.wrap (J - (a0.length:Int)))=ae)
theorem YT (a0:(List Int)) (J:Int) (ai:fJ a0 J):bg Tryz.prog 34 [bG ct a0,ax J] (ax (ci a0 J)):=(fun(h:MJ a0 J (ci a0 J))=>bg.run (ps:=[(.l .int),.int]) (rs:=[.int]) (x:=(a0,J,())) (r:=((ci a0 J),())) ⟨12,cP,[]⟩ ⟨[],[],[],[],[]⟩ .nil Tryz.func34 h) (by
 unfold MJ
 exact fun ao=>B4 ai ao)
def MK:cY Tryz.prog:=⟨34,[(.l .int),.int],[.int],some fun x=>fJ x.1 x.2.1,fun x=>((ci x.1 x.2.1),()),fun x h=>YT x.1 x.2.1 h⟩
def ML (a0:(List cr)) (J:Int) (ae:Int):Prop:=
 a0.length≤4611686018427387904→((decide ((IntKind.i64.wrap (J - (a0.length:Int)))<0))=true→(-1)=ae)∧((!(decide ((IntKind.i64.wrap (J - (a0.length:Int)))<0)))=true→(IntKind.i64.wrap (J - (a0.length:Int)))=ae)
theorem YU (a0:(List cr)) (J:Int) (ai:fJ a0 J):bg Tryz.prog 115 [bG dL a0,ax J] (ax (ci a0 J)):=(fun(h:ML a0 J (ci a0 J))=>bg.run (ps:=[(.l .bO),.int]) (rs:=[.int]) (x:=(a0,J,())) (r:=((ci a0 J),())) ⟨12,cP,[]⟩ ⟨[],[],[],[],[]⟩ .nil Tryz.func115 h) (by
 unfold ML
 exact fun ao=>B4 ai ao)
def YV:cY Tryz.prog:=⟨115,[(.l .bO),.int],[.int],some fun x=>fJ x.1 x.2.1,fun x=>((ci x.1 x.2.1),()),fun x h=>YU x.1 x.2.1 h⟩
def MS (a0:Way) (J ae:Int):Prop:=
  ((decide ((ci a0.b4 (ci a0.bP (ci a0.a1 (ci a0.ad J))))<0))=true→(-1)=ae)∧((!(decide ((ci a0.b4 (ci a0.bP (ci a0.a1 (ci a0.ad J))))<0)))=true→(fJ a0.dv (ci a0.b4 (ci a0.bP (ci a0.a1 (ci a0.ad J)))))∧(((decide ((ci a0.dv (ci a0.b4 (ci a0.bP (ci a0.a1 (ci a0.ad J)))))<0))=true→(-1)=ae)∧((!(decide ((ci a0.dv (ci a0.b4 (ci a0.bP (ci a0.a1 (ci a0.ad J)))))<0)))=true→(ci a0.dv (ci a0.b4 (ci a0.bP (ci a0.a1 (ci a0.ad J)))))=ae)))
def MT (a0:Way) (J ae:Int):Prop:=
  ((decide ((ci a0.a1 (ci a0.ad J))<0))=true→(-1)=ae)∧((!(decide ((ci a0.a1 (ci a0.ad J))<0)))=true→(fJ a0.bP (ci a0.a1 (ci a0.ad J)))∧(((decide ((ci a0.bP (ci a0.a1 (ci a0.ad J)))<0))=true→(-1)=ae)∧((!(decide ((ci a0.bP (ci a0.a1 (ci a0.ad J)))<0)))=true→(fJ a0.b4 (ci a0.bP (ci a0.a1 (ci a0.ad J))))∧(MS a0 J ae))))
def MR (a0:Way) (J:Int) (ae:Int):Prop:=
 (fJ a0.ad J)∧(((decide ((ci a0.ad J)<0))=true→(-1)=ae)∧((!(decide ((ci a0.ad J)<0)))=true→(fJ a0.a1 (ci a0.ad J))∧(MT a0 J ae)))
theorem Y1 (a0:Way) (J:Int) (ai:fJ a0 J):bg Tryz.prog 85 [.agg (en false a0),ax J] (ax (pR a0 J)):=(fun(h:MR a0 J (pR a0 J))=>bg.run (ps:=[.ei,.int]) (rs:=[.int]) (x:=(a0,J,())) (r:=((pR a0 J),())) ⟨36,cP,[MK,YV]⟩ ⟨[],[],[],[],[]⟩ .nil Tryz.func85 h) (by
 unfold MR MT MS pR q_ ci
 have ai:0≤J∧J≤1048576:=ai
 refine⟨ai,n0 (m:=a0.a1.length+a0.bP.length+a0.b4.length+a0.dv.length) ai (by omega) fun c k=>⟨k,?_⟩⟩
 rw[qL ai.1 c]
 refine n0 (m:=a0.bP.length+a0.b4.length+a0.dv.length) ai (by omega) fun c k=>⟨k,?_⟩
 rw[qL ai.1 c]
 refine n0 (m:=a0.b4.length+a0.dv.length) ai (by omega) fun c k=>⟨k,?_⟩
 rw[qL ai.1 c]
 refine n0 (m:=a0.dv.length) ai (by omega) fun c k=>⟨k,?_⟩
 rw[qL ai.1 c]
 exact n0 (m:=0) ai (by omega) fun c k=>rfl)
def Y2:cY Tryz.prog:=⟨85,[.ei,.int],[.int],some fun x=>fJ x.1 x.2.1,fun x=>((pR x.1 x.2.1),()),fun x h=>Y1 x.1 x.2.1 h⟩
def MQ (al:Int→Int→Prop) (an:Int→Int→Nat) (a0:(List Way)) (J ae:Int):Prop:=
  al (IntKind.i64.wrap (J - (a0.length:Int))) 0∧ ∀(v1:Int) (v5:Int),al v1 v5→(((decide (v5<(a0.length:Int)))=false→v1=ae)∧((decide (v5<(a0.length:Int)))=true→(((0≤v5∧v5.toNat<a0.length)∧(fJ (nth a0 v5) v1))∧((decide ((pR (nth a0 v5) v1)<0))=true→(-1)=ae))∧((!(decide ((pR (nth a0 v5) v1)<0)))=true→al (pR (nth a0 v5) v1) (IntKind.i64.wrap (v5+1))∧an (pR (nth a0 v5) v1) (IntKind.i64.wrap (v5+1))<an v1 v5)))
def MP (a0:(List Way)) (J:Int) (ae:Int) (al:Int→Int→Prop) (an:Int→Int→Nat):Prop:=
 a0.length≤4611686018427387904→((decide ((IntKind.i64.wrap (J - (a0.length:Int)))<0))=true→(-1)=ae)∧((!(decide ((IntKind.i64.wrap (J - (a0.length:Int)))<0)))=true→MQ al an a0 J ae)
theorem YZ (a0:(List Way)) (J:Int) (ai:fJ a0 J):bg Tryz.prog 35 [bG (en false) a0,ax J] (ax (oX a0 J)):=(fun(al:Int→Int→Prop) (an:Int→Int→Nat) (h:MP a0 J (oX a0 J) al an)=>bg.run (ps:=[(.l .ei),.int]) (rs:=[.int]) (x:=(a0,J,())) (r:=((oX a0 J),())) ⟨27,cP,[Y2]⟩ ⟨[14],[],[],[],[]⟩ (.lp [] [0] [] [.int,.int] [1,5] (fun aP=>[(1,.i .i64 aP.1),(5,.i .i64 aP.2.1)]) (fun aP=>al aP.1 aP.2.1) (fun aP=>an aP.1 aP.2.1) fun _=> .nil) Tryz.func35 h) (wi a0 q_ J) (wj a0) (by
 unfold MP MQ
 exact fun ao=>HL (g:=pR) (fun _ _=>rfl) ai ao)
def Y0:cY Tryz.prog:=⟨35,[(.l .ei),.int],[.int],some fun x=>fJ x.1 x.2.1,fun x=>((oX x.1 x.2.1),()),fun x h=>YZ x.1 x.2.1 h⟩
def MD (a0:(List Bool)) (J:Int) (ae:Int):Prop:=
 a0.length≤4611686018427387904→((decide ((IntKind.i64.wrap (J - (a0.length:Int)))<0))=true→(-1)=ae)∧((!(decide ((IntKind.i64.wrap (J - (a0.length:Int)))<0)))=true→(IntKind.i64.wrap (J - (a0.length:Int)))=ae)
theorem YN (a0:(List Bool)) (J:Int) (ai:fJ a0 J):bg Tryz.prog 37 [bG a7 a0,ax J] (ax (ci a0 J)):=(fun(h:MD a0 J (ci a0 J))=>bg.run (ps:=[(.l .bool),.int]) (rs:=[.int]) (x:=(a0,J,())) (r:=((ci a0 J),())) ⟨12,cP,[]⟩ ⟨[],[],[],[],[]⟩ .nil Tryz.func37 h) (by
 unfold MD
 exact fun ao=>B4 ai ao)
def FO:cY Tryz.prog:=⟨37,[(.l .bool),.int],[.int],some fun x=>fJ x.1 x.2.1,fun x=>((ci x.1 x.2.1),()),fun x h=>YN x.1 x.2.1 h⟩
def MC (al:Int→Int→Prop) (an:Int→Int→Nat) (a0:(List (List Bool))) (J ae:Int):Prop:=
  al (IntKind.i64.wrap (J - (a0.length:Int))) 0∧ ∀(v1:Int) (v5:Int),al v1 v5→(((decide (v5<(a0.length:Int)))=false→v1=ae)∧((decide (v5<(a0.length:Int)))=true→(((0≤v5∧v5.toNat<a0.length)∧(fJ (nth a0 v5) v1))∧((decide ((ci (nth a0 v5) v1)<0))=true→(-1)=ae))∧((!(decide ((ci (nth a0 v5) v1)<0)))=true→al (ci (nth a0 v5) v1) (IntKind.i64.wrap (v5+1))∧an (ci (nth a0 v5) v1) (IntKind.i64.wrap (v5+1))<an v1 v5)))
def MB (a0:(List (List Bool))) (J:Int) (ae:Int) (al:Int→Int→Prop) (an:Int→Int→Nat):Prop:=
 a0.length≤4611686018427387904→((decide ((IntKind.i64.wrap (J - (a0.length:Int)))<0))=true→(-1)=ae)∧((!(decide ((IntKind.i64.wrap (J - (a0.length:Int)))<0)))=true→MC al an a0 J ae)
theorem YL (a0:(List (List Bool))) (J:Int) (ai:fJ a0 J):bg Tryz.prog 36 [bG (fR a7 false) a0,ax J] (ax (sh a0 J)):=(fun(al:Int→Int→Prop) (an:Int→Int→Nat) (h:MB a0 J (sh a0 J) al an)=>bg.run (ps:=[(.l (.l .bool)),.int]) (rs:=[.int]) (x:=(a0,J,())) (r:=((sh a0 J),())) ⟨27,cP,[FO]⟩ ⟨[14],[],[],[],[]⟩ (.lp [] [0] [] [.int,.int] [1,5] (fun aP=>[(1,.i .i64 aP.1),(5,.i .i64 aP.2.1)]) (fun aP=>al aP.1 aP.2.1) (fun aP=>an aP.1 aP.2.1) fun _=> .nil) Tryz.func36 h) (wi a0 List.length J) (wj a0) (by
 unfold MB MC
 exact fun ao=>HL (g:=ci) (fun _ _=>rfl) ai ao)
def YM:cY Tryz.prog:=⟨36,[(.l (.l .bool)),.int],[.int],some fun x=>fJ x.1 x.2.1,fun x=>((sh x.1 x.2.1),()),fun x h=>YL x.1 x.2.1 h⟩
def MN (a0:aK) (J ae:Int):Prop:=
  ((decide ((oX a0.O (ci a0.bd J))<0))=true→(-1)=ae)∧((!(decide ((oX a0.O (ci a0.bd J))<0)))=true→(fJ a0.bt (oX a0.O (ci a0.bd J)))∧(((decide ((sh a0.bt (oX a0.O (ci a0.bd J)))<0))=true→(-1)=ae)∧((!(decide ((sh a0.bt (oX a0.O (ci a0.bd J)))<0)))=true→(sh a0.bt (oX a0.O (ci a0.bd J)))=ae)))
def MM (a0:aK) (J:Int) (ae:Int):Prop:=
 (fJ a0.bd J)∧(((decide ((ci a0.bd J)<0))=true→(-1)=ae)∧((!(decide ((ci a0.bd J)<0)))=true→(fJ a0.O (ci a0.bd J))∧(MN a0 J ae)))
theorem YW (a0:aK) (J:Int) (ai:fJ a0 J):bg Tryz.prog 6 [.agg (bW false a0),ax J] (ax (oW a0 J)):=(fun(h:MM a0 J (oW a0 J))=>bg.run (ps:=[.eh,.int]) (rs:=[.int]) (x:=(a0,J,())) (r:=((oW a0 J),())) ⟨24,cP,[MK,Y0,YM]⟩ ⟨[],[],[],[],[]⟩ .nil Tryz.func6 h) (by
 unfold MM MN oW kk ci oX sh
 have ai:0≤J∧J≤1048576:=ai
 refine⟨ai,n0 (m:=wu a0.O+sD a0.bt) ai (by omega) fun c k=>⟨k,?_⟩⟩
 rw[qL ai.1 c]
 refine n0 (m:=sD a0.bt) ai (by omega) fun c k=>⟨k,?_⟩
 rw[qL ai.1 c]
 exact n0 (m:=0) ai (by omega) fun c k=>rfl)
def ac2 (a0:Int) (J:Int) (a2:Int) (ae:Bool):Prop:=
 ((decide (a0 ≥ J))&&(decide (a0≤a2)))=ae
theorem Hi (a0:Int) (J:Int) (a2:Int):bg Tryz.prog 41 [ax a0,ax J,ax a2] (aA (b8 a0 J a2)):=(fun(h:ac2 a0 J a2 (b8 a0 J a2))=>bg.run (ps:=[.int,.int,.int]) (rs:=[.bool]) (x:=(a0,J,a2,())) (r:=((b8 a0 J a2),())) ⟨15,cP,[]⟩ ⟨[],[],[],[],[]⟩ .nil Tryz.func41 h) (by
 rfl)
def yL:cY Tryz.prog:=⟨41,[.int,.int,.int],[.bool],none,fun x=>((b8 x.1 x.2.1 x.2.2.1),()),fun x h=>Hi x.1 x.2.1 x.2.2.1⟩
def PR (al:Int→Prop) (an:Int→Nat) (a6:Int→Int→Prop) (aY:Int→Int→Nat) (a0 J:(List Int)) (ae:Bool) (v11:Int):Prop:=
  a6 v11 0∧ ∀(ih:Int),a6 v11 ih→(((decide (ih<(J.length:Int)))=false→al (IntKind.i64.wrap (v11+1))∧an (IntKind.i64.wrap (v11+1))<an v11)∧((decide (ih<(J.length:Int)))=true→((0≤ih∧ih.toNat<J.length)∧(((nth a0 v11)==(nth J ih))=true→true=ae))∧((!((nth a0 v11)==(nth J ih)))=true→a6 v11 (IntKind.i64.wrap (ih+1))∧aY v11 (IntKind.i64.wrap (ih+1))<aY v11 ih)))
def PQ (a0:(List Int)) (J:(List Int)) (ae:Bool) (al:Int→Prop) (an:Int→Nat) (a6:Int→Int→Prop) (aY:Int→Int→Nat):Prop:=
 a0.length≤4611686018427387904→al 0∧ ∀(v11:Int),al v11→(((decide (v11<(a0.length:Int)))=false→false=ae)∧((decide (v11<(a0.length:Int)))=true→(0≤v11∧v11.toNat<a0.length)∧(J.length≤4611686018427387904→PR al an a6 aY a0 J ae v11)))
theorem ac9 (a0:(List Int)) (J:(List Int)):bg Tryz.prog 89 [bG ct a0,bG ct J] (aA (meets a0 J)):=(fun(al:Int→Prop) (an:Int→Nat) (a6:Int→Int→Prop) (aY:Int→Int→Nat) (h:PQ a0 J (meets a0 J) al an a6 aY)=>bg.run (ps:=[(.l .int),(.l .int)]) (rs:=[.bool]) (x:=(a0,J,())) (r:=((meets a0 J),())) ⟨26,cP,[]⟩ ⟨[],[],[],[],[]⟩ (eb [1,9,10] [] 11 al an fun aP=>(eb [1,6,9,10,11,15,16] [] 17 (a6 aP) (aY aP) fun _=> .nil)) Tryz.func89 h) (cv a0.length (fun j=>fv J (nth a0 j))) (cK a0.length) (fun v=>cv J.length (fun k=>nth a0 v==nth J k)) (fun v=>cK J.length) (by
 unfold PQ PR
 intro ao
 refine⟨dt (df _),fun v a_=>⟨fun hv=> ?_,fun hv=>⟨cG a_ hv,fun hm=>⟨dt (df _),fun k hK=>⟨fun hk=> ?_,fun hk=>⟨⟨cG hK hk,fun ai=> ?_⟩,fun ai=>dl (c_ hm) hK hk (not_eq ai)⟩⟩⟩⟩⟩⟩
 ·exact(yX (q:=fun x=>fv J x) a_ hv).symm
 ·exact dl (c_ ao) a_ hv (Vb (gr hK hk))
 ·exact(Cb (q:=fun x=>fv J x) a_ hv (Vd (cG hK hk).2 ai)).symm)
def Hj:cY Tryz.prog:=⟨89,[(.l .int),(.l .int)],[.bool],none,fun x=>((meets x.1 x.2.1),()),fun x h=>ac9 x.1 x.2.1⟩
def M3 (al:(List Int)→Int→Prop) (an:(List Int)→Int→Nat) (a0 ae:(List Int)):Prop:=
  al (List.replicate (a0.length:Int).toNat (0:Int)) 0∧ ∀(aL:(List Int)) (v4:Int),al aL v4→(((decide (v4<(a0.length:Int)))=false→aL.length≤4611686018427387904∧aL=ae)∧((decide (v4<(a0.length:Int)))=true→((0≤v4∧v4.toNat<a0.length)∧((0≤v4∧v4.toNat<aL.length)∧(v4.toNat<aL.length)))∧(al (aL.set v4.toNat (nth a0 v4)) (IntKind.i64.wrap (v4+1))∧an (aL.set v4.toNat (nth a0 v4)) (IntKind.i64.wrap (v4+1))<an aL v4)))
def M2 (a0:(List Int)) (ae:(List Int)) (al:(List Int)→Int→Prop) (an:(List Int)→Int→Nat):Prop:=
 (a0.length≤4611686018427387904→0≤(a0.length:Int)∧8*(a0.length:Int)≤140737488355328∧(a0.length:Int)≤4611686018427387904)∧(a0.length≤4611686018427387904→M3 al an a0 ae)
theorem Zb (a0:(List Int)) (ai:small a0):bg Tryz.prog 43 [bG ct a0] (n8 ct (ak a0)):=(fun(al:(List Int)→Int→Prop) (an:(List Int)→Int→Nat) (h:M2 a0 (ak a0) al an)=>bg.run (ps:=[(.l .int)]) (rs:=[(.l .int)]) (x:=(a0,())) (r:=((ak a0),())) ⟨22,cP,[]⟩ ⟨[10],[],[],[],[]⟩ (.lp [] [0] [] [(.l .int),.int] [bJ 0,4] (fun aP=>[(3,.ref 0 0 aP.1.length false),(4,.i .i64 aP.2.1),(bJ 0,.blk 0 .int aP.1 _ rfl)]) (fun aP=>al aP.1 aP.2.1) (fun aP=>an aP.1 aP.2.1) fun _=> .nil) Tryz.func43 h) (mY a0 (fun x=>x) (0:Int)) (nG a0) (by
 unfold M2 M3
 have ai:a0.length≤1048576:=ai
 exact⟨fun ao=>⟨df _,by omega,by omega⟩,fun ao=>z6 (f:=fun x=>x) ao (by simp[ak])⟩)
def M4:cY Tryz.prog:=⟨43,[(.l .int)],[(.l .int)],some fun x=>small x.1,fun x=>((ak x.1),()),fun x h=>Zb x.1 h⟩
def Ze (a0:cr) (ae:cr):Prop:=
 (a0.be=ae.be)∧(a0.bO=ae.bO)
theorem Zf (a0:cr):bg Tryz.prog 131 [.agg (dL a0)] (.agg (dL (ak a0))):=(fun(h:Ze a0 (ak a0))=>bg.run (ps:=[.bO]) (rs:=[.bO]) (x:=(a0,())) (r:=((ak a0),())) ⟨11,cP,[]⟩ ⟨[],[],[],[],[]⟩ .nil Tryz.func131 h) (by
 exact⟨rfl,rfl⟩)
def Zg:cY Tryz.prog:=⟨131,[.bO],[.bO],none,fun x=>((ak x.1),()),fun x h=>Zf x.1⟩
def M6 (al:(List cr)→Int→Prop) (an:(List cr)→Int→Nat) (a0 ae:(List cr)):Prop:=
  al (List.replicate (a0.length:Int).toNat ({be:=(0:Int),bO:=(0:Int)}:cr)) 0∧ ∀(aL:(List cr)) (v4:Int),al aL v4→(((decide (v4<(a0.length:Int)))=false→aL.length≤4611686018427387904∧aL=ae)∧((decide (v4<(a0.length:Int)))=true→((0≤v4∧v4.toNat<a0.length)∧((0≤v4∧v4.toNat<aL.length)∧(v4.toNat<aL.length)))∧(al (aL.set v4.toNat (ak (nth a0 v4))) (IntKind.i64.wrap (v4+1))∧an (aL.set v4.toNat (ak (nth a0 v4))) (IntKind.i64.wrap (v4+1))<an aL v4)))
def M5 (a0:(List cr)) (ae:(List cr)) (al:(List cr)→Int→Prop) (an:(List cr)→Int→Nat):Prop:=
 (a0.length≤4611686018427387904→0≤(a0.length:Int)∧16*(a0.length:Int)≤140737488355328∧(a0.length:Int)≤4611686018427387904)∧(a0.length≤4611686018427387904→M6 al an a0 ae)
theorem Zc (a0:(List cr)) (ai:small a0):bg Tryz.prog 116 [bG dL a0] (n8 dL (ak a0)):=(fun(al:(List cr)→Int→Prop) (an:(List cr)→Int→Nat) (h:M5 a0 (ak a0) al an)=>bg.run (ps:=[(.l .bO)]) (rs:=[(.l .bO)]) (x:=(a0,())) (r:=((ak a0),())) ⟨23,cP,[Zg]⟩ ⟨[10],[],[],[],[]⟩ (.lp [] [0] [] [(.l .bO),.int] [bJ 0,4] (fun aP=>[(3,.ref 0 0 aP.1.length false),(4,.i .i64 aP.2.1),(bJ 0,.blk 0 .bO aP.1 _ rfl)]) (fun aP=>al aP.1 aP.2.1) (fun aP=>an aP.1 aP.2.1) fun _=> .nil) Tryz.func116 h) (mY a0 (ak) ({be:=(0:Int),bO:=(0:Int)}:cr)) (nG a0) (by
 unfold M5 M6
 have ai:a0.length≤1048576:=ai
 exact⟨fun ao=>⟨df _,by omega,by omega⟩,fun ao=>z6 (f:=ak) ao (x2 _)⟩)
def Zd:cY Tryz.prog:=⟨116,[(.l .bO)],[(.l .bO)],some fun x=>small x.1,fun x=>((ak x.1),()),fun x h=>Zc x.1 h⟩
def Nc (a0:Way) (ae:Way):Prop:=
 (small a0.ad)∧((small a0.a1)∧((small a0.bP)∧((small a0.b4)∧((small a0.dv)∧(((ak a0.ad)=ae.ad)∧((ak a0.a1)=ae.a1)∧((ak a0.bP)=ae.bP)∧((ak a0.b4)=ae.b4)∧((ak a0.dv)=ae.dv))))))
theorem Zp (a0:Way) (ai:yK a0):bg Tryz.prog 90 [.agg (en false a0)] (.agg (en true (ak a0))):=(fun(h:Nc a0 (ak a0))=>bg.run (ps:=[.ei]) (rs:=[.ei]) (x:=(a0,())) (r:=((ak a0),())) ⟨25,cP,[M4,Zd]⟩ ⟨[],[],[],[],[]⟩ .nil Tryz.func90 h) (by
 have ai:a0.ad.length+a0.a1.length+a0.bP.length+a0.b4.length+a0.dv.length≤1048576:=ai
 unfold Nc small
 exact⟨by omega,by omega,by omega,by omega,by omega,rfl,rfl,rfl,rfl,rfl⟩)
def Zq:cY Tryz.prog:=⟨90,[.ei],[.ei],some fun x=>yK x.1,fun x=>((ak x.1),()),fun x h=>Zp x.1 h⟩
def Na (al:(List Way)→Int→Prop) (an:(List Way)→Int→Nat) (a0 ae aL:(List Way)) (v4:Int):Prop:=
  ((decide (v4<(a0.length:Int)))=false→aL.length≤4611686018427387904∧aL=ae)∧((decide (v4<(a0.length:Int)))=true→((0≤v4∧v4.toNat<a0.length)∧((yK (nth a0 v4))∧((0≤v4∧v4.toNat<aL.length)∧(v4.toNat<aL.length))))∧(al (aL.set v4.toNat (ak (nth a0 v4))) (IntKind.i64.wrap (v4+1))∧an (aL.set v4.toNat (ak (nth a0 v4))) (IntKind.i64.wrap (v4+1))<an aL v4))
def Nb (al:(List Way)→Int→Prop) (an:(List Way)→Int→Nat) (a0 ae:(List Way)):Prop:=
  (a0.length≤4611686018427387904→0≤(a0.length:Int)∧120*(a0.length:Int)≤140737488355328∧(a0.length:Int)≤4611686018427387904)∧(a0.length≤4611686018427387904→al (List.replicate (a0.length:Int).toNat ({ad:=([]:(List Int)),a1:=([]:(List cr)),bP:=([]:(List cr)),b4:=([]:(List Int)),dv:=([]:(List Int))}:Way)) 0∧ ∀(aL:(List Way)) (v4:Int),al aL v4→(Na al an a0 ae aL v4))
def M_ (a0:(List Way)) (ae:(List Way)) (al:(List Way)→Int→Prop) (an:(List Way)→Int→Nat):Prop:=
 Nb al an a0 ae
theorem Zn (a0:(List Way)) (ai:BW a0):bg Tryz.prog 44 [bG (en false) a0] (n8 (en false) (ak a0)):=(fun(al:(List Way)→Int→Prop) (an:(List Way)→Int→Nat) (h:M_ a0 (ak a0) al an)=>bg.run (ps:=[(.l .ei)]) (rs:=[(.l .ei)]) (x:=(a0,())) (r:=((ak a0),())) ⟨23,cP,[Zq]⟩ ⟨[10],[],[],[],[]⟩ (.lp [] [0] [] [(.l .ei),.int] [bJ 0,4] (fun aP=>[(3,.ref 0 0 aP.1.length false),(4,.i .i64 aP.2.1),(bJ 0,.blk 0 .ei aP.1 _ rfl)]) (fun aP=>al aP.1 aP.2.1) (fun aP=>an aP.1 aP.2.1) fun _=> .nil) Tryz.func44 h) (mY a0 ak ({ad:=([]:(List Int)),a1:=([]:(List cr)),bP:=([]:(List cr)),b4:=([]:(List Int)),dv:=([]:(List Int))}:Way)) (nG a0) (by
 unfold M_ Nb Na
 have ai:a0.length+(a0.map q_).sum≤1048576:=ai
 refine⟨fun ao=>⟨df _,by omega,by omega⟩,fun ao=>z1 (f:=ak) (φ:=fun v=>yK (nth a0 v)) ao (x2 _) fun v _ hv=> ?_⟩
 have:=x4 q_ (eR hv)
 unfold yK;omega)
def Zo:cY Tryz.prog:=⟨44,[(.l .ei)],[(.l .ei)],some fun x=>BW x.1,fun x=>((ak x.1),()),fun x h=>Zn x.1 h⟩
def MX (al:(List Bool)→Int→Prop) (an:(List Bool)→Int→Nat) (a0 ae:(List Bool)):Prop:=
  al (List.replicate (a0.length:Int).toNat false) 0∧ ∀(aL:(List Bool)) (v4:Int),al aL v4→(((decide (v4<(a0.length:Int)))=false→aL.length≤4611686018427387904∧aL=ae)∧((decide (v4<(a0.length:Int)))=true→((0≤v4∧v4.toNat<a0.length)∧((0≤v4∧v4.toNat<aL.length)∧(v4.toNat<aL.length)))∧(al (aL.set v4.toNat (nth a0 v4)) (IntKind.i64.wrap (v4+1))∧an (aL.set v4.toNat (nth a0 v4)) (IntKind.i64.wrap (v4+1))<an aL v4)))
def MW (a0:(List Bool)) (ae:(List Bool)) (al:(List Bool)→Int→Prop) (an:(List Bool)→Int→Nat):Prop:=
 (a0.length≤4611686018427387904→0≤(a0.length:Int)∧1*(a0.length:Int)≤140737488355328∧(a0.length:Int)≤4611686018427387904)∧(a0.length≤4611686018427387904→MX al an a0 ae)
theorem Y5 (a0:(List Bool)) (ai:small a0):bg Tryz.prog 46 [bG a7 a0] (n8 a7 (ak a0)):=(fun(al:(List Bool)→Int→Prop) (an:(List Bool)→Int→Nat) (h:MW a0 (ak a0) al an)=>bg.run (ps:=[(.l .bool)]) (rs:=[(.l .bool)]) (x:=(a0,())) (r:=((ak a0),())) ⟨22,cP,[]⟩ ⟨[10],[],[],[],[]⟩ (.lp [] [0] [] [(.l .bool),.int] [bJ 0,4] (fun aP=>[(3,.ref 0 0 aP.1.length false),(4,.i .i64 aP.2.1),(bJ 0,.blk 0 .bool aP.1 _ rfl)]) (fun aP=>al aP.1 aP.2.1) (fun aP=>an aP.1 aP.2.1) fun _=> .nil) Tryz.func46 h) (mY a0 (fun x=>x) false) (nG a0) (by
 unfold MW MX
 have ai:a0.length≤1048576:=ai
 exact⟨fun ao=>⟨df _,by omega,by omega⟩,fun ao=>z6 (f:=fun x=>x) ao (by simp[ak])⟩)
def FP:cY Tryz.prog:=⟨46,[(.l .bool)],[(.l .bool)],some fun x=>small x.1,fun x=>((ak x.1),()),fun x h=>Y5 x.1 h⟩
def MV (al:(List (List Bool))→Int→Prop) (an:(List (List Bool))→Int→Nat) (a0 ae aL:(List (List Bool))) (v4:Int):Prop:=
  ((decide (v4<(a0.length:Int)))=false→aL.length≤4611686018427387904∧aL=ae)∧((decide (v4<(a0.length:Int)))=true→((0≤v4∧v4.toNat<a0.length)∧((small (nth a0 v4))∧((0≤v4∧v4.toNat<aL.length)∧(v4.toNat<aL.length))))∧(al (aL.set v4.toNat (ak (nth a0 v4))) (IntKind.i64.wrap (v4+1))∧an (aL.set v4.toNat (ak (nth a0 v4))) (IntKind.i64.wrap (v4+1))<an aL v4))
def MU (a0:(List (List Bool))) (ae:(List (List Bool))) (al:(List (List Bool))→Int→Prop) (an:(List (List Bool))→Int→Nat):Prop:=
 (a0.length≤4611686018427387904→0≤(a0.length:Int)∧24*(a0.length:Int)≤140737488355328∧(a0.length:Int)≤4611686018427387904)∧(a0.length≤4611686018427387904→al (List.replicate (a0.length:Int).toNat ([]:(List Bool))) 0∧ ∀(aL:(List (List Bool))) (v4:Int),al aL v4→(MV al an a0 ae aL v4))
theorem Y3 (a0:(List (List Bool))) (ai:BT a0):bg Tryz.prog 45 [bG (fR a7 false) a0] (n8 (fR a7 false) (ak a0)):=(fun(al:(List (List Bool))→Int→Prop) (an:(List (List Bool))→Int→Nat) (h:MU a0 (ak a0) al an)=>bg.run (ps:=[(.l (.l .bool))]) (rs:=[(.l (.l .bool))]) (x:=(a0,())) (r:=((ak a0),())) ⟨23,cP,[FP]⟩ ⟨[10],[],[],[],[]⟩ (.lp [] [0] [] [(.l (.l .bool)),.int] [bJ 0,4] (fun aP=>[(3,.ref 0 0 aP.1.length false),(4,.i .i64 aP.2.1),(bJ 0,.blk 0 (.l .bool) aP.1 _ rfl)]) (fun aP=>al aP.1 aP.2.1) (fun aP=>an aP.1 aP.2.1) fun _=> .nil) Tryz.func45 h) (mY a0 ak ([]:(List Bool))) (nG a0) (by
 unfold MU MV
 have ai:a0.length+(a0.map List.length).sum≤1048576:=ai
 refine⟨fun ao=>⟨df _,by omega,by omega⟩,fun ao=>z1 (f:=ak) (φ:=fun v=>small (nth a0 v)) ao (x2 _) fun v _ hv=> ?_⟩
 have:=x4 List.length (eR hv)
 unfold small;omega)
def Y4:cY Tryz.prog:=⟨45,[(.l (.l .bool))],[(.l (.l .bool))],some fun x=>BT x.1,fun x=>((ak x.1),()),fun x h=>Y3 x.1 h⟩
def M7 (a0:aK) (ae:aK):Prop:=
 (small a0.bd)∧((BW a0.O)∧((BT a0.bt)∧((a0.ad=ae.ad)∧((ak a0.bd)=ae.bd)∧((ak a0.O)=ae.O)∧((ak a0.bt)=ae.bt)∧(a0.cS=ae.cS))))
theorem Zh (a0:aK) (ai:Ha a0):bg Tryz.prog 9 [.agg (bW false a0)] (.agg (bW true (ak a0))):=(fun(h:M7 a0 (ak a0))=>bg.run (ps:=[.eh]) (rs:=[.eh]) (x:=(a0,())) (r:=((ak a0),())) ⟨23,cP,[M4,Zo,Y4]⟩ ⟨[],[],[],[],[]⟩ .nil Tryz.func9 h) (by
 have ai:a0.bd.length+wu a0.O+sD a0.bt≤1048576:=ai
 unfold M7 small BW BT
 exact⟨by omega,by omega,by omega,rfl,rfl,rfl,rfl,rfl⟩)
def Po (a0:(List Int)) (J:Int) (ae:Int) (al:Int→Prop) (an:Int→Nat):Prop:=
 a0.length≤4611686018427387904→al 0∧ ∀(dD:Int),al dD→(((decide (dD<(a0.length:Int)))=false→(-1)=ae)∧((decide (dD<(a0.length:Int)))=true→((0≤dD∧dD.toNat<a0.length)∧((J==(nth a0 dD))=true→dD=ae))∧((!(J==(nth a0 dD)))=true→al (IntKind.i64.wrap (dD+1))∧an (IntKind.i64.wrap (dD+1))<an dD)))
theorem acL (a0:(List Int)) (J:Int):bg Tryz.prog 123 [bG ct a0,ax J] (ax (mu a0 J)):=(fun(al:Int→Prop) (an:Int→Nat) (h:Po a0 J (mu a0 J) al an)=>bg.run (ps:=[(.l .int),.int]) (rs:=[.int]) (x:=(a0,J,())) (r:=((mu a0 J),())) ⟨19,cP,[]⟩ ⟨[],[],[],[],[]⟩ (eb [0,1,7] [] 8 al an fun _=> .nil) Tryz.func123 h) (cv a0.length (fun j=>J==nth a0 j)) (cK a0.length) (by
 unfold Po
 intro ao
 refine⟨dt (df _),fun v a_=>⟨fun hv=> ?_,fun hv=>⟨⟨cG a_ hv,fun ai=> ?_⟩,fun ai=>dl (c_ ao) a_ hv (not_eq ai)⟩⟩⟩
 ·unfold mu;rw[o0 (q:=fun x=>J==x) a_ hv];rfl
 ·unfold mu;rw[oZ (q:=fun x=>J==x) a_ hv ai]
  have:=a_.1
  show v=(v.toNat:Int)
  omega)
def Pp:cY Tryz.prog:=⟨123,[(.l .int),.int],[.int],none,fun x=>((mu x.1 x.2.1),()),fun x h=>acL x.1 x.2.1⟩
def Pd (a0:(List Int)) (J:Int) (ae:Bool):Prop:=
 (decide ((mu a0 J) ≥ 0))=ae
theorem acx (a0:(List Int)) (J:Int):bg Tryz.prog 97 [bG ct a0,ax J] (aA (fv a0 J)):=(fun(h:Pd a0 J (fv a0 J))=>bg.run (ps:=[(.l .int),.int]) (rs:=[.bool]) (x:=(a0,J,())) (r:=((fv a0 J),())) ⟨9,cP,[Pp]⟩ ⟨[],[],[],[],[]⟩ .nil Tryz.func97 h) (by
 unfold Pd
 exact WI a0 J)
def BS:cY Tryz.prog:=⟨97,[(.l .int),.int],[.bool],none,fun x=>((fv x.1 x.2.1),()),fun x h=>acx x.1 x.2.1⟩
def LC (a0:(List Int)) (J:(List Int)) (ae:Bool) (al:Int→Prop) (an:Int→Nat):Prop:=
 a0.length≤4611686018427387904→al 0∧ ∀(v9:Int),al v9→(((decide (v9<(a0.length:Int)))=false→false=ae)∧((decide (v9<(a0.length:Int)))=true→((0≤v9∧v9.toNat<a0.length)∧((fv J (nth a0 v9))=true→true=ae))∧((!(fv J (nth a0 v9)))=true→al (IntKind.i64.wrap (v9+1))∧an (IntKind.i64.wrap (v9+1))<an v9)))
theorem Xf (a0:(List Int)) (J:(List Int)):bg Tryz.prog 96 [bG ct a0,bG ct J] (aA (meets a0 J)):=(fun(al:Int→Prop) (an:Int→Nat) (h:LC a0 J (meets a0 J) al an)=>bg.run (ps:=[(.l .int),(.l .int)]) (rs:=[.bool]) (x:=(a0,J,())) (r:=((meets a0 J),())) ⟨17,cP,[BS]⟩ ⟨[],[],[],[],[]⟩ (eb [1,7,8] [] 9 al an fun _=> .nil) Tryz.func96 h) (cv a0.length (fun j=>fv J (nth a0 j))) (cK a0.length) (by
 unfold LC
 intro ao
 refine⟨dt (df _),fun v a_=>⟨fun hv=> ?_,fun hv=>⟨⟨cG a_ hv,fun ai=> ?_⟩,fun ai=>dl (c_ ao) a_ hv (not_eq ai)⟩⟩⟩
 ·exact(yX (q:=fun x=>fv J x) a_ hv).symm
 ·exact(Cb (q:=fun x=>fv J x) a_ hv ai).symm)
def Fh:cY Tryz.prog:=⟨96,[(.l .int),(.l .int)],[.bool],none,fun x=>((meets x.1 x.2.1),()),fun x h=>Xf x.1 x.2.1⟩
noncomputable def acj:Code:=jS Tryz.f124
def G8 (a0:(List cr)) (ae:(List cr)):Prop:=
 (a0≠[]→(a0.length*16≤140737488355328∧a0.length≤4611686018427387904)∧(a0=ae))∧(a0=[]→ ∀b7:Bool,(b7=true→[]=ae)∧(b7=false→(a0.length*16≤140737488355328∧a0.length≤4611686018427387904)∧(a0=ae)))
theorem ack (a0:(List cr)) (ae:(List cr)) (h:G8 a0 ae):dw Tryz.prog 124 [bG dL a0] [] (fun r H=>r=aD 0 0 ae.length∧H=[⟨0,2,List.map dL ae⟩]):=by
 refine dw.toOwn ?_
 unfold G8 at h
 refine dw.go (fn:=Tryz.f124) [(0,bG dL a0)] Tryz.func124 (fun _ _=> ?_)
 show WpS _ (bU acj 1) _ ⟨bI 8 [(0,bG dL a0)],[],[]⟩
 refine iZ [] 0 [(2,bw)] [] [1] ?_
 refine kc ?_
 refine kc ?_
 refine cy [] 1 ?_
 refine GY 2 (some 4) [(3,bG dL a0)] dL a0 (fun hx=> ?_) (fun hx b7=> ?_)
 ·
  replace h:=h.1 hx
  refine gH [] ?_
  refine eH.normal ?_
  refine rp (.tmp 4) false (fun q3=> ?_) (fun q3=> ?_)
  ·
   cases q3
  ·
   refine gl ?_
   refine eH.normal ?_
   obtain⟨cO,h⟩:=h
   refine lg ⟨(bI 8 [(2,aD 0 0 a0.length)]),[],[⟨0,2,List.map dL a0⟩]⟩ (True) ?_ (fun q4=> ?_)
   ·
    replace h:=cO
    refine cy [] 3 ?_
    have cW:=h
    refine sf 3 (some 7) [(6,bG dL a0),(5,bw)] dL a0 (lu false (List.map dL a0)) 0 2 16 (fun r=>[⟨0,2,r⟩]) rfl cW ?_
    exact dh [(2,aD 0 0 a0.length)] trivial
   refine jT ?_
   refine np (aD 0 0 a0.length) [aD 0 0 a0.length] ?_
   exact⟨nZ [some 0],pG [some 0] rfl (by decide) ⟨rfl,(pN (b:=0) (g:=0) (sz:=2) (xs:=a0) (ys:=ae) rfl NR h),trivial⟩,(.inr (tt (by simp) rfl rfl (by have:=congrArg List.length h;simpa using this)))⟩
 ·
  replace h:=h.2 hx b7
  refine gH [] ?_
  refine eH.normal ?_
  refine rp (.tmp 4) b7 (fun hO=> ?_) (fun hO=> ?_)
  ·
   replace h:=h.1 hO
   refine lg ⟨(bI 8 [(2,bw)]),[],[]⟩ (True) ?_ (fun km=> ?_)
   ·
    refine cy [] 2 ?_
    exact dh [(2,bw)] trivial
   refine jT ?_
   refine eH.ret ?_
   refine np (bw) [bw] ?_
   exact⟨nZ [none],pG [none] rfl (by decide) ⟨rfl,trivial,trivial⟩,(.inr (Gj (by simp) rfl rfl (by rw[←h];rfl)))⟩
  ·
   replace h:=h.2 hO
   refine gl ?_
   refine eH.normal ?_
   obtain⟨lr,h⟩:=h
   refine lg ⟨(bI 8 [(2,aD 0 0 a0.length)]),[],[⟨0,2,List.map dL a0⟩]⟩ (True) ?_ (fun ls=> ?_)
   ·
    replace h:=lr
    refine cy [] 3 ?_
    have ie:=h
    refine sf 3 (some 7) [(6,bG dL a0),(5,bw)] dL a0 (lu false (List.map dL a0)) 0 2 16 (fun r=>[⟨0,2,r⟩]) rfl ie ?_
    exact dh [(2,aD 0 0 a0.length)] trivial
   refine jT ?_
   refine np (aD 0 0 a0.length) [aD 0 0 a0.length] ?_
   exact⟨nZ [some 0],pG [some 0] rfl (by decide) ⟨rfl,(pN (b:=0) (g:=0) (sz:=2) (xs:=a0) (ys:=ae) rfl NR h),trivial⟩,(.inr (tt (by simp) rfl rfl (by have:=congrArg List.length h;simpa using this)))⟩
theorem aci (a0:(List cr)) (ai:small a0):dw Tryz.prog 124 [bG dL a0] [] (fun r H=>r=aD 0 0 (ak a0).length∧H=[⟨0,2,List.map dL (ak a0)⟩]):=ack a0 (ak a0) (by
 have ai:a0.length≤1048576:=ai
 unfold G8
 refine⟨fun h=>⟨⟨by omega,by omega⟩,rfl⟩,fun h b=>⟨fun _=> ?_,fun _=>⟨⟨by omega,by omega⟩,rfl⟩⟩⟩
 exact h.symm)
noncomputable def LD:Code:=jS Tryz.f98
def Xh:List Item:=[aj 0,aj 1,aj 3,aj 4,⟨2,true,false,[3,4]⟩,⟨5,true,false,[]⟩,aj 6]
def Xi:List (List Nat):=[[],[0],[0,1],[],[3],rg 0 5,rg 0 6]
def Fi (a0:Way) (ae:(List cr)):Prop:=
 ((small a0.a1)∧(((ak a0.a1).length+a0.bP.length)*16≤140737488355328∧(ak a0.a1).length+a0.bP.length≤4611686018427387904))∧(((ak a0.a1)++a0.bP).length≤4611686018427387904∧((ak a0.a1)++a0.bP)=ae)
theorem Xj (a0:Way) (ae:(List cr)) (h:Fi a0 ae):bg Tryz.prog 98 [.agg (en false a0)] (n8 dL ae):=by
 unfold Fi at h
 refine dw.go (fn:=Tryz.f98) [(0,.agg (en false a0))] Tryz.func98 (fun _ _=> ?_)
 show WpS _ (bU LD 1) _ ⟨bI 9 [(0,.agg (en false a0))],[],[]⟩
 refine uG [] 0 [(2,bw),(1,bc 1 0)] [0,1,1] [] [(1,(en false a0))] [] ?_
 obtain⟨cW,h⟩:=h
 refine h7 [(2,aD 0 1 ((ak a0.a1)++a0.bP).length)] [] id (fun _=>[⟨1,2,List.map dL ((ak a0.a1)++a0.bP)⟩]) (True) ?_ (fun q2=> ?_)
 ·
  replace h:=cW
  refine sc [] 1 Xh Xi [] ?_
  obtain⟨q3,h⟩:=h
  refine HR 5 (some 5) [(7,bG dL a0.bP),(6,bc 1 2),(4,bG dL a0.a1),(3,bc 1 1)] [bG dL a0.a1] (fun L H=>uT Tryz.prog (j6 LD 6) [3,4] [(7,bG dL a0.bP),(6,bc 1 2),(4,bG dL a0.a1),(3,bc 1 1),(1,bc 1 0)] L H) (aD 0 0 (ak a0.a1).length) [⟨0,2,List.map dL (ak a0.a1)⟩] (aci a0.a1 q3) (aO.cons (ey.jD gq) aO.nil) (tu (fun _=>rfl) rfl) (wa (tQ (fun _=>rfl) rfl) (by kernel_rfl)) (Gh (ψ:=((true=true∧true=true∧((bc 1 2:AV)=bc 1 2))∧((true=true∧true=true∧((bG dL a0.bP:AV)=bG dL a0.bP))∧True))) (by kernel_rfl) ⟨⟨rfl,rfl,rfl⟩,⟨⟨rfl,rfl,rfl⟩,trivial⟩⟩) ?_
  have q4:=h
  refine aeb 1 (some 8) [] dL (ak a0.a1) a0.bP (lu false (List.map dL a0.bP)) 0 0 2 16 (fun _=>True) (fun r=>[⟨1,2,r⟩]) rfl q4 trivial ?_
  exact lv [(2,aD 0 1 ((ak a0.a1)++a0.bP).length)] trivial
 exact jT (tI (aD 0 1 ((ak a0.a1)++a0.bP).length) (jQ.jD (BY (sz:=2) (by simp) rfl (IV) h)))
theorem Xg (a0:Way) (ai:yi a0):bg Tryz.prog 98 [.agg (en false a0)] (n8 dL (bS a0)):=Xj a0 (bS a0) (by
 obtain⟨h1,h2⟩:=ai
 unfold Fi ak small
 exact⟨⟨h1,by omega,by omega⟩,by rw[List.length_append];omega,rfl⟩)
def Fj:cY Tryz.prog:=⟨98,[.ei],[(.l .bO)],some fun x=>yi x.1,fun x=>((bS x.1),()),fun x h=>Xg x.1 h⟩
def XM:List Item:=[aj 0,aj 1,aj 2,aj 3,aj 4,aj 5,aj 6,aj 7]
def XN:List (List Nat):=[[],[],[0,1],[],[],[3,4],[3,4,5],rg 0 7]
def LR (al:Int→Prop) (an:Int→Nat) (a0:(List Int)) (ae:Bool):Prop:=
  a0.length≤4611686018427387904→al 0∧ ∀(v6:Int),al v6→(((decide (v6<(a0.length:Int)))=false→false=ae)∧((decide (v6<(a0.length:Int)))=true→(((0≤v6∧v6≤(a0.length:Int))∧(0≤v6∧v6.toNat<a0.length))∧((fv (a0.take v6.toNat) (nth a0 v6))=true→true=ae))∧((!(fv (a0.take v6.toNat) (nth a0 v6)))=true→al (IntKind.i64.wrap (v6+1))∧an (IntKind.i64.wrap (v6+1))<an v6)))
def LQ (a0:(List Int)) (ae:Bool) (al:Int→Prop) (an:Int→Nat):Prop:=
 LR al an a0 ae
theorem XK (a0:(List Int)):bg Tryz.prog 137 [bG ct a0] (aA (dup a0)):=(fun(al:Int→Prop) (an:Int→Nat) (h:LQ a0 (dup a0) al an)=>bg.run (ps:=[(.l .int)]) (rs:=[.bool]) (x:=(a0,())) (r:=((dup a0),())) ⟨18,cP,[BS]⟩ ⟨[],[(4,XM,XN)],[],[],[]⟩ (eb [0,5] [] 6 al an fun _=> .nil) Tryz.func137 h) (cv a0.length (fun j=>fv (a0.take j.toNat) (nth a0 j))) (cK a0.length) (by
 unfold LQ LR
 intro ao
 refine⟨dt (df _),fun v a_=>⟨fun hv=> ?_,fun hv=>⟨⟨⟨⟨a_.1,a_.2.1⟩,cG a_ hv⟩,fun ai=> ?_⟩,fun ai=>dl (c_ ao) a_ hv (not_eq ai)⟩⟩⟩
 ·exact(Jk (gr a_ hv)).symm
 ·exact(Th (cG a_ hv).1 (cG a_ hv).2 ai).symm)
def XL:cY Tryz.prog:=⟨137,[(.l .int)],[.bool],none,fun x=>((dup x.1),()),fun x h=>XK x.1⟩

def Yp:List Item:=[aj 0,aj 1,aj 2,aj 3,aj 4,aj 5,aj 6,aj 7,aj 8]
def Yq:List (List Nat):=[[],[],[0,1],[0,1,2],[],[],[4,5],[4,5,6],rg 0 8]
def Mn (al:Int→Prop) (an:Int→Nat) (a0 J:(List Int)) (ae:Bool):Prop:=
  ((a0.length≤4611686018427387904)∧(J.length≤4611686018427387904)→((a0.length:Int) !=(J.length:Int))=true→false=ae)∧((a0.length≤4611686018427387904)∧(J.length≤4611686018427387904)∧((!((a0.length:Int) !=(J.length:Int)))=true)→al 0∧ ∀(v5:Int),al v5→(((decide (v5<(a0.length:Int)))=false→true=ae)∧((decide (v5<(a0.length:Int)))=true→(((0≤v5∧v5.toNat<a0.length)∧(0≤v5∧v5.toNat<J.length))∧(((nth a0 v5) !=(nth J v5))=true→false=ae))∧((!((nth a0 v5) !=(nth J v5)))=true→al (IntKind.i64.wrap (v5+1))∧an (IntKind.i64.wrap (v5+1))<an v5))))
def Mm (a0:(List Int)) (J:(List Int)) (ae:Bool) (al:Int→Prop) (an:Int→Nat):Prop:=
 Mn al an a0 J ae
theorem Yo (a0:(List Int)) (J:(List Int)):bg Tryz.prog 52 [bG ct a0,bG ct J] (aA (eqv a0 J)):=(fun(al:Int→Prop) (an:Int→Nat) (h:Mm a0 J (eqv a0 J) al an)=>bg.run (ps:=[(.l .int),(.l .int)]) (rs:=[.bool]) (x:=(a0,J,())) (r:=((eqv a0 J),())) ⟨26,cP,[]⟩ ⟨[13],[(6,Yp,Yq)],[],[],[]⟩ (eb [0,1] [] 5 al an fun _=> .nil) Tryz.func52 h) (cv a0.length (fun v=>nth a0 v !=nth J v)) (cK a0.length) (by
 unfold Mm Mn
 exact pe (ne:=fun v=>nth a0 v !=nth J v) (fun v=>by simp[eqv]))
def FN:cY Tryz.prog:=⟨52,[(.l .int),(.l .int)],[.bool],none,fun x=>((eqv x.1 x.2.1),()),fun x h=>Yo x.1 x.2.1⟩
def Mq (a0:cr) (J:cr) (ae:Bool):Prop:=
 ((a0.be !=J.be)=true→false=ae)∧((!(a0.be !=J.be))=true→((a0.bO !=J.bO)=true→false=ae)∧((!(a0.bO !=J.bO))=true→true=ae))
theorem Yv (a0:cr) (J:cr):bg Tryz.prog 134 [.agg (dL a0),.agg (dL J)] (aA (eqv a0 J)):=(fun(h:Mq a0 J (eqv a0 J))=>bg.run (ps:=[.bO,.bO]) (rs:=[.bool]) (x:=(a0,J,())) (r:=((eqv a0 J),())) ⟨15,cP,[]⟩ ⟨[],[],[],[],[]⟩ .nil Tryz.func134 h) (by
 unfold Mq
 obtain⟨c,p⟩:=a0
 obtain⟨ck,vI⟩:=J
 simp[eqv]
 intros
 simp_all)
def Yw:cY Tryz.prog:=⟨134,[.bO,.bO],[.bool],none,fun x=>((eqv x.1 x.2.1),()),fun x h=>Yv x.1 x.2.1⟩
def Yt:List Item:=[aj 0,aj 1,aj 2,aj 3,aj 4,aj 5,aj 6,aj 7,aj 8,aj 9]
def Yu:List (List Nat):=[[],[],[0,1],[0,1,2],[],[],[4,5],[4,5,6],rg 0 8,rg 0 9]
def Mp (al:Int→Prop) (an:Int→Nat) (a0 J:(List cr)) (ae:Bool):Prop:=
  ((a0.length≤4611686018427387904)∧(J.length≤4611686018427387904)→((a0.length:Int) !=(J.length:Int))=true→false=ae)∧((a0.length≤4611686018427387904)∧(J.length≤4611686018427387904)∧((!((a0.length:Int) !=(J.length:Int)))=true)→al 0∧ ∀(v5:Int),al v5→(((decide (v5<(a0.length:Int)))=false→true=ae)∧((decide (v5<(a0.length:Int)))=true→(((0≤v5∧v5.toNat<a0.length)∧(0≤v5∧v5.toNat<J.length))∧((!(eqv (nth a0 v5) (nth J v5)))=true→false=ae))∧((!(!(eqv (nth a0 v5) (nth J v5))))=true→al (IntKind.i64.wrap (v5+1))∧an (IntKind.i64.wrap (v5+1))<an v5))))
def Mo (a0:(List cr)) (J:(List cr)) (ae:Bool) (al:Int→Prop) (an:Int→Nat):Prop:=
 Mp al an a0 J ae
theorem Yr (a0:(List cr)) (J:(List cr)):bg Tryz.prog 127 [bG dL a0,bG dL J] (aA (eqv a0 J)):=(fun(al:Int→Prop) (an:Int→Nat) (h:Mo a0 J (eqv a0 J) al an)=>bg.run (ps:=[(.l .bO),(.l .bO)]) (rs:=[.bool]) (x:=(a0,J,())) (r:=((eqv a0 J),())) ⟨27,cP,[Yw]⟩ ⟨[13],[(6,Yt,Yu)],[],[],[]⟩ (eb [0,1] [] 5 al an fun _=> .nil) Tryz.func127 h) (cv a0.length (fun v=> !(eqv (nth a0 v) (nth J v)))) (cK a0.length) (by
 unfold Mo Mp
 exact pe (ne:=fun v=> !(eqv (nth a0 v) (nth J v))) (fun v=>by simp[eqv]))
def Ys:cY Tryz.prog:=⟨127,[(.l .bO),(.l .bO)],[.bool],none,fun x=>((eqv x.1 x.2.1),()),fun x h=>Yr x.1 x.2.1⟩
def MA (a0 J:Way) (ae:Bool):Prop:=
  ((!(eqv a0.ad J.ad))=true→false=ae)∧((!(!(eqv a0.ad J.ad)))=true→((!(eqv a0.a1 J.a1))=true→false=ae)∧((!(!(eqv a0.a1 J.a1)))=true→((!(eqv a0.bP J.bP))=true→false=ae)∧((!(!(eqv a0.bP J.bP)))=true→((!(eqv a0.b4 J.b4))=true→false=ae)∧((!(!(eqv a0.b4 J.b4)))=true→((!(eqv a0.dv J.dv))=true→false=ae)∧((!(!(eqv a0.dv J.dv)))=true→true=ae)))))
def Mz (a0:Way) (J:Way) (ae:Bool):Prop:=
 MA a0 J ae
theorem YJ (a0:Way) (J:Way):bg Tryz.prog 100 [.agg (en false a0),.agg (en false J)] (aA (eqv a0 J)):=(fun(h:Mz a0 J (eqv a0 J))=>bg.run (ps:=[.ei,.ei]) (rs:=[.bool]) (x:=(a0,J,())) (r:=((eqv a0 J),())) ⟨35,cP,[FN,Ys]⟩ ⟨[],[],[],[],[]⟩ .nil Tryz.func100 h) (by
 unfold Mz MA
 obtain⟨a,b,c,d,e⟩:=a0
 obtain⟨gk,bT,ck,w5,b3⟩:=J
 simp[eqv]
 refine⟨fun h h1=>absurd h1 h,fun h=>⟨fun k _ dA=>absurd dA k,?_⟩⟩
 intros
 simp_all)
def YK:cY Tryz.prog:=⟨100,[.ei,.ei],[.bool],none,fun x=>((eqv x.1 x.2.1),()),fun x h=>YJ x.1 x.2.1⟩
def YH:List Item:=[aj 0,aj 1,aj 2,aj 3,aj 4,aj 5,aj 6,aj 7,aj 8,aj 9]
def YI:List (List Nat):=[[],[],[0,1],[0,1,2],[],[],[4,5],[4,5,6],rg 0 8,rg 0 9]
def My (al:Int→Prop) (an:Int→Nat) (a0 J:(List Way)) (ae:Bool):Prop:=
  ((a0.length≤4611686018427387904)∧(J.length≤4611686018427387904)→((a0.length:Int) !=(J.length:Int))=true→false=ae)∧((a0.length≤4611686018427387904)∧(J.length≤4611686018427387904)∧((!((a0.length:Int) !=(J.length:Int)))=true)→al 0∧ ∀(v5:Int),al v5→(((decide (v5<(a0.length:Int)))=false→true=ae)∧((decide (v5<(a0.length:Int)))=true→(((0≤v5∧v5.toNat<a0.length)∧(0≤v5∧v5.toNat<J.length))∧((!(eqv (nth a0 v5) (nth J v5)))=true→false=ae))∧((!(!(eqv (nth a0 v5) (nth J v5))))=true→al (IntKind.i64.wrap (v5+1))∧an (IntKind.i64.wrap (v5+1))<an v5))))
def Mx (a0:(List Way)) (J:(List Way)) (ae:Bool) (al:Int→Prop) (an:Int→Nat):Prop:=
 My al an a0 J ae
theorem YF (a0:(List Way)) (J:(List Way)):bg Tryz.prog 53 [bG (en false) a0,bG (en false) J] (aA (eqv a0 J)):=(fun(al:Int→Prop) (an:Int→Nat) (h:Mx a0 J (eqv a0 J) al an)=>bg.run (ps:=[(.l .ei),(.l .ei)]) (rs:=[.bool]) (x:=(a0,J,())) (r:=((eqv a0 J),())) ⟨27,cP,[YK]⟩ ⟨[13],[(6,YH,YI)],[],[],[]⟩ (eb [0,1] [] 5 al an fun _=> .nil) Tryz.func53 h) (cv a0.length (fun v=> !(eqv (nth a0 v) (nth J v)))) (cK a0.length) (by
 unfold Mx My
 exact pe (ne:=fun v=> !(eqv (nth a0 v) (nth J v))) (fun v=>by simp[eqv]))
def YG:cY Tryz.prog:=⟨53,[(.l .ei),(.l .ei)],[.bool],none,fun x=>((eqv x.1 x.2.1),()),fun x h=>YF x.1 x.2.1⟩
def Yf:List Item:=[aj 0,aj 1,aj 2,aj 3,aj 4,aj 5,aj 6,aj 7,aj 8]
def Yg:List (List Nat):=[[],[],[0,1],[0,1,2],[],[],[4,5],[4,5,6],rg 0 8]
def Mg (al:Int→Prop) (an:Int→Nat) (a0 J:(List Bool)) (ae:Bool):Prop:=
  ((a0.length≤4611686018427387904)∧(J.length≤4611686018427387904)→((a0.length:Int) !=(J.length:Int))=true→false=ae)∧((a0.length≤4611686018427387904)∧(J.length≤4611686018427387904)∧((!((a0.length:Int) !=(J.length:Int)))=true)→al 0∧ ∀(v5:Int),al v5→(((decide (v5<(a0.length:Int)))=false→true=ae)∧((decide (v5<(a0.length:Int)))=true→(((0≤v5∧v5.toNat<a0.length)∧(0≤v5∧v5.toNat<J.length))∧(((nth a0 v5) !=(nth J v5))=true→false=ae))∧((!((nth a0 v5) !=(nth J v5)))=true→al (IntKind.i64.wrap (v5+1))∧an (IntKind.i64.wrap (v5+1))<an v5))))
def Mf (a0:(List Bool)) (J:(List Bool)) (ae:Bool) (al:Int→Prop) (an:Int→Nat):Prop:=
 Mg al an a0 J ae
theorem Ye (a0:(List Bool)) (J:(List Bool)):bg Tryz.prog 55 [bG a7 a0,bG a7 J] (aA (eqv a0 J)):=(fun(al:Int→Prop) (an:Int→Nat) (h:Mf a0 J (eqv a0 J) al an)=>bg.run (ps:=[(.l .bool),(.l .bool)]) (rs:=[.bool]) (x:=(a0,J,())) (r:=((eqv a0 J),())) ⟨26,cP,[]⟩ ⟨[13],[(6,Yf,Yg)],[],[],[]⟩ (eb [0,1] [] 5 al an fun _=> .nil) Tryz.func55 h) (cv a0.length (fun v=>nth a0 v !=nth J v)) (cK a0.length) (by
 unfold Mf Mg
 exact pe (ne:=fun v=>nth a0 v !=nth J v) (fun v=>by simp[eqv]))
def FM:cY Tryz.prog:=⟨55,[(.l .bool),(.l .bool)],[.bool],none,fun x=>((eqv x.1 x.2.1),()),fun x h=>Ye x.1 x.2.1⟩
def Yc:List Item:=[aj 0,aj 1,aj 2,aj 3,aj 4,aj 5,aj 6,aj 7,aj 8,aj 9]
def Yd:List (List Nat):=[[],[],[0,1],[0,1,2],[],[],[4,5],[4,5,6],rg 0 8,rg 0 9]
def Me (al:Int→Prop) (an:Int→Nat) (a0 J:(List (List Bool))) (ae:Bool):Prop:=
  ((a0.length≤4611686018427387904)∧(J.length≤4611686018427387904)→((a0.length:Int) !=(J.length:Int))=true→false=ae)∧((a0.length≤4611686018427387904)∧(J.length≤4611686018427387904)∧((!((a0.length:Int) !=(J.length:Int)))=true)→al 0∧ ∀(v5:Int),al v5→(((decide (v5<(a0.length:Int)))=false→true=ae)∧((decide (v5<(a0.length:Int)))=true→(((0≤v5∧v5.toNat<a0.length)∧(0≤v5∧v5.toNat<J.length))∧((!(eqv (nth a0 v5) (nth J v5)))=true→false=ae))∧((!(!(eqv (nth a0 v5) (nth J v5))))=true→al (IntKind.i64.wrap (v5+1))∧an (IntKind.i64.wrap (v5+1))<an v5))))
def Md (a0:(List (List Bool))) (J:(List (List Bool))) (ae:Bool) (al:Int→Prop) (an:Int→Nat):Prop:=
 Me al an a0 J ae
theorem Ya (a0:(List (List Bool))) (J:(List (List Bool))):bg Tryz.prog 54 [bG (fR a7 false) a0,bG (fR a7 false) J] (aA (eqv a0 J)):=(fun(al:Int→Prop) (an:Int→Nat) (h:Md a0 J (eqv a0 J) al an)=>bg.run (ps:=[(.l (.l .bool)),(.l (.l .bool))]) (rs:=[.bool]) (x:=(a0,J,())) (r:=((eqv a0 J),())) ⟨27,cP,[FM]⟩ ⟨[13],[(6,Yc,Yd)],[],[],[]⟩ (eb [0,1] [] 5 al an fun _=> .nil) Tryz.func54 h) (cv a0.length (fun v=> !(eqv (nth a0 v) (nth J v)))) (cK a0.length) (by
 unfold Md Me
 exact pe (ne:=fun v=> !(eqv (nth a0 v) (nth J v))) (fun v=>by simp[eqv]))
def Yb:cY Tryz.prog:=⟨54,[(.l (.l .bool)),(.l (.l .bool))],[.bool],none,fun x=>((eqv x.1 x.2.1),()),fun x h=>Ya x.1 x.2.1⟩
def Ms (a0 J:aK) (ae:Bool):Prop:=
  ((a0.ad !=J.ad)=true→false=ae)∧((!(a0.ad !=J.ad))=true→((!(eqv a0.bd J.bd))=true→false=ae)∧((!(!(eqv a0.bd J.bd)))=true→((!(eqv a0.O J.O))=true→false=ae)∧((!(!(eqv a0.O J.O)))=true→((!(eqv a0.bt J.bt))=true→false=ae)∧((!(!(eqv a0.bt J.bt)))=true→((a0.cS !=J.cS)=true→false=ae)∧((!(a0.cS !=J.cS))=true→true=ae)))))
def Mr (a0:aK) (J:aK) (ae:Bool):Prop:=
 Ms a0 J ae
theorem Yx (a0:aK) (J:aK):bg Tryz.prog 13 [.agg (bW false a0),.agg (bW false J)] (aA (eqv a0 J)):=(fun(h:Mr a0 J (eqv a0 J))=>bg.run (ps:=[.eh,.eh]) (rs:=[.bool]) (x:=(a0,J,())) (r:=((eqv a0 J),())) ⟨33,cP,[FN,YG,Yb]⟩ ⟨[],[],[],[],[]⟩ .nil Tryz.func13 h) (by
 unfold Mr Ms
 obtain⟨a,b,c,d,e⟩:=a0
 obtain⟨gk,bT,ck,w5,b3⟩:=J
 simp[eqv]
 refine⟨fun h h1=>absurd h1 h,fun h=>⟨fun k _ dA=>absurd dA k,?_⟩⟩
 intros
 simp_all)
end Go.Proofs.YtglpfccgmfhkdaaGreat.Fw
set_option linter.unusedVariables false
namespace Go.Proofs.YtglpfccgmfhkdaaGreat.Fw
open Go
theorem qc {α:Type} {xs:List α} {q:α→Bool} (h:first xs q=none): ∀x∈xs,q x=false:=by
 unfold first at h;rwa [List.findIdx?_eq_none_iff] at h
theorem yg {p:aK} (h:gp p=true):kj p=true∧(∀s∈p.bd,b8 s 0 (p.ad - 1)=true)∧(∀w∈p.O,hA p w=true)∧p.bt.length=p.O.length∧
  (∀b∈p.bt,b.length=p.O.length)∧ ∀i k:Nat,i<p.O.length→k<p.O.length→n9 p i k=false:=by
 have hb:=aa1 h
 have aI:ht p=⟨0,0⟩:=by simpa[gp] using h
 rw[Gq hb] at aI
 unfold vK at aI
 split at aI
 ·cases aI
 rename_i h1
 unfold vL at aI
 split at aI
 ·cases aI
 rename_i h2
 unfold nV at aI
 split at aI
 ·rename_i aM
  split at aI
  ·cases aI
  rename_i bx
  split at aI
  ·cases aI
  rename_i c9
  refine⟨hb,fun s hs=>by simpa using qc h1 s hs,fun w hw=>by simpa using qc h2 w hw,aM,fun b af=>by simpa using qc bx b af,fun i k hi hk=> ?_⟩
  have:=qc c9 i (List.mem_range.2 hi)
  rw[List.any_eq_false] at this
  simpa using this k (List.mem_range.2 hk)
 ·cases aI
def lK (p:aK) (i k:Int):Bool:=nth (nth p.bt i) k
structure Ip (p:aK):Prop where
 len:p.bt.length=p.O.length
 row: ∀i:Int,0≤i→i<p.O.length→(nth p.bt i).length=p.O.length
 sym: ∀i k:Int,0≤i→i<p.O.length→0≤k→k<p.O.length→lK p i k=lK p k i
 afj: ∀i k:Int,0≤i→i<p.O.length→0≤k→k<p.O.length→i≠k→meets (nth p.O i).ad (nth p.O k).ad=true→lK p i k=true
theorem AP {x n:Int} (h:b8 x 0 (n - 1)=true):0≤x∧x<n:=by have:=xS.1 h;omega
theorem FW {l:List Int} {n:Int} (h:gO l n=true):l.length≤30∧ ∀x∈l,0≤x∧x<n:=by
 have:=ti.1 h
 exact⟨this.1,fun x hx=>AP (this.2.1 x hx)⟩
theorem Bo {p:aK} (h:gp p=true):ul p:=by
 obtain⟨h1,h2,aM,bx,c9,e6⟩:=yg h
 have hb:=tA.1 h1
 have hw: ∀w∈p.O,_:=fun w hw=>n6.1 (aM w hw)
 refine⟨by omega,hb.2.2.2,hb.2.2.1,fun w m=>⟨(hw w m).1,FW (hw w m).2.1⟩,fun w m=>FW (hw w m).2.2.1,fun w m=>FW (hw w m).2.2.2.1,fun w m=> ?_,fun x hx=>AP (h2 x hx)⟩
 have aE:=mv.1 (hw w m).2.2.2.2.1
 have hf:=mv.1 (hw w m).2.2.2.2.2.1
 refine⟨aE.1,hf.1,fun x hx=> ?_⟩
 rcases List.mem_append.1 hx with hx | hx
 ·have:=aE.2.1 x hx
  rw[Bool.and_eq_true] at this;exact AP this.1
 ·have:=hf.2.1 x hx
  rw[Bool.and_eq_true] at this;exact AP this.1
theorem Bn {p:aK} (h:gp p=true):Ip p:=by
 obtain⟨h1,h2,aM,bx,c9,e6⟩:=yg h
 have key: ∀i k:Int,0≤i→i<p.O.length→0≤k→k<p.O.length→lK p i k=lK p k i∧(i≠k→meets (nth p.O i).ad (nth p.O k).ad=true→lK p i k=true):=fun i k i0 i1 bf dA=>by
  have:=e6 i.toNat k.toNat (by omega) (by omega)
  unfold n9 rk at this
  rw[nR i0,nR bf,nR i0,nR bf,nR i0,nR bf] at this
  rw[Bool.or_eq_false_iff] at this
  refine⟨by unfold lK;simpa using this.1,fun bY hm=> ?_⟩
  have h2:=this.2
  rw[hm,Bool.and_true] at h2
  have aZ:decide (i.toNat≠k.toNat)=true:=by simpa using(show i.toNat≠k.toNat by omega)
  rw[aZ] at h2
  unfold lK
  simpa using h2
 exact⟨bx,fun i i0 i1=>c9 _ (eR (by omega)),fun i k i0 i1 bf dA=>(key i k i0 i1 bf dA).1,fun i k i0 i1 bf dA=>(key i k i0 i1 bf dA).2⟩
def rE (p:aK) (f:Frame) (i:Int):Bool:= !((decide ((nth f.O i).az<0)) || ((decide ((nth f.O i).az>4)) || ((((nth f.O i).aa.length:Int) !=((nth p.O i).ad.length:Int)) || ((decide ((nth f.O i).ab<0)) || (decide ((nth f.O i).ab ≥ ((nth p.O i).ad.length:Int)))))))
def sU (f:Frame) (i:Int):Bool:=bif ((nth f.O i).az !=4) then(!(((nth f.O i).ab !=0) || (ja (nth f.O i).aa true))) else(!(ja ((nth f.O i).aa.take (nth f.O i).ab.toNat) false))
def sV (p:aK) (f:Frame) (i:Int):Bool:=bif ((nth f.O i).az==3) then(!((decide ((nth f.O i).au<1)) || (decide ((nth f.O i).au>p.cS)))) else(!((nth f.O i).au !=0))
def sW (f:Frame) (i:Int):Bool:=bif ((nth f.O i).az==0) then(!(nth f.O i).ar) else(!(bif ((nth f.O i).az==2) then((nth f.O i).az==2) else((nth f.O i).az==3)) || (!(!(nth f.O i).ar)))
theorem Ak (p:aK) (f:Frame) (i:Int):gV p f i=(rE p f i&&(sU f i&&(sV p f i&&sW f i))):=by
 unfold gV rE sU sV sW
 simp only
 generalize nth f.O i=h
 generalize (nth p.O i).ad.length=n
 rcases h with⟨s,g,b,d,t⟩
 have aR:b.all (fun x=> !x)= !ja b true:=by
  cases h:ja b true with
  | true=>
   rw[List.all_eq_false.2 ⟨true,u1.1 h,by simp⟩];rfl
  | false=>
   rw[List.all_eq_true.2 fun x hx=>by
    cases x with
    | false=>rfl
    | true=>rw[u1.2 hx] at h;cases h];rfl
 have e2:(b.take g.toNat).all (fun x=>x)= !ja (b.take g.toNat) false:=by
  cases h:ja (b.take g.toNat) false with
  | true=>
   rw[List.all_eq_false.2 ⟨false,u1.1 h,by simp⟩];rfl
  | false=>
   rw[List.all_eq_true.2 fun x hx=>by
    cases x with
    | true=>rfl
    | false=>rw[u1.2 hx] at h;cases h];rfl
 simp only
 rw[aR,e2]
 have cZ:b8 s 0 4= !((decide (s<0)) || (decide (s>4))):=by unfold b8;rw[Bool.eq_iff_iff];simp
 have dg:decide (b.length=n)= !((b.length:Int) !=(n:Int)):=by rw[Bool.eq_iff_iff];simp;omega
 have fK:b8 g 0 ((n:Int) - 1)= !((decide (g<0)) || (decide (g ≥ (n:Int)))):=by unfold b8;rw[Bool.eq_iff_iff];simp;omega
 have nn:b8 t 1 p.cS= !((decide (t<1)) || (decide (t>p.cS))):=by unfold b8;rw[Bool.eq_iff_iff];simp
 rw[cZ,dg,fK,nn]
 generalize ja b true=B
 have aQ:g=0→ja (b.take g.toNat) false=false:=fun h=>by subst h;rfl
 generalize ja (b.take g.toNat) false=C at aQ
 generalize (decide (s<0))=bC
 generalize (decide (s>4))=bV
 generalize ((b.length:Int) !=(n:Int))=Q7
 generalize (decide (g<0))=afD
 generalize (decide (g ≥ (n:Int)))=afE
 generalize (decide (t<1))=afF
 generalize (decide (t>p.cS))=afG
 have hs:s=0∨s=2∨s=3∨s=4∨(s≠0∧s≠2∧s≠3∧s≠4):=by omega
 have aZ:decide (t=0)= !(t !=0):=by rw[Bool.eq_iff_iff];simp
 have qm:decide (g=0)= !(g !=0):=by rw[Bool.eq_iff_iff];simp
 rw[aZ,qm]
 cases KD:(g !=0) with
 | false=>
  have:C=false:=aQ (by simpa using KD)
  subst this
  generalize (t !=0)=aeF
  rcases hs with rfl | rfl | rfl | rfl | ⟨aI,h2,aM,bx⟩
  ·cases B<;>cases d<;>simp[Bool.and_assoc]
  ·cases B<;>cases d<;>simp[Bool.and_assoc]
  ·cases B<;>cases d<;>simp[Bool.and_assoc]
  ·cases B<;>cases d<;>simp[Bool.and_assoc]
  ·have z0:(s==0)=false:=by simpa using aI
   have z2:(s==2)=false:=by simpa using h2
   have z3:(s==3)=false:=by simpa using aM
   have z4:(s !=4)=true:=by simpa using bx
   rw[z0,z2,z3,z4]
   simp only[aI,h2,aM,bx,if_false,decide_false,decide_true,ne_eq,not_false_eq_true]
   cases B<;>cases d<;>simp[Bool.and_assoc]
 | true=>
  clear aQ KD
  generalize (t !=0)=aeF
  rcases hs with rfl | rfl | rfl | rfl | ⟨aI,h2,aM,bx⟩
  ·cases B<;>cases C<;>cases d<;>simp[Bool.and_assoc]
  ·cases B<;>cases C<;>cases d<;>simp[Bool.and_assoc]
  ·cases B<;>cases C<;>cases d<;>simp[Bool.and_assoc]
  ·cases B<;>cases C<;>cases d<;>simp[Bool.and_assoc]
  ·have z0:(s==0)=false:=by simpa using aI
   have z2:(s==2)=false:=by simpa using h2
   have z3:(s==3)=false:=by simpa using aM
   have z4:(s !=4)=true:=by simpa using bx
   rw[z0,z2,z3,z4]
   simp only[aI,h2,aM,bx,if_false,decide_false,decide_true,ne_eq,not_false_eq_true]
   cases B<;>cases C<;>cases d<;>simp[Bool.and_assoc]
def nh (x:cJ):Bool:=b8 x.cz 1 2&&b8 x.a1 0 2
def kV (p:aK) (f:Frame) (i k:Int):Bool:=(i !=k)&&(lK p i k&&(((nth f.O i).az !=0)&&((nth f.O k).az !=0)))
def ry (p:aK) (f:Frame):Bool:= !((!(gp p)) || ((!f.ok) || (((f.aC.length:Int) !=p.ad) || (((f.aq.length:Int) !=(p.bd.length:Int)) || ((f.O.length:Int) !=(p.O.length:Int))))))
theorem xa {p:aK} {f:Frame}:ry p f=true↔gp p=true∧f.ok=true∧(f.aC.length:Int)=p.ad∧f.aq.length=p.bd.length∧f.O.length=p.O.length:=by
 unfold ry
 simp only[Bool.not_eq_true',Bool.or_eq_false_iff,Bool.not_eq_false',bne_eq_false_iff_eq]
 constructor
 ·rintro⟨a,b,c,d,e⟩;exact⟨a,b,c,by omega,by omega⟩
 ·rintro⟨a,b,c,d,e⟩;exact⟨a,b,c,by omega,by omega⟩
theorem R0 {p:aK} {f:Frame}:CH p f=true↔ ∀i k:Int,0≤i→i<f.O.length→0≤k→k<f.O.length→kV p f i k=false:=by
 unfold CH
 rw[List.all_eq_true]
 have key: ∀i k:Nat,(decide (i=k) || !rk p i k || decide ((nth f.O i).az=0) || decide ((nth f.O k).az=0))= !kV p f i k:=fun i k=>by
  unfold kV lK rk
  have aR:decide (i=k)= !((i:Int) !=(k:Int)):=by rw[Bool.eq_iff_iff];simp;omega
  have e2: ∀x:Int,decide (x=0)= !(x !=0):=fun x=>by rw[Bool.eq_iff_iff];simp
  rw[aR,e2,e2]
  cases((i:Int) !=(k:Int))<;>cases nth (nth p.bt (i:Int)) (k:Int)<;>cases((nth f.O (i:Int)).az !=0)<;>cases((nth f.O (k:Int)).az !=0)<;>rfl
 constructor
 ·intro h i k i0 i1 bf dA
  have h1:=h i.toNat (List.mem_range.2 (by omega))
  rw[List.all_eq_true] at h1
  have h2:=h1 k.toNat (List.mem_range.2 (by omega))
  rw[key,Int.toNat_of_nonneg i0,Int.toNat_of_nonneg bf] at h2
  simpa using h2
 ·intro h i hi
  rw[List.all_eq_true]
  intro k hk
  rw[key,h i k (by omega) (by have:=List.mem_range.1 hi;omega) (by omega) (by have:=List.mem_range.1 hk;omega)];rfl
theorem xb {p:aK} {f:Frame}:hJ p f=true↔ry p f=true∧(∀x∈f.aq,nh x=true)∧(∀i:Int,0≤i→i<f.O.length→gV p f i=true)∧
  (∀i k:Int,0≤i→i<f.O.length→0≤k→k<f.O.length→kV p f i k=false)∧f.O=(mE p f).O:=by
 unfold hJ nq
 rw[xa,←R0]
 simp only[Bool.and_eq_true,decide_eq_true_eq,List.all_eq_true,List.mem_range]
 constructor
 ·rintro⟨⟨⟨⟨⟨⟨⟨⟨a,b⟩,c⟩,d⟩,e⟩,g⟩,h⟩,i⟩,j⟩
  refine⟨⟨a,b,c,d,e⟩,fun x hx=>by unfold nh;rw[Bool.and_eq_true];exact g x hx,fun q b5 q1=> ?_,i,j⟩
  have:=h q.toNat (by omega)
  rwa [Int.toNat_of_nonneg b5] at this
 ·rintro⟨⟨a,b,c,d,e⟩,g,h,i,j⟩
  exact⟨⟨⟨⟨⟨⟨⟨⟨a,b⟩,c⟩,d⟩,e⟩,fun x hx=>by have:=g x hx;unfold nh at this;rwa [Bool.and_eq_true] at this⟩,fun q af=>h q (by omega) (by omega)⟩,i⟩,j⟩
theorem DZ {p:aK} {f:Frame} (hb:ry p f=true) (bD: ∀i:Int,0≤i→i<f.O.length→rE p f i=true):kO p f:=by
 obtain⟨h1,h2,aM,bx,c9⟩:=xa.1 hb
 have key: ∀i:Nat,i<f.O.length→((nth f.O i).aa.length:Int)=((nth p.O i).ad.length:Int)∧0≤(nth f.O i).ab∧(nth f.O i).ab<((nth p.O i).ad.length:Int):=fun i hi=>by
  have:=bD i (by omega) (by omega)
  unfold rE at this
  simp only[Bool.not_eq_true',Bool.or_eq_false_iff,bne_eq_false_iff_eq,decide_eq_false_iff_not] at this
  exact⟨this.2.2.1,by omega,by omega⟩
 refine⟨aM,bx,c9,fun i h w aR e2=> ?_,fun h hm=> ?_⟩
 ·have hi:=(List.getElem?_eq_some_iff.1 aR).1
  have ap:=(List.getElem?_eq_some_iff.1 e2).1
  have:=(key i hi).1
  rw[je hi,je ap,(List.getElem?_eq_some_iff.1 aR).2,(List.getElem?_eq_some_iff.1 e2).2] at this
  omega
 ·obtain⟨i,hi,rfl⟩:=List.mem_iff_getElem.1 hm
  have:=key i hi
  rw[je hi] at this
  omega
theorem RZ {p:aK} {f:Frame} {i k:Int} (c5:Ip p) (aE:f.O.length=p.O.length) (i0:0≤i) (i1:i<f.O.length) (bf:0≤k) (dA:k<f.O.length):kV p f i k=kV p f k i:=by
 unfold kV
 rw[c5.sym i k i0 (by omega) bf (by omega),show(i !=k)=(k !=i) by rw[Bool.eq_iff_iff];simp;omega,Bool.and_comm ((nth f.O i).az !=0)]
def vW (p:aK) (f:Frame) (n:Nat) (i:Int):Bool:=(List.range n).any fun k=>kV p f i k
theorem aa5 (x:cJ):(bif (x.cz !=1) then((x.cz !=2) || ((decide (x.a1<0)) || (decide (x.a1>2)))) else((decide (x.a1<0)) || (decide (x.a1>2))))= !nh x:=by
 unfold nh b8
 by_cases h:x.cz=1
 ·rw[h,Bool.eq_iff_iff];simp
 ·have:(x.cz !=1)=true:=by simpa using h
  rw[this,Bool.eq_iff_iff];simp;omega
def yJ (h:ac):Prop:=h.aa.length≤1048576
def BV (w:List ac):Prop:=sX w≤1048576
def BU (f:Frame):Prop:=oi f≤1048576
theorem Ps {f:Frame} (h:BU f):nr f:=by
 have h:f.aC.length+f.aq.length+(f.O.length+(f.O.map fun h=>h.aa.length).sum)≤1048576:=h
 refine⟨by omega,by omega,by omega,fun x hx=> ?_⟩
 have:=x4 (fun h:ac=>h.aa.length) hx
 omega
end Go.Proofs.YtglpfccgmfhkdaaGreat.Fw
set_option linter.unusedVariables false
set_option maxRecDepth 100000
set_option maxHeartbeats 4000000
set_option linter.unusedSimpArgs false
namespace Go.Proofs.YtglpfccgmfhkdaaGreat.Fw
open Go
attribute [local irreducible] evS evSD WpS Weak Oper.looksAt
def Mv (a0:cJ) (J:cJ) (ae:Bool):Prop:=
 ((a0.cz !=J.cz)=true→false=ae)∧((!(a0.cz !=J.cz))=true→((a0.a1 !=J.a1)=true→false=ae)∧((!(a0.a1 !=J.a1))=true→true=ae))
theorem YC (a0:cJ) (J:cJ):bg Tryz.prog 101 [.agg (bH a0),.agg (bH J)] (aA (eqv a0 J)):=(fun(h:Mv a0 J (eqv a0 J))=>bg.run (ps:=[.ev,.ev]) (rs:=[.bool]) (x:=(a0,J,())) (r:=((eqv a0 J),())) ⟨15,cP,[]⟩ ⟨[],[],[],[],[]⟩ .nil Tryz.func101 h) (by
 unfold Mv
 obtain⟨c,p⟩:=a0
 obtain⟨ck,vI⟩:=J
 simp[eqv]
 intros
 simp_all)
def YD:cY Tryz.prog:=⟨101,[.ev,.ev],[.bool],none,fun x=>((eqv x.1 x.2.1),()),fun x h=>YC x.1 x.2.1⟩
def YA:List Item:=[aj 0,aj 1,aj 2,aj 3,aj 4,aj 5,aj 6,aj 7,aj 8,aj 9]
def YB:List (List Nat):=[[],[],[0,1],[0,1,2],[],[],[4,5],[4,5,6],rg 0 8,rg 0 9]
def Mu (al:Int→Prop) (an:Int→Nat) (a0 J:(List cJ)) (ae:Bool):Prop:=
  ((a0.length≤4611686018427387904)∧(J.length≤4611686018427387904)→((a0.length:Int) !=(J.length:Int))=true→false=ae)∧((a0.length≤4611686018427387904)∧(J.length≤4611686018427387904)∧((!((a0.length:Int) !=(J.length:Int)))=true)→al 0∧ ∀(v5:Int),al v5→(((decide (v5<(a0.length:Int)))=false→true=ae)∧((decide (v5<(a0.length:Int)))=true→(((0≤v5∧v5.toNat<a0.length)∧(0≤v5∧v5.toNat<J.length))∧((!(eqv (nth a0 v5) (nth J v5)))=true→false=ae))∧((!(!(eqv (nth a0 v5) (nth J v5))))=true→al (IntKind.i64.wrap (v5+1))∧an (IntKind.i64.wrap (v5+1))<an v5))))
def Mt (a0:(List cJ)) (J:(List cJ)) (ae:Bool) (al:Int→Prop) (an:Int→Nat):Prop:=
 Mu al an a0 J ae
theorem Yy (a0:(List cJ)) (J:(List cJ)):bg Tryz.prog 56 [bG bH a0,bG bH J] (aA (eqv a0 J)):=(fun(al:Int→Prop) (an:Int→Nat) (h:Mt a0 J (eqv a0 J) al an)=>bg.run (ps:=[(.l .ev),(.l .ev)]) (rs:=[.bool]) (x:=(a0,J,())) (r:=((eqv a0 J),())) ⟨27,cP,[YD]⟩ ⟨[13],[(6,YA,YB)],[],[],[]⟩ (eb [0,1] [] 5 al an fun _=> .nil) Tryz.func56 h) (cv a0.length (fun v=> !(eqv (nth a0 v) (nth J v)))) (cK a0.length) (by
 unfold Mt Mu
 exact pe (ne:=fun v=> !(eqv (nth a0 v) (nth J v))) (fun v=>by simp[eqv]))
def Yz:cY Tryz.prog:=⟨56,[(.l .ev),(.l .ev)],[.bool],none,fun x=>((eqv x.1 x.2.1),()),fun x h=>Yy x.1 x.2.1⟩
def Ml (a0 J:ac) (ae:Bool):Prop:=
  ((a0.az !=J.az)=true→false=ae)∧((!(a0.az !=J.az))=true→((a0.ab !=J.ab)=true→false=ae)∧((!(a0.ab !=J.ab))=true→((!(eqv a0.aa J.aa))=true→false=ae)∧((!(!(eqv a0.aa J.aa)))=true→((a0.ar !=J.ar)=true→false=ae)∧((!(a0.ar !=J.ar))=true→((a0.au !=J.au)=true→false=ae)∧((!(a0.au !=J.au))=true→true=ae)))))
def Mk (a0:ac) (J:ac) (ae:Bool):Prop:=
 Ml a0 J ae
theorem Ym (a0:ac) (J:ac):bg Tryz.prog 102 [.agg (cR false a0),.agg (cR false J)] (aA (eqv a0 J)):=(fun(h:Mk a0 J (eqv a0 J))=>bg.run (ps:=[.held,.held]) (rs:=[.bool]) (x:=(a0,J,())) (r:=((eqv a0 J),())) ⟨31,cP,[FM]⟩ ⟨[],[],[],[],[]⟩ .nil Tryz.func102 h) (by
 unfold Mk Ml
 obtain⟨a,b,c,d,e⟩:=a0
 obtain⟨gk,bT,ck,w5,b3⟩:=J
 simp[eqv]
 refine⟨fun h h1=>absurd h1 h,fun h=>⟨fun k _ dA=>absurd dA k,?_⟩⟩
 intros
 simp_all)
def Yn:cY Tryz.prog:=⟨102,[.held,.held],[.bool],none,fun x=>((eqv x.1 x.2.1),()),fun x h=>Ym x.1 x.2.1⟩
def Yk:List Item:=[aj 0,aj 1,aj 2,aj 3,aj 4,aj 5,aj 6,aj 7,aj 8,aj 9]
def Yl:List (List Nat):=[[],[],[0,1],[0,1,2],[],[],[4,5],[4,5,6],rg 0 8,rg 0 9]
def Mj (al:Int→Prop) (an:Int→Nat) (a0 J:(List ac)) (ae:Bool):Prop:=
  ((a0.length≤4611686018427387904)∧(J.length≤4611686018427387904)→((a0.length:Int) !=(J.length:Int))=true→false=ae)∧((a0.length≤4611686018427387904)∧(J.length≤4611686018427387904)∧((!((a0.length:Int) !=(J.length:Int)))=true)→al 0∧ ∀(v5:Int),al v5→(((decide (v5<(a0.length:Int)))=false→true=ae)∧((decide (v5<(a0.length:Int)))=true→(((0≤v5∧v5.toNat<a0.length)∧(0≤v5∧v5.toNat<J.length))∧((!(eqv (nth a0 v5) (nth J v5)))=true→false=ae))∧((!(!(eqv (nth a0 v5) (nth J v5))))=true→al (IntKind.i64.wrap (v5+1))∧an (IntKind.i64.wrap (v5+1))<an v5))))
def Mi (a0:(List ac)) (J:(List ac)) (ae:Bool) (al:Int→Prop) (an:Int→Nat):Prop:=
 Mj al an a0 J ae
theorem Yi (a0:(List ac)) (J:(List ac)):bg Tryz.prog 57 [bG (cR false) a0,bG (cR false) J] (aA (eqv a0 J)):=(fun(al:Int→Prop) (an:Int→Nat) (h:Mi a0 J (eqv a0 J) al an)=>bg.run (ps:=[(.l .held),(.l .held)]) (rs:=[.bool]) (x:=(a0,J,())) (r:=((eqv a0 J),())) ⟨27,cP,[Yn]⟩ ⟨[13],[(6,Yk,Yl)],[],[],[]⟩ (eb [0,1] [] 5 al an fun _=> .nil) Tryz.func57 h) (cv a0.length (fun v=> !(eqv (nth a0 v) (nth J v)))) (cK a0.length) (by
 unfold Mi Mj
 exact pe (ne:=fun v=> !(eqv (nth a0 v) (nth J v))) (fun v=>by simp[eqv]))
def Yj:cY Tryz.prog:=⟨57,[(.l .held),(.l .held)],[.bool],none,fun x=>((eqv x.1 x.2.1),()),fun x h=>Yi x.1 x.2.1⟩
def Mh (a0:Frame) (J:Frame) (ae:Bool):Prop:=
 ((a0.ok !=J.ok)=true→false=ae)∧((!(a0.ok !=J.ok))=true→((!(eqv a0.aC J.aC))=true→false=ae)∧((!(!(eqv a0.aC J.aC)))=true→((!(eqv a0.aq J.aq))=true→false=ae)∧((!(!(eqv a0.aq J.aq)))=true→((!(eqv a0.O J.O))=true→false=ae)∧((!(!(eqv a0.O J.O)))=true→true=ae))))
theorem Yh (a0:Frame) (J:Frame):bg Tryz.prog 14 [.agg (b9 false a0),.agg (b9 false J)] (aA (eqv a0 J)):=(fun(h:Mh a0 J (eqv a0 J))=>bg.run (ps:=[.frame,.frame]) (rs:=[.bool]) (x:=(a0,J,())) (r:=((eqv a0 J),())) ⟨28,cP,[FM,Yz,Yj]⟩ ⟨[],[],[],[],[]⟩ .nil Tryz.func14 h) (by
 unfold Mh
 obtain⟨a,b,c,d⟩:=a0
 obtain⟨gk,bT,ck,w5⟩:=J
 simp[eqv]
 refine⟨fun h h1=>absurd h1 h,fun h=>⟨fun k _ dA=>absurd dA k,?_⟩⟩
 intros
 simp_all)
def MO (a0:(List cJ)) (J:Int) (ae:Int):Prop:=
 a0.length≤4611686018427387904→((decide ((IntKind.i64.wrap (J - (a0.length:Int)))<0))=true→(-1)=ae)∧((!(decide ((IntKind.i64.wrap (J - (a0.length:Int)))<0)))=true→(IntKind.i64.wrap (J - (a0.length:Int)))=ae)
theorem YX (a0:(List cJ)) (J:Int) (ai:fJ a0 J):bg Tryz.prog 38 [bG bH a0,ax J] (ax (ci a0 J)):=(fun(h:MO a0 J (ci a0 J))=>bg.run (ps:=[(.l .ev),.int]) (rs:=[.int]) (x:=(a0,J,())) (r:=((ci a0 J),())) ⟨12,cP,[]⟩ ⟨[],[],[],[],[]⟩ .nil Tryz.func38 h) (by
 unfold MO
 exact fun ao=>B4 ai ao)
def YY:cY Tryz.prog:=⟨38,[(.l .ev),.int],[.int],some fun x=>fJ x.1 x.2.1,fun x=>((ci x.1 x.2.1),()),fun x h=>YX x.1 x.2.1 h⟩
def MI (a0:ac) (J:Int) (ae:Int):Prop:=
 (fJ a0.aa J)∧(((decide ((ci a0.aa J)<0))=true→(-1)=ae)∧((!(decide ((ci a0.aa J)<0)))=true→(ci a0.aa J)=ae))
theorem YR (a0:ac) (J:Int) (ai:fJ a0 J):bg Tryz.prog 86 [.agg (cR false a0),ax J] (ax (pQ a0 J)):=(fun(h:MI a0 J (pQ a0 J))=>bg.run (ps:=[.held,.int]) (rs:=[.int]) (x:=(a0,J,())) (r:=((pQ a0 J),())) ⟨12,cP,[FO]⟩ ⟨[],[],[],[],[]⟩ .nil Tryz.func86 h) (by
 unfold MI pQ ci
 have ai:0≤J∧J≤1048576:=ai
 exact⟨ai,n0 (m:=0) ai (by omega) fun c k=>rfl⟩)
def YS:cY Tryz.prog:=⟨86,[.held,.int],[.int],some fun x=>fJ x.1 x.2.1,fun x=>((pQ x.1 x.2.1),()),fun x h=>YR x.1 x.2.1 h⟩
def MH (al:Int→Int→Prop) (an:Int→Int→Nat) (a0:(List ac)) (ae v1 v5:Int):Prop:=
  ((decide (v5<(a0.length:Int)))=false→v1=ae)∧((decide (v5<(a0.length:Int)))=true→(((0≤v5∧v5.toNat<a0.length)∧(fJ (nth a0 v5) v1))∧((decide ((pQ (nth a0 v5) v1)<0))=true→(-1)=ae))∧((!(decide ((pQ (nth a0 v5) v1)<0)))=true→al (pQ (nth a0 v5) v1) (IntKind.i64.wrap (v5+1))∧an (pQ (nth a0 v5) v1) (IntKind.i64.wrap (v5+1))<an v1 v5))
def MG (a0:(List ac)) (J:Int) (ae:Int) (al:Int→Int→Prop) (an:Int→Int→Nat):Prop:=
 a0.length≤4611686018427387904→((decide ((IntKind.i64.wrap (J - (a0.length:Int)))<0))=true→(-1)=ae)∧((!(decide ((IntKind.i64.wrap (J - (a0.length:Int)))<0)))=true→al (IntKind.i64.wrap (J - (a0.length:Int))) 0∧ ∀(v1:Int) (v5:Int),al v1 v5→(MH al an a0 ae v1 v5))
theorem YP (a0:(List ac)) (J:Int) (ai:fJ a0 J):bg Tryz.prog 39 [bG (cR false) a0,ax J] (ax (si a0 J)):=(fun(al:Int→Int→Prop) (an:Int→Int→Nat) (h:MG a0 J (si a0 J) al an)=>bg.run (ps:=[(.l .held),.int]) (rs:=[.int]) (x:=(a0,J,())) (r:=((si a0 J),())) ⟨27,cP,[YS]⟩ ⟨[14],[],[],[],[]⟩ (.lp [] [0] [] [.int,.int] [1,5] (fun aP=>[(1,.i .i64 aP.1),(5,.i .i64 aP.2.1)]) (fun aP=>al aP.1 aP.2.1) (fun aP=>an aP.1 aP.2.1) fun _=> .nil) Tryz.func39 h) (wi a0 (fun h=>h.aa.length) J) (wj a0) (by
 unfold MG MH
 exact fun ao=>HL (g:=pQ) (fun _ _=>rfl) ai ao)
def YQ:cY Tryz.prog:=⟨39,[(.l .held),.int],[.int],some fun x=>fJ x.1 x.2.1,fun x=>((si x.1 x.2.1),()),fun x h=>YP x.1 x.2.1 h⟩
def MF (a0:Frame) (J ae:Int):Prop:=
  ((decide ((ci a0.aq (ci a0.aC J))<0))=true→(-1)=ae)∧((!(decide ((ci a0.aq (ci a0.aC J))<0)))=true→(fJ a0.O (ci a0.aq (ci a0.aC J)))∧(((decide ((si a0.O (ci a0.aq (ci a0.aC J)))<0))=true→(-1)=ae)∧((!(decide ((si a0.O (ci a0.aq (ci a0.aC J)))<0)))=true→(si a0.O (ci a0.aq (ci a0.aC J)))=ae)))
def ME (a0:Frame) (J:Int) (ae:Int):Prop:=
 (fJ a0.aC J)∧(((decide ((ci a0.aC J)<0))=true→(-1)=ae)∧((!(decide ((ci a0.aC J)<0)))=true→(fJ a0.aq (ci a0.aC J))∧(MF a0 J ae)))
theorem YO (a0:Frame) (J:Int) (ai:fJ a0 J):bg Tryz.prog 7 [.agg (b9 false a0),ax J] (ax (q7 a0 J)):=(fun(h:ME a0 J (q7 a0 J))=>bg.run (ps:=[.frame,.int]) (rs:=[.int]) (x:=(a0,J,())) (r:=((q7 a0 J),())) ⟨24,cP,[FO,YY,YQ]⟩ ⟨[],[],[],[],[]⟩ .nil Tryz.func7 h) (by
 unfold ME MF q7 oi ci si
 have ai:0≤J∧J≤1048576:=ai
 refine⟨ai,n0 (m:=a0.aq.length+sX a0.O) ai (by omega) fun c k=>⟨k,?_⟩⟩
 rw[qL ai.1 c]
 refine n0 (m:=sX a0.O) ai (by omega) fun c k=>⟨k,?_⟩
 rw[qL ai.1 c]
 exact n0 (m:=0) ai (by omega) fun c k=>rfl)
def Zk (a0:cJ) (ae:cJ):Prop:=
 (a0.cz=ae.cz)∧(a0.a1=ae.a1)
theorem Zl (a0:cJ):bg Tryz.prog 91 [.agg (bH a0)] (.agg (bH (ak a0))):=(fun(h:Zk a0 (ak a0))=>bg.run (ps:=[.ev]) (rs:=[.ev]) (x:=(a0,())) (r:=((ak a0),())) ⟨11,cP,[]⟩ ⟨[],[],[],[],[]⟩ .nil Tryz.func91 h) (by
 exact⟨rfl,rfl⟩)
def Zm:cY Tryz.prog:=⟨91,[.ev],[.ev],none,fun x=>((ak x.1),()),fun x h=>Zl x.1⟩
def M9 (al:(List cJ)→Int→Prop) (an:(List cJ)→Int→Nat) (a0 ae:(List cJ)):Prop:=
  al (List.replicate (a0.length:Int).toNat ({cz:=(0:Int),a1:=(0:Int)}:cJ)) 0∧ ∀(aL:(List cJ)) (v4:Int),al aL v4→(((decide (v4<(a0.length:Int)))=false→aL.length≤4611686018427387904∧aL=ae)∧((decide (v4<(a0.length:Int)))=true→((0≤v4∧v4.toNat<a0.length)∧((0≤v4∧v4.toNat<aL.length)∧(v4.toNat<aL.length)))∧(al (aL.set v4.toNat (ak (nth a0 v4))) (IntKind.i64.wrap (v4+1))∧an (aL.set v4.toNat (ak (nth a0 v4))) (IntKind.i64.wrap (v4+1))<an aL v4)))
def M8 (a0:(List cJ)) (ae:(List cJ)) (al:(List cJ)→Int→Prop) (an:(List cJ)→Int→Nat):Prop:=
 (a0.length≤4611686018427387904→0≤(a0.length:Int)∧16*(a0.length:Int)≤140737488355328∧(a0.length:Int)≤4611686018427387904)∧(a0.length≤4611686018427387904→M9 al an a0 ae)
theorem Zi (a0:(List cJ)) (ai:small a0):bg Tryz.prog 47 [bG bH a0] (n8 bH (ak a0)):=(fun(al:(List cJ)→Int→Prop) (an:(List cJ)→Int→Nat) (h:M8 a0 (ak a0) al an)=>bg.run (ps:=[(.l .ev)]) (rs:=[(.l .ev)]) (x:=(a0,())) (r:=((ak a0),())) ⟨23,cP,[Zm]⟩ ⟨[10],[],[],[],[]⟩ (.lp [] [0] [] [(.l .ev),.int] [bJ 0,4] (fun aP=>[(3,.ref 0 0 aP.1.length false),(4,.i .i64 aP.2.1),(bJ 0,.blk 0 .ev aP.1 _ rfl)]) (fun aP=>al aP.1 aP.2.1) (fun aP=>an aP.1 aP.2.1) fun _=> .nil) Tryz.func47 h) (mY a0 ak ({cz:=(0:Int),a1:=(0:Int)}:cJ)) (nG a0) (by
 unfold M8 M9
 have ai:a0.length≤1048576:=ai
 exact⟨fun ao=>⟨df _,by omega,by omega⟩,fun ao=>z6 (f:=ak) ao (x2 _)⟩)
def Zj:cY Tryz.prog:=⟨47,[(.l .ev)],[(.l .ev)],some fun x=>small x.1,fun x=>((ak x.1),()),fun x h=>Zi x.1 h⟩
def Y9 (a0:ac) (ae:ac):Prop:=
 (small a0.aa)∧((a0.az=ae.az)∧(a0.ab=ae.ab)∧((ak a0.aa)=ae.aa)∧(a0.ar=ae.ar)∧(a0.au=ae.au))
theorem Y_ (a0:ac) (ai:yJ a0):bg Tryz.prog 92 [.agg (cR false a0)] (.agg (cR true (ak a0))):=(fun(h:Y9 a0 (ak a0))=>bg.run (ps:=[.held]) (rs:=[.held]) (x:=(a0,())) (r:=((ak a0),())) ⟨21,cP,[FP]⟩ ⟨[],[],[],[],[]⟩ .nil Tryz.func92 h) (by
 exact⟨ai,rfl,rfl,rfl,rfl,rfl⟩)
def Za:cY Tryz.prog:=⟨92,[.held],[.held],some fun x=>yJ x.1,fun x=>((ak x.1),()),fun x h=>Y_ x.1 h⟩
def M0 (al:(List ac)→Int→Prop) (an:(List ac)→Int→Nat) (a0 ae aL:(List ac)) (v4:Int):Prop:=
  ((decide (v4<(a0.length:Int)))=false→aL.length≤4611686018427387904∧aL=ae)∧((decide (v4<(a0.length:Int)))=true→((0≤v4∧v4.toNat<a0.length)∧((yJ (nth a0 v4))∧((0≤v4∧v4.toNat<aL.length)∧(v4.toNat<aL.length))))∧(al (aL.set v4.toNat (ak (nth a0 v4))) (IntKind.i64.wrap (v4+1))∧an (aL.set v4.toNat (ak (nth a0 v4))) (IntKind.i64.wrap (v4+1))<an aL v4))
def M1 (al:(List ac)→Int→Prop) (an:(List ac)→Int→Nat) (a0 ae:(List ac)):Prop:=
  (a0.length≤4611686018427387904→0≤(a0.length:Int)∧56*(a0.length:Int)≤140737488355328∧(a0.length:Int)≤4611686018427387904)∧(a0.length≤4611686018427387904→al (List.replicate (a0.length:Int).toNat ({az:=(0:Int),ab:=(0:Int),aa:=([]:(List Bool)),ar:=false,au:=(0:Int)}:ac)) 0∧ ∀(aL:(List ac)) (v4:Int),al aL v4→(M0 al an a0 ae aL v4))
def MZ (a0:(List ac)) (ae:(List ac)) (al:(List ac)→Int→Prop) (an:(List ac)→Int→Nat):Prop:=
 M1 al an a0 ae
theorem Y7 (a0:(List ac)) (ai:BV a0):bg Tryz.prog 48 [bG (cR false) a0] (n8 (cR false) (ak a0)):=(fun(al:(List ac)→Int→Prop) (an:(List ac)→Int→Nat) (h:MZ a0 (ak a0) al an)=>bg.run (ps:=[(.l .held)]) (rs:=[(.l .held)]) (x:=(a0,())) (r:=((ak a0),())) ⟨23,cP,[Za]⟩ ⟨[10],[],[],[],[]⟩ (.lp [] [0] [] [(.l .held),.int] [bJ 0,4] (fun aP=>[(3,.ref 0 0 aP.1.length false),(4,.i .i64 aP.2.1),(bJ 0,.blk 0 .held aP.1 _ rfl)]) (fun aP=>al aP.1 aP.2.1) (fun aP=>an aP.1 aP.2.1) fun _=> .nil) Tryz.func48 h) (mY a0 ak ({az:=(0:Int),ab:=(0:Int),aa:=([]:(List Bool)),ar:=false,au:=(0:Int)}:ac)) (nG a0) (by
 unfold MZ M1 M0
 have ai:a0.length+(a0.map fun h=>h.aa.length).sum≤1048576:=ai
 refine⟨fun ao=>⟨df _,by omega,by omega⟩,fun ao=>z1 (f:=ak) (φ:=fun v=>yJ (nth a0 v)) ao (x2 _) fun v _ hv=> ?_⟩
 have:=x4 (fun h:ac=>h.aa.length) (eR hv)
 unfold yJ;omega)
def Y8:cY Tryz.prog:=⟨48,[(.l .held)],[(.l .held)],some fun x=>BV x.1,fun x=>((ak x.1),()),fun x h=>Y7 x.1 h⟩
def MY (a0:Frame) (ae:Frame):Prop:=
 (small a0.aC)∧((small a0.aq)∧((BV a0.O)∧((a0.ok=ae.ok)∧((ak a0.aC)=ae.aC)∧((ak a0.aq)=ae.aq)∧((ak a0.O)=ae.O))))
theorem Y6 (a0:Frame) (ai:BU a0):bg Tryz.prog 10 [.agg (b9 false a0)] (.agg (b9 true (ak a0))):=(fun(h:MY a0 (ak a0))=>bg.run (ps:=[.frame]) (rs:=[.frame]) (x:=(a0,())) (r:=((ak a0),())) ⟨20,cP,[FP,Zj,Y8]⟩ ⟨[],[],[],[],[]⟩ .nil Tryz.func10 h) (by
 have ai:a0.aC.length+a0.aq.length+sX a0.O≤1048576:=ai
 unfold MY small BV
 exact⟨by omega,by omega,by omega,rfl,rfl,rfl,rfl⟩)
end Go.Proofs.YtglpfccgmfhkdaaGreat.Fw
set_option linter.unusedVariables false
namespace Go.Proofs.YtglpfccgmfhkdaaGreat.Fw
open Go
def lq (a n:Int):Bool:=decide (0≤a)&&decide (a<n)
theorem FD {a n:Int}:lq a n=true↔0≤a∧a<n:=by unfold lq;simp
theorem XU {a n:Int}:b8 a 0 (n - 1)=lq a n:=by unfold lq b8;rw[Bool.eq_iff_iff];simp;omega
structure Fit (p:aK) (f:Frame):Prop where
 m1:gp p=true
 fr:kO p f
theorem Ad {p:aK} {f:Frame} (h:hJ p f=true):Fit p f:=by
 obtain⟨h1,h2,aM,bx,c9⟩:=xb.1 h
 refine⟨(xa.1 h1).1,DZ h1 fun i i0 i1=> ?_⟩
 have:=aM i i0 i1
 rw[Ak,Bool.and_eq_true] at this;exact this.1
theorem Fit.in {p:aK} {f:Frame} (h:Fit p f):ul p:=Bo h.m1
def DY (p:aK) (f:Frame) (i:Int):Prop:=nr f
def iq (p:aK) (f:Frame) (i s:Int):Bool:=((nth f.O i).az !=0)&&((nth p.O i).ad.drop (nth f.O i).ab.toNat).contains s
def vd (p:aK) (f:Frame) (i s:Int):Prop:=Fit p f∧0≤i∧i<p.O.length
theorem ab4 {p:aK} (h:gp p=true) {w:Way} (hw:w∈p.O):w.ad.Nodup:=(ti.1 (n6.1 ((yg h).2.2.1 w hw)).2.1).2.2
theorem zL {l:List Int} {g:Nat} {s:Int}:(l.drop g).contains s=true↔ ∃k,g≤k∧ ∃h:k<l.length,l[k]=s:=by
 rw[List.contains_iff_mem,List.mem_iff_getElem]
 constructor
 ·rintro⟨i,hi,he⟩
  rw[List.length_drop] at hi
  rw[List.getElem_drop] at he
  exact⟨g+i,by omega,by omega,he⟩
 ·rintro⟨k,aQ,hk,he⟩
  refine⟨k - g,by rw[List.length_drop];omega,?_⟩
  rw[List.getElem_drop]
  simp only[show g+(k - g)=k by omega];exact he
theorem has_eq {l:List Int} (ao:l.Nodup) {g s:Int} (aI:0≤g):(decide (mu l s ≥ g)&&decide (mu l s ≥ 0))=(l.drop g.toNat).contains s:=by
 unfold mu
 cases h:first l (fun x=>s==x) with
 | none=>
  have:(l.drop g.toNat).contains s=false:=by
   rw[←Bool.not_eq_true,zL]
   rintro⟨k,_,hk,he⟩
   have:=qc h _ (List.getElem_mem hk)
   rw[he] at this;simp at this
  rw[this];simp[Bh]
 | some i=>
  unfold first at h
  rw[List.findIdx?_eq_some_iff_getElem] at h
  obtain⟨hi,hx,_⟩:=h
  have hx:s=l[i]:=by simpa using hx
  have hx:=hx.symm
  rw[Bool.eq_iff_iff,zL]
  show(decide ((i:Int) ≥ g)&&decide ((i:Int) ≥ 0))=true↔_
  simp only[Bool.and_eq_true,decide_eq_true_eq]
  constructor
  ·intro h;exact⟨i,by omega,hi,hx⟩
  ·rintro⟨k,aQ,hk,he⟩
   have:k=i:=by
    exact(List.getElem_inj ao).1 (he.trans hx.symm)
   omega
def dC (q:Int→Bool) (v:Int):List Int:=((List.range v.toNat).filter fun i=>q (i:Nat)).map fun i=>((i:Nat):Int)
theorem TJ (q:Int→Bool):dC q 0=[]:=rfl
theorem w9 {q:Int→Bool} {v:Int} (h:0≤v):dC q (v+1)=if q v=true then dC q v++[v] else dC q v:=by
 unfold dC
 rw[show(v+1).toNat=v.toNat+1 by omega,List.range_succ,List.filter_append,List.map_append]
 have hv:((v.toNat:Nat):Int)=v:=by omega
 cases af:q v with
 | true=>simp[hv,af]
 | false=>simp[hv,af]
theorem oe (q:Int→Bool) (v:Int):(dC q v).length≤v.toNat:=by
 unfold dC
 rw[List.length_map]
 exact Nat.le_trans (List.length_filter_le _ _) (by simp)
def tg (x:cr) (k:Int):Bool:=x.be==k
def qF (l:List cr) (k:Int):Int:=Bh (first l (fun x=>x.be==k))
def j3 (l:List cr) (k:Int):Bool:=l.any fun x=>x.be==k
theorem WJ (l:List cr) (k:Int):(decide (qF l k ≥ 0))=j3 l k:=by
 unfold qF j3
 cases h:first l (fun x=>x.be==k) with
 | none=>
  rw[List.any_eq_false.2 fun x hx=>by rw[qc h x hx];simp];rfl
 | some i=>
  unfold first at h
  rw[List.findIdx?_eq_some_iff_getElem] at h
  obtain⟨hi,hx,_⟩:=h
  rw[List.any_eq_true.2 ⟨_,List.getElem_mem hi,hx⟩]
  show decide ((i:Int) ≥ 0)=true
  simp
def lE (p:aK) (f:Frame) (i k:Int):Bool:=((nth f.O i).az !=0)&&(j3 (nth p.O i).bP k || (j3 (nth p.O i).a1 k&&iq p f i (nth p.bd k)))
def jF (p:aK) (f:Frame) (k:Int):List Int:=dC (fun i=>lE p f i k) p.O.length
def vM (p:aK) (f:Frame) (k:Int):Prop:=Fit p f∧0≤k∧k<p.bd.length
def n5 (p:aK) (f:Frame) (i k:Int):Int:=if(nth f.O i).az=0 then 0 else match first (nth p.O i).bP (fun x=>x.be==k) with
 | some j=>(nth (nth p.O i).bP j).bO
 | none=>match first (nth p.O i).a1 (fun x=>x.be==k&&iq p f i (nth p.bd k)) with
  | some j=>(nth (nth p.O i).a1 j).bO
  | none=>0
def H8 (p:aK) (f:Frame) (i k:Int):Prop:=Fit p f∧0≤i∧i<p.O.length∧0≤k∧k<p.bd.length
theorem FU {p:aK} (h:gp p=true) {w:Way} (hw:w∈p.O) {l:cr} (aE:l∈bS w):l.bO=1∨l.bO=2:=by
 have aQ:=n6.1 ((yg h).2.2.1 w hw)
 have key: ∀{qM:List cr},kE p qM=true→ ∀x∈qM,x.bO=1∨x.bO=2:=fun h x hx=>by
  have:=(mv.1 h).2.1 x hx
  rw[Bool.and_eq_true] at this
  have:=xS.1 this.2
  omega
 rcases List.mem_append.1 aE with aE | aE
 ·exact key aQ.2.2.2.2.1 l aE
 ·exact key aQ.2.2.2.2.2.1 l aE
theorem DS {α:Type} [Inhabited α] {xs:List α} {q:α→Bool} {j:Nat} (h:first xs q=some j):nth xs j∈xs∧q (nth xs j)=true:=by
 unfold first at h
 rw[List.findIdx?_eq_some_iff_getElem] at h
 obtain⟨hi,hx,_⟩:=h
 rw[je hi]
 exact⟨List.getElem_mem hi,hx⟩
theorem aey {p:aK} {f:Frame} {i k:Int} (h:gp p=true) (hi:i.toNat<p.O.length):decide (n5 p f i k>0)=lE p f i k:=by
 unfold n5 lE j3
 by_cases hs:(nth f.O i).az=0
 ·rw[if_pos hs,show((nth f.O i).az !=0)=false by simpa using hs];rfl
 ·rw[if_neg hs,show((nth f.O i).az !=0)=true by simpa using hs,Bool.true_and]
  have hm:=eR hi
  cases h1:first (nth p.O i).bP (fun x=>x.be==k) with
  | some j=>
   have:=DS h1
   rw[List.any_eq_true.2 ⟨_,this⟩,Bool.true_or]
   have:=FU h hm (List.mem_append_right _ this.1)
   simp only[decide_eq_true_eq];omega
  | none=>
   rw[List.any_eq_false.2 fun x hx=>by rw[qc h1 x hx];simp,Bool.false_or]
   cases h2:first (nth p.O i).a1 (fun x=>x.be==k&&iq p f i (nth p.bd k)) with
   | some j=>
    have:=DS h2
    have aM:=this.2
    rw[Bool.and_eq_true] at aM
    rw[List.any_eq_true.2 ⟨_,this.1,aM.1⟩,aM.2,Bool.true_and]
    have:=FU h hm (List.mem_append_left _ this.1)
    simp only[decide_eq_true_eq];omega
   | none=>
    have:((nth p.O i).a1.any (fun x=>x.be==k)&&iq p f i (nth p.bd k))=false:=by
     rw[Bool.and_eq_false_iff]
     cases bD:iq p f i (nth p.bd k) with
     | false=>exact .inr rfl
     | true=>
      refine .inl (List.any_eq_false.2 fun x hx=> ?_)
      have:=qc h2 x hx
      rw[bD,Bool.and_true] at this
      rw[this];simp
    rw[this];rfl
def kz (p:aK) (f:Frame) (w k:Int):Bool:=(k !=w)&&(((nth f.O k).az !=0)&&(lK p w k || (meets (nth p.O w).ad (nth p.O k).b4 || meets (nth p.O w).b4 (nth p.O k).ad)))
def lT (p:aK) (f:Frame) (w s:Int):Bool:=nth f.aC s&&(fv (nth p.O w).ad s || fv (nth p.O w).b4 s)
def j5 (p:aK) (f:Frame) (w k:Int):Bool:=(bS (nth p.O w)).any fun l=>l.be==k&& !((nth f.aq k).cz==l.bO)
def nP (p:aK) (f:Frame) (k:Int):Bool:=decide (((jF p f k).length:Int)>0)
def nS (p:aK) (f:Frame) (k:Int):Bool:=nth f.aC (nth p.bd k)
def jY (p:aK) (f:Frame) (w k:Int):Bool:=j5 p f w k&&(nP p f k || nS p f k)
def hd (p:aK) (f:Frame) (w:Int):fu:=⟨dC (kz p f w) p.O.length,dC (lT p f w) p.ad,dC (jY p f w) p.bd.length⟩
def DT (p:aK) (f:Frame) (w:Int):Bool:= !(dC (fun k=>j5 p f w k&&nP p f k) p.bd.length).isEmpty
def G6 (p:aK) (f:Frame) (w:Int):Bool:= !(dC (fun k=>j5 p f w k&&nS p f k) p.bd.length).isEmpty
def sE (p:aK) (f:Frame) (w:Int):fu×Bool×Bool:=(hd p f w,DT p f w,G6 p f w)
def codeF (p:aK) (f:Frame) (w:Int):Int:=if(hd p f w).O≠[] then 3 else if(hd p f w).ad≠[] then 4 else if DT p f w=true then 5 else if G6 p f w=true then 6 else 0
def pP (p:aK) (f:Frame) (w:Int):fu×Int:=(hd p f w,codeF p f w)
def ww (p:aK) (f:Frame) (w:Int):Prop:=Fit p f∧0≤w∧w<p.O.length
theorem pg {q:Int→Bool} {N v:Int} (ao:N≤4611686018427387904) (a_:cv N (fun _=>false) v) (hv:decide (v<N)=true):
  (q v=true→dC q v++[v]=dC q (IntKind.i64.wrap (v+1)))∧(q v=false→dC q v=dC q (IntKind.i64.wrap (v+1)))∧(!(dC q (IntKind.i64.wrap (v+1))).isEmpty)=(!(dC q v).isEmpty || q v):=by
 rw[mJ ao a_.1 (by simpa using hv),w9 a_.1]
 refine⟨fun h=>by rw[if_pos h],fun h=>by rw[if_neg (by rw[h];simp)],?_⟩
 cases h:q v with
 | true=>simp
 | false=>simp
theorem uR {q:Int→Bool} {N v:Int} (a_:cv N (fun _=>false) v) (hv:decide (v<N)=false):dC q v=dC q N:=by
 have: ¬v<N:=by simpa using hv
 have h1:=a_.2.1
 rw[show v=N by omega]
def mw (p:aK) (f:Frame) (w k:Int) (j:Nat):Bool:=((bS (nth p.O w)).take j).any fun l=>l.be==k&& !((nth f.aq k).cz==l.bO)
theorem ab5 (p:aK) (f:Frame) (w k:Int) {j:Nat} (h:(bS (nth p.O w)).length≤j):mw p f w k j=j5 p f w k:=by
 unfold mw j5;rw[List.take_of_length_le h]
theorem ab7 {p:aK} {f:Frame} {w k:Int} {j:Nat} (h:j<(bS (nth p.O w)).length):mw p f w k (j+1)=(mw p f w k j || ((bS (nth p.O w))[j].be==k&& !((nth f.aq k).cz==(bS (nth p.O w))[j].bO))):=by
 unfold mw;rw[List.take_succ_eq_append_getElem h,List.any_append];simp
theorem Gb {p:aK} (h:gp p=true) {w:Way} (hw:w∈p.O):((bS w).map (·.be)).Nodup:=(n6.1 ((yg h).2.2.1 w hw)).2.2.2.2.2.2.1
theorem ab6 {p:aK} {f:Frame} {w k:Int} {j:Nat} (ao:((bS (nth p.O w)).map (·.be)).Nodup) (h:j<(bS (nth p.O w)).length) (hk:((bS (nth p.O w))[j].be==k)=true):mw p f w k j=false:=by
 unfold mw
 rw[List.any_eq_false]
 intro l aE
 obtain⟨i,hi,rfl⟩:=List.mem_take_iff_getElem.1 aE
 have gE:i<(bS (nth p.O w)).length:=by omega
 intro hc
 rw[Bool.and_eq_true] at hc
 have aR:(bS (nth p.O w))[i].be=k:=by simpa using hc.1
 have e2:(bS (nth p.O w))[j].be=k:=by simpa using hk
 have:=(List.getElem_inj (xs:=(bS (nth p.O w)).map (·.be)) (i:=i) (j:=j) (h₀:=by simpa using gE) (h₁:=by simpa using h) ao).1 (by simp[aR,e2])
 omega
def R9 (p:aK) (f:Frame) (w k:Int) (x:List Int) (a b:Bool) (k_:List Int) (j:Int) (gk bT:Bool):Prop:=
 cv (bS (nth p.O w)).length (fun _=>false) j∧k_=(if(mw p f w k j.toNat&&(nP p f k || nS p f k))=true then x++[k] else x)∧gk=(a || (mw p f w k j.toNat&&nP p f k))∧bT=(b || (mw p f w k j.toNat&&nS p f k))
def uS (p:aK) (f:Frame) (w v:Int):Bool:= !(dC (fun k=>j5 p f w k&&nP p f k) v).isEmpty
def yI (p:aK) (f:Frame) (w v:Int):Bool:= !(dC (fun k=>j5 p f w k&&nS p f k) v).isEmpty
def u4 (p:aK) (f:Frame) (w v:Int):Int:=if uS p f w v=true then 5 else if yI p f w v=true then 6 else 0
def pC (a:Int) (l:List cr) (k:Int):Int:=l.foldl (fun a x=>bif x.be==k then x.bO else a) a
theorem Ni {l:List cr} {k:Int} (h: ∀x∈l,(x.be==k)=false): ∀a,pC a l k=a:=by
 induction l with
 | nil=>intro a;rfl
 | cons x l bE=>
  intro a
  show pC (bif x.be==k then x.bO else a) l k=a
  rw[h x List.mem_cons_self]
  exact bE (fun y ba=>h y (List.mem_cons_of_mem _ ba)) a
theorem FT {l:List cr} {k:Int} (ao:(l.map (·.be)).Nodup) {x:cr} (hx:x∈l) (hk:(x.be==k)=true): ∀a,pC a l k=x.bO:=by
 induction l with
 | nil=>cases hx
 | cons y l bE=>
  intro a
  show pC (bif y.be==k then y.bO else a) l k=x.bO
  rw[List.map_cons,List.nodup_cons] at ao
  rcases List.mem_cons.1 hx with rfl | hx
  ·rw[hk]
   refine Ni (fun z aH=> ?_) _
   have hk:x.be=k:=by simpa using hk
   rw[←hk,beq_eq_false_iff_ne]
   intro e
   exact ao.1 (List.mem_map.2 ⟨z,aH,e⟩)
  ·exact bE ao.2 hx _
theorem ZF {p:aK} {f:Frame} {w k:Int} (h:gp p=true) (hw:w.toNat<p.O.length):((pC 0 (bS (nth p.O w)) k==0) || (pC 0 (bS (nth p.O w)) k==(nth f.aq k).cz))= !j5 p f w k:=by
 have hm:=eR hw
 have ao:=Gb h hm
 cases hf:first (bS (nth p.O w)) (fun x=>x.be==k) with
 | none=>
  have d_:=qc hf
  rw[Ni d_,show j5 p f w k=false from List.any_eq_false.2 fun x hx=>by rw[d_ x hx];simp];rfl
 | some j=>
  obtain⟨h1,h2⟩:=DS hf
  have aE:=FU h hm h1
  rw[FT ao h1 h2]
  have z:((nth (bS (nth p.O w)) (j:Int)).bO==0)=false:=by rw[beq_eq_false_iff_ne];omega
  rw[z,Bool.false_or]
  have aG:j5 p f w k= !((nth f.aq k).cz==(nth (bS (nth p.O w)) (j:Int)).bO):=by
   cases hb:((nth f.aq k).cz==(nth (bS (nth p.O w)) (j:Int)).bO) with
   | false=>exact List.any_eq_true.2 ⟨_,h1,by rw[h2,hb];rfl⟩
   | true=>
    refine List.any_eq_false.2 fun x hx hc=> ?_
    rw[Bool.and_eq_true] at hc
    have aR:=FT ao hx hc.1 0
    rw[FT ao h1 h2] at aR
    rw[aR] at hb
    rw[hb] at hc;cases hc.2
  rw[aG,Bool.not_not,Bool.eq_iff_iff,beq_iff_eq,beq_iff_eq]
  exact⟨Eq.symm,Eq.symm⟩
open Go Go.RowKit
theorem C4 {p:aK} {l:Int} (hk:fJ p l) {w:World} {v:Value} (h:V2 (Env.at w) (.agg (bW false p)) v):
    Calls Tryz.prog 6 #[v,.int .i64 l] w fun e w'=>e= .returned (.int .i64 (oW p l))∧Below w.heap.size w w':=
  bg.int (vs:=[v,.int .i64 l]) (YW p l hk) (.cons h (.cons (aW.int _ _) .nil))
theorem I7 {p:Frame} {l:Int} (hk:fJ p l) {w:World} {v:Value} (h:V2 (Env.at w) (.agg (b9 false p)) v):
    Calls Tryz.prog 7 #[v,.int .i64 l] w fun e w'=>e= .returned (.int .i64 (q7 p l))∧Below w.heap.size w w':=
  bg.int (vs:=[v,.int .i64 l]) (YO p l hk) (.cons h (.cons (aW.int _ _) .nil))
theorem B7 {p:aK} {w:World} {B:Nat→Prop} {v:Value} (h:dX w B (.agg (bW false p)) v): ∃bQ bA bL br bK bm,v= .agg #[.int .i64 p.ad,.slice bQ p.bd.length bA,.slice bL p.O.length br,.slice bK p.bt.length bm,.int .i64 p.cS]∧
    aW w B (fun _=>False) (.aV (p.bd.map ct) false false) (.slice bQ p.bd.length bA)∧aW w B (fun _=>False) (.aV (p.O.map (en false)) false false) (.slice bL p.O.length br)∧aW w B (fun _=>False) (.aV (p.bt.map (fR a7 false)) false false) (.slice bK p.bt.length bm):=by
  obtain⟨vs,rfl,ai⟩:=(show ∃vs:List Value,v= .agg vs.toArray∧aO (b1 (Env.ro w B)) (bW false p) vs from h)
  obtain⟨a,vs,rfl,aF,ai⟩:=ai.cons_inv
  obtain⟨b,vs,rfl,hb,ai⟩:=ai.cons_inv
  obtain⟨c,vs,rfl,hc,ai⟩:=ai.cons_inv
  obtain⟨d,vs,rfl,aZ,ai⟩:=ai.cons_inv
  obtain⟨e,vs,rfl,he,ai⟩:=ai.cons_inv
  obtain rfl:=ai.lZ
  have aF:aW w _ _ (.int .i64 p.ad) a:=aF
  have he:aW w _ _ (.int .i64 p.cS) e:=he
  cases aF;cases he
  obtain⟨bQ,bA,rfl,eC⟩:=q8 (jp hb)
  obtain⟨bL,br,rfl,cZ⟩:=q8 (jp hc)
  obtain⟨bK,bm,rfl,dg⟩:=q8 (jp aZ)
  rw[List.length_map] at eC cZ dg
  exact⟨bQ,bA,bL,br,bK,bm,by simp,eC,cZ,dg⟩
theorem B6 {p:Frame} {w:World} {B:Nat→Prop} {v:Value} (h:dX w B (.agg (b9 false p)) v): ∃bQ bA bL br bK bm,v= .agg #[.bool p.ok,.slice bQ p.aC.length bA,.slice bL p.aq.length br,.slice bK p.O.length bm]∧
    aW w B (fun _=>False) (.aV (p.aC.map a7) false false) (.slice bQ p.aC.length bA)∧aW w B (fun _=>False) (.aV (p.aq.map bH) false false) (.slice bL p.aq.length br)∧aW w B (fun _=>False) (.aV (p.O.map (cR false)) false false) (.slice bK p.O.length bm):=by
  obtain⟨vs,rfl,ai⟩:=(show ∃vs:List Value,v= .agg vs.toArray∧aO (b1 (Env.ro w B)) (b9 false p) vs from h)
  obtain⟨a,vs,rfl,aF,ai⟩:=ai.cons_inv
  obtain⟨b,vs,rfl,hb,ai⟩:=ai.cons_inv
  obtain⟨c,vs,rfl,hc,ai⟩:=ai.cons_inv
  obtain⟨d,vs,rfl,aZ,ai⟩:=ai.cons_inv
  obtain rfl:=ai.lZ
  have aF:aW w _ _ (.bool p.ok) a:=aF
  cases aF
  obtain⟨bQ,bA,rfl,eC⟩:=q8 (jp hb)
  obtain⟨bL,br,rfl,cZ⟩:=q8 (jp hc)
  obtain⟨bK,bm,rfl,dg⟩:=q8 (jp aZ)
  rw[List.length_map] at eC cZ dg
  exact⟨bQ,bA,bL,br,bK,bm,by simp,eC,cZ,dg⟩
theorem zE {p:aK} (ai:Ha p) {w:World} {v:Value} (h:V2 (Env.at w) (.agg (bW false p)) v):
    Calls Tryz.prog 9 #[v] w fun e w'=> ∃bQ bA bL br bK bm,e= .returned (.agg #[.int .i64 p.ad,.slice bQ p.bd.length bA,.slice bL p.O.length br,.slice bK p.bt.length bm,.int .i64 p.cS])∧Below w.heap.size w w'∧
      dX w' (eG w w') (.agg (bW false p)) (.agg #[.int .i64 p.ad,.slice bQ p.bd.length bA,.slice bL p.O.length br,.slice bK p.bt.length bm,.int .i64 p.cS]):=
  (bg.yU (e:= .eh) (x:=p) (vs:=[v]) (Zh p ai) (.cons h .nil)).mono fun e w' ⟨ec,h1,h2,aM⟩=>by
    obtain⟨bQ,bA,bL,br,bK,bm,rfl,_⟩:=B7 aM
    exact⟨bQ,bA,bL,br,bK,bm,h1,h2,aM⟩
theorem zD {p:Frame} (ai:BU p) {w:World} {v:Value} (h:V2 (Env.at w) (.agg (b9 false p)) v):
    Calls Tryz.prog 10 #[v] w fun e w'=> ∃bQ bA bL br bK bm,e= .returned (.agg #[.bool p.ok,.slice bQ p.aC.length bA,.slice bL p.aq.length br,.slice bK p.O.length bm])∧Below w.heap.size w w'∧
      dX w' (eG w w') (.agg (b9 false p)) (.agg #[.bool p.ok,.slice bQ p.aC.length bA,.slice bL p.aq.length br,.slice bK p.O.length bm]):=
  (bg.yU (e:= .frame) (x:=p) (vs:=[v]) (Y6 p ai) (.cons h .nil)).mono fun e w' ⟨ec,h1,h2,aM⟩=>by
    obtain⟨bQ,bA,bL,br,bK,bm,rfl,_⟩:=B6 aM
    exact⟨bQ,bA,bL,br,bK,bm,h1,h2,aM⟩
theorem SK {p:aK} {w:World} {v u:Value} (h:V2 (Env.at w) (.agg (bW false p)) v) (k:V2 (Env.at w) (.agg (bW false p)) u):
    Calls Tryz.prog 13 #[v,u] w fun e w'=>e= .returned (.bool true)∧Below w.heap.size w w':=by
  have:=bg.bool (vs:=[v,u]) (Yx p p) (.cons h (.cons k .nil))
  unfold eqv at this
  rw[decide_eq_true rfl] at this
  exact this
theorem SJ {p:Frame} {w:World} {v u:Value} (h:V2 (Env.at w) (.agg (b9 false p)) v) (k:V2 (Env.at w) (.agg (b9 false p)) u):
    Calls Tryz.prog 14 #[v,u] w fun e w'=>e= .returned (.bool true)∧Below w.heap.size w w':=by
  have:=bg.bool (vs:=[v,u]) (Yh p p) (.cons h (.cons k .nil))
  unfold eqv at this
  rw[decide_eq_true rfl] at this
  exact this
def r0 (p:aK):Nat:=p.bd.length+(p.O.map tn).sum+(p.bt.map List.length).sum
def rZ (f:Frame):Nat:=f.aC.length+f.aq.length*2+(f.O.map tm).sum
theorem SN {p:aK} {w:World} {B:Nat→Prop} {v:Value} {k:Int} (h:dX w B (.agg (bW false p)) v) (c5: ∀c,B c→Plain w c) (aI:0≤k) (h1:k+r0 p≤4611686018427387904):
    Calls Tryz.prog 15 #[v,.int .i64 k] w fun e w'=>e= .returned (.int .i64 (k+(r0 p:Nat)))∧dm B w w':=by
  obtain⟨bQ,bA,bL,br,bK,bm,rfl,eC,cZ,dg⟩:=B7 h
  have hb: ∀c,B c→B c∧Plain w c:=fun c hc=>⟨hc,c5 c hc⟩
  refine(Z_ w B p.ad p.cS bQ bL bK _ _ _ _ _ _ _ _ _ k (AW eC hb (fun _ h=>h.elim)) (X5 cZ hb (fun _ h=>h.elim)) (X2 dg hb (fun _ h=>h.elim)) aI (by unfold r0 at h1;omega)).mono ?_
  rintro e w' ⟨rfl,hk⟩
  exact⟨by congr 2;unfold r0;omega,hk⟩
theorem SM {p:Frame} {w:World} {B:Nat→Prop} {v:Value} {k:Int} (h:dX w B (.agg (b9 false p)) v) (c5: ∀c,B c→Plain w c) (aI:0≤k) (h1:k+rZ p≤4611686018427387904):
    Calls Tryz.prog 16 #[v,.int .i64 k] w fun e w'=>e= .returned (.int .i64 (k+(rZ p:Nat)))∧dm B w w':=by
  obtain⟨bQ,bA,bL,br,bK,bm,rfl,eC,cZ,dg⟩:=B6 h
  have hb: ∀c,B c→B c∧Plain w c:=fun c hc=>⟨hc,c5 c hc⟩
  refine(Z8 w B p.ok bQ bL bK _ _ _ _ _ _ _ _ _ k (FK eC hb (fun _ h=>h.elim)) (X4 cZ hb (fun _ h=>h.elim)) (X3 dg hb (fun _ h=>h.elim)) aI (by unfold rZ at h1;omega)).mono ?_
  rintro e w' ⟨rfl,hk⟩
  exact⟨by congr 2;unfold rZ;omega,hk⟩
theorem QG {α:Type} {f g:α→Nat} (c:Nat) (h: ∀x,f x≤c*g x): ∀xs:List α,(xs.map f).sum≤c*(xs.map g).sum
  | []=>by simp
  | x::r=>by
    rw[List.map_cons,List.map_cons,List.sum_cons,List.sum_cons,Nat.mul_add]
    have:=h x
    have:=QG c h r
    omega
theorem aag (p:aK):r0 p≤2*kk p:=by
  unfold r0 kk wu sD
  have:=QG (f:=tn) (g:=q_) 2 (fun x=>by unfold tn q_;omega) p.O
  omega
theorem aaf (f:Frame):rZ f≤4*oi f:=by
  unfold rZ oi sX
  have h1:(f.O.map tm).sum≤4*f.O.length+(f.O.map fun h=>h.aa.length).sum:=by
    generalize f.O=l
    induction l with
    | nil=>simp
    | cons x r bE=>rw[List.map_cons,List.map_cons,List.sum_cons,List.sum_cons,List.length_cons];unfold tm at bE ⊢;omega
  omega
theorem rn {w:World} {b:Nat} {bA br bm hT:Value} {ty:TypeId} (h:w.heap[b]?=some (.cells #[bA,br,bm,hT] ty (0,0))):w.cell? ⟨b,0,none⟩=some bA∧w.cell? ⟨b,1,none⟩=some br∧w.cell? ⟨b,2,none⟩=some bm∧w.cell? ⟨b,3,none⟩=some hT:=by
  refine⟨?_,?_,?_,?_⟩<;>simp[World.cell?,h]
theorem p8 {w:World} {b:Nat} {bA br bm hT kv:Value} {ty:TypeId} (h:w.heap[b]?=some (.cells #[bA,br,bm,hT,kv] ty (0,0))):w.cell? ⟨b,0,none⟩=some bA∧w.cell? ⟨b,1,none⟩=some br∧w.cell? ⟨b,2,none⟩=some bm∧w.cell? ⟨b,3,none⟩=some hT∧w.cell? ⟨b,4,none⟩=some kv:=by
  refine⟨?_,?_,?_,?_,?_⟩<;>simp[World.cell?,h]
theorem vD {aP w:World} {a:AV} {v:Value} (h:dX w (eG aP w) a v):V2 (Env.at w) a v:=h.at fun c hc=>hc.2.1
theorem O2 {W w:World} {l:List eS} (h:cl W w l) (i j:Nat) {b bT:Nat} {bA br bm hT kv f0 f1 f2 f3 f4:Value} {t hz:TypeId} (e:l[i]?=some (dI b #[bA,br,bm,hT,kv] t):=by rfl) (b3:l[j]?=some (dI bT #[f0,f1,f2,f3,f4] hz):=by rfl):
    cl W w l∧w.cell? ⟨b,0,none⟩=some bA∧w.cell? ⟨b,1,none⟩=some br∧w.cell? ⟨b,2,none⟩=some bm∧w.cell? ⟨b,3,none⟩=some hT∧w.cell? ⟨b,4,none⟩=some kv∧w.cell? ⟨bT,0,none⟩=some f0∧w.cell? ⟨bT,1,none⟩=some f1∧w.cell? ⟨bT,2,none⟩=some f2∧w.cell? ⟨bT,3,none⟩=some f3∧w.cell? ⟨bT,4,none⟩=some f4:=by
  obtain⟨a0,J,a2,a3,a4⟩:=p8 (h.get i e)
  obtain⟨eA,dF,b7,p6,CF⟩:=p8 (h.get j b3)
  exact⟨h,a0,J,a2,a3,a4,eA,dF,b7,p6,CF⟩
theorem O1 {W w:World} {l:List eS} (h:cl W w l) (i j:Nat) {b bT:Nat} {bA br bm hT f0 f1 f2 f3:Value} {t hz:TypeId} (e:l[i]?=some (dI b #[bA,br,bm,hT] t):=by rfl) (b3:l[j]?=some (dI bT #[f0,f1,f2,f3] hz):=by rfl):
    cl W w l∧w.cell? ⟨b,0,none⟩=some bA∧w.cell? ⟨b,1,none⟩=some br∧w.cell? ⟨b,2,none⟩=some bm∧w.cell? ⟨b,3,none⟩=some hT∧w.cell? ⟨bT,0,none⟩=some f0∧w.cell? ⟨bT,1,none⟩=some f1∧w.cell? ⟨bT,2,none⟩=some f2∧w.cell? ⟨bT,3,none⟩=some f3:=by
  obtain⟨a0,J,a2,a3⟩:=rn (h.get i e)
  obtain⟨eA,dF,b7,p6⟩:=rn (h.get j b3)
  exact⟨h,a0,J,a2,a3,eA,dF,b7,p6⟩
theorem BL {W w:World} {l:List eS} (h:cl W w l) (i j:Nat) {b bT:Nat} {bA br bm hT kv f0 f1 f2 f3:Value} {t hz:TypeId} (e:l[i]?=some (dI b #[bA,br,bm,hT,kv] t):=by rfl) (b3:l[j]?=some (dI bT #[f0,f1,f2,f3] hz):=by rfl):
    cl W w l∧w.cell? ⟨b,0,none⟩=some bA∧w.cell? ⟨b,1,none⟩=some br∧w.cell? ⟨b,2,none⟩=some bm∧w.cell? ⟨b,3,none⟩=some hT∧w.cell? ⟨b,4,none⟩=some kv∧w.cell? ⟨bT,0,none⟩=some f0∧w.cell? ⟨bT,1,none⟩=some f1∧w.cell? ⟨bT,2,none⟩=some f2∧w.cell? ⟨bT,3,none⟩=some f3:=by
  obtain⟨a0,J,a2,a3,a4⟩:=p8 (h.get i e)
  obtain⟨eA,dF,b7,p6⟩:=rn (h.get j b3)
  exact⟨h,a0,J,a2,a3,a4,eA,dF,b7,p6⟩
section
variable {E:Env} {H:List Blk} {F:Frame}
theorem mem_row {c o m:Nat} {b:Bool} {x:Nat×Nat×Bool} (h:x∈row c o b m):x.1=c∧o≤x.2.1∧x.2.1<o+m:=by
 obtain⟨i,hi,rfl⟩:=BK.1 h
 exact⟨rfl,Nat.le_add_right _ _,by show o+i<_;omega⟩
theorem A8 (c o:Nat) (b:Bool): ∀m,kb (row c o b m)
 | 0=>List.Pairwise.nil
 | m+1=>List.pairwise_append.2 ⟨A8 c o b m,List.pairwise_singleton _ _,fun x hx y ba=>by
   have h1:=mem_row hx
   rw[List.mem_singleton.1 ba]
   intro e
   have h2:x.2.1=o+m:=e.2
   omega⟩
theorem x3 {f:Nat→dT} {x:Nat×Nat×Bool}: ∀{n:Nat},x∈lM f n→ ∃i,i<n∧x∈f i
 | n+1,h=>by
  rcases List.mem_append.1 h with h | h
  ·obtain⟨i,h1,h2⟩:=x3 h
   exact⟨i,by omega,h2⟩
  ·exact⟨n,by omega,h⟩
end
theorem ee.FB {w:World} {S:Nat→Prop} {e:aU} {a b:Nat} {L:dT} {v:Value} (h:ee w S e a b L v): ∀x∈L,x.1=a∨S x.1:=by
 induction h with
 | int c o n=>intro x hx;rw[List.mem_singleton.1 hx];exact .inl rfl
 | bool c o b=>intro x hx;rw[List.mem_singleton.1 hx];exact .inl rfl
 | @aV e a b n cap A Ls vs c o h1 hc av bE=>
  intro x hx
  obtain⟨i,hi,hx⟩:=x3 hx
  obtain⟨j,ap,hx⟩:=x3 hx
  obtain⟨aw,ty,_,db,_⟩:=hc (by omega)
  rcases bE i j _ hi (List.getElem?_eq_getElem ap) x hx with h | h
  ·rw[h];exact .inr db
  ·exact .inr h
theorem ee.FA {w:World} {S:Nat→Prop} {e:aU} {a b:Nat} {L:dT} {v:Value} (h:ee w S (.l e) a b L v): ∀x∈L,S x.1:=by
 cases h with
 | @aV _ _ _ _ _ _ Ls vs c o h1 hc av=>
  intro x hx
  obtain⟨i,hi,hx⟩:=x3 hx
  obtain⟨j,ap,hx⟩:=x3 hx
  obtain⟨aw,ty,_,db,_⟩:=hc (by omega)
  rcases(av i j _ hi (List.getElem?_eq_getElem ap)).FB x hx with h | h
  ·rw[h];exact db
  ·exact h
def iX (cs aR e2:aU) (w:World) (S:Nat→Prop) (bQ bL bK:Option Addr) (bZ bA cu br n2 bm:Nat) (L:dT):Prop:=
 ∃eW fD gM,L=eW++fD++gM∧ee w S (.l cs) 0 0 eW (.slice bQ bZ bA)∧ee w S (.l aR) 0 0 fD (.slice bL cu br)∧ee w S (.l e2) 0 0 gM (.slice bK n2 bm)
theorem iX.cT {cs aR e2:aU} {w w':World} {S S':Nat→Prop} {bQ bL bK:Option Addr} {bZ bA cu br n2 bm:Nat} {L:dT} (h:iX cs aR e2 w S bQ bL bK bZ bA cu br n2 bm L) (hk: ∀c,S c→w'.heap[c]?=w.heap[c]?) (hs: ∀c,S c→S' c):iX cs aR e2 w' S' bQ bL bK bZ bA cu br n2 bm L:=by
 obtain⟨eW,fD,gM,rfl,aI,h1,h2⟩:=h
 exact⟨eW,fD,gM,rfl,aI.cT hk hs,h1.cT hk hs,h2.cT hk hs⟩
theorem iX.fy {cs aR e2:aU} {w w':World} {S S':Nat→Prop} {bQ bL bK:Option Addr} {bZ bA cu br n2 bm:Nat} {L:dT} (h:iX cs aR e2 w S bQ bL bK bZ bA cu br n2 bm L) (hk:dm S' w w'):iX cs aR e2 w' S bQ bL bK bZ bA cu br n2 bm L:=by
 obtain⟨eW,fD,gM,rfl,aI,h1,h2⟩:=h
 exact⟨eW,fD,gM,rfl,aI.fy hk,h1.fy hk,h2.fy hk⟩
theorem iX.FB {cs aR e2:aU} {w:World} {S:Nat→Prop} {bQ bL bK:Option Addr} {bZ bA cu br n2 bm:Nat} {L:dT} (h:iX cs aR e2 w S bQ bL bK bZ bA cu br n2 bm L): ∀x∈L,S x.1:=by
 obtain⟨eW,fD,gM,rfl,aI,h1,h2⟩:=h
 intro x hx
 rcases List.mem_append.1 hx with hx | hx
 ·rcases List.mem_append.1 hx with hx | hx
  ·exact aI.FA x hx
  ·exact h1.FA x hx
 ·exact h2.FA x hx
theorem fE.same {w w':World} {L:dT} {k:Int} {S:Nat→Prop} (h:fE w L k) (bN: ∀x∈L,S x.1) (hk: ∀c,S c→w'.heap[c]?=w.heap[c]?):fE w' L k:=
 h.cT fun x hx _=>by simp only[World.cell?,hk _ (bN x hx)]
def na (cs aR e2:aU) (lo hi:Nat) (a:AV) (v:Value) (bQ bL bK:Option Addr) (bZ bA cu br n2 bm:Nat) (L:dT):eS where
 lo:=lo
 hi:=hi
 P:=fun w=>dX w (lJ w lo hi) a v∧iX cs aR e2 w (lJ w lo hi) bQ bL bK bZ bA cu br n2 bm L
 ay:=fun w w' h ai=>⟨ai.1.cT (fun c hc=>h c hc.1 hc.2.1) fun c hc=>⟨hc.1,hc.2.1,hc.2.2.same (h c hc.1 hc.2.1)⟩,ai.2.cT (fun c hc=>h c hc.1 hc.2.1) fun c hc=>⟨hc.1,hc.2.1,hc.2.2.same (h c hc.1 hc.2.1)⟩⟩
def xQ (cs aR e2:aU) (lo hi:Nat) (bQ bL bK:Option Addr) (bZ bA cu br n2 bm:Nat) (L:dT) (k:Int):eS where
 lo:=lo
 hi:=hi
 P:=fun w=>iX cs aR e2 w (lJ w lo hi) bQ bL bK bZ bA cu br n2 bm L∧fE w L k
 ay:=fun w w' h ai=>⟨ai.1.cT (fun c hc=>h c hc.1 hc.2.1) fun c hc=>⟨hc.1,hc.2.1,hc.2.2.same (h c hc.1 hc.2.1)⟩,ai.2.same ai.1.FB fun c hc=>h c hc.1 hc.2.1⟩
theorem cl.own {cs aR e2:aU} {W w w':World} {l:List eS} {a:AV} {v:Value} {bQ bL bK:Option Addr} {bZ bA cu br n2 bm:Nat} {L:dT} (h:cl W w l) (hb:RowKit.Below w.heap.size w w') (bn:dX w' (eG w w') a v) (hf:iX cs aR e2 w' (eG w w') bQ bL bK bZ bA cu br n2 bm L):cl W w' (l++[na cs aR e2 w.heap.size w'.heap.size a v bQ bL bK bZ bA cu br n2 bm L]):=
 h.made hb (na cs aR e2 w.heap.size w'.heap.size a v bQ bL bK bZ bA cu br n2 bm L) rfl rfl ⟨bn,hf⟩
theorem na.at {cs aR e2:aU} {W w:World} {l:List eS} (h:cl W w l) (j:Nat) {lo hi:Nat} {a:AV} {v:Value} {bQ bL bK:Option Addr} {bZ bA cu br n2 bm:Nat} {L:dT} (e:l[j]?=some (na cs aR e2 lo hi a v bQ bL bK bZ bA cu br n2 bm L):=by rfl):V2 (Env.at w) a v:=
 (h.get j e).1.at fun c hc=>Nat.lt_of_lt_of_le hc.2.1 (h.hi j e)
theorem cl.aaJ {cs aR e2:aU} {W w:World} {l:List eS} (h:cl W w l) (j:Nat) {lo hi:Nat} {a:AV} {v:Value} {bQ bL bK:Option Addr} {bZ bA cu br n2 bm:Nat} {L:dT} (e:l[j]?=some (na cs aR e2 lo hi a v bQ bL bK bZ bA cu br n2 bm L)):iX cs aR e2 w (lJ w lo hi) bQ bL bK bZ bA cu br n2 bm L:=(h.get j e).2
theorem cl.Nz {cs aR e2:aU} {W w:World} {l:List eS} (h:cl W w l) (j:Nat) {lo hi:Nat} {bQ bL bK:Option Addr} {bZ bA cu br n2 bm:Nat} {L:dT} {k:Int} (e:l[j]?=some (xQ cs aR e2 lo hi bQ bL bK bZ bA cu br n2 bm L k)):iX cs aR e2 w (lJ w lo hi) bQ bL bK bZ bA cu br n2 bm L∧fE w L k:=h.get j e
theorem cl.aaL {cs aR e2:aU} {W w w':World} {l:List eS} (h:cl W w l) (j:Nat) {lo hi:Nat} {a:AV} {v:Value} {bQ bL bK:Option Addr} {bZ bA cu br n2 bm:Nat} {L:dT} {k:Int} (e:l[j]?=some (na cs aR e2 lo hi a v bQ bL bK bZ bA cu br n2 bm L)) (ap:W.heap.size≤lo) (hm:iW w w' (lJ w lo hi) L k):cl W w' (l.set j (xQ cs aR e2 lo hi bQ bL bK bZ bA cu br n2 bm L k)):=
 h.mark j (na cs aR e2 lo hi a v bQ bL bK bZ bA cu br n2 bm L) e ap (fun c hc=>⟨hc.1,hc.2.1⟩) hm.fy (xQ cs aR e2 lo hi bQ bL bK bZ bA cu br n2 bm L k) rfl rfl ⟨(((h.get j e).2.fy hm.fy).cT (fun _ _=>rfl) hm.fy.pl),hm.rX⟩
theorem aef {e:aU} {x:e.T} {w:World} {H':List Blk} {E':Env} {r:AV} {v:Value} (hs:SimH E' H') (av:jQ H' r (nF e x)) (hv:V3 E' r v) (iH: ∀c,E'.PF c∨E'.fk c→eG w E'.w c):dX E'.w (eG w E'.w) (zR e x) v:=by
 have j0:V3 {Env.ro E'.w (eG w E'.w) with PF:=eG w E'.w} (nF e x) v:=Hb (E':={Env.ro E'.w (eG w E'.w) with PF:=eG w E'.w}) hs rfl (fun c hc=>⟨iH c hc,iH c hc⟩) av hv
 unfold zR
 unfold nF at j0
 cases db:e.isS with
 | true=>
  rw[db] at j0
  obtain⟨ew,rfl,ai⟩:=(show ∃ew:List Value,v= .agg ew.toArray∧aO (b1 _) (cq true e x) ew from j0)
  refine⟨ew,rfl,?_⟩
  rw[←ml] at ai ⊢
  exact HZ (fun _ h=>h) (fun _ h=>h) (Cc ai)
 | false=>
  rw[db] at j0
  have j0:V3 {Env.ro E'.w (eG w E'.w) with PF:=eG w E'.w} (iE true e x) v:=j0
  have h1:b1 {Env.ro E'.w (eG w E'.w) with PF:=eG w E'.w} (iE true e x) v:=by cases e<;>first | exact j0 | cases db
  have:=aW.hX (B:=eG w E'.w) (fun _ h=>h) (fun _ h=>h) (H4 h1)
  exact jp (aW.v1 (E:=Env.ro E'.w (eG w E'.w)) this)
end Go.Proofs.YtglpfccgmfhkdaaGreat.Fw
