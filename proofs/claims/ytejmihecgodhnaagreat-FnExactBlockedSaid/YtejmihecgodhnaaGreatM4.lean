/- The machine, part Ew: writes into a frame's ways. -/
import Derived.Test.YtejmihecgodhnaaGreatM3
set_option linter.unusedVariables false
namespace Go.Proofs.YtejmihecgodhnaaGreat.Fw
open Go
def It:TV→Bool
 | .jX _ _ _=>true
 | _=>false
theorem VH {Z Z':FZ} {v:TV} (h:It v=false): @TV.eJ Z' v= @TV.eJ Z v:=by cases v<;>first | rfl | cases h
def Af (s:TS) (b:Nat):Nat→Bool
 | 0=>true
 | k+1=>(Nat.beq k b || !It (s.get (br k)))&&Af s b k
theorem Rr {s:TS} {b:Nat}: ∀{n:Nat},Af s b n=true→ ∀k,k<n→k≠b→It (s.get (br k))=false
 | 0,_,k,h,_=>by omega
 | n+1,h,k,hk,bN=>by
  simp only[Af,Bool.and_eq_true,Bool.or_eq_true,Bool.not_eq_true'] at h
  rcases Nat.lt_or_ge k n with q | q
  ·exact Rr h.2 k q bN
  ·have:k=n:=by omega
   subst this
   rcases h.1 with e | e
   ·exact absurd (Nat.eq_of_beq_eq_true e) bN
   ·exact e
theorem ah_ {Z Z':FZ} {n:Nat} {s s':TS} {b g m:Nat} {ids:List Nat} {V LD:List aC} {aac:List Nat} {bJ Rm:Nat} {hv:V.length=bJ} {rq:LD.length=Rm} (hb:b<s.aT) (wN:s'.aT=s.aT) (he: ∀k,k≠b→s'.get (br k)=s.get (br k)) (aB:s'.get (br b)= .jX g m ids) (hw:Af s b s.aT=true)
  (h1:s.get de= .gw V aac bJ hv) (h2:s'.get de= .gw LD ids Rm rq):(@TS.al Z' n s').H=(@TS.fV Z s).set b ⟨g,5,bh m Z'.ws ids⟩++List.map bK Z'.bs:=by
 rw[qS h2]
 congr 1
 apply List.ext_getElem?
 intro i
 rw[@pJ Z' s' i,List.getElem?_set,@pJ Z s i,@mA Z s,wN]
 by_cases hi:b=i
 ·subst hi;rw[if_pos hb,if_pos rfl,if_pos hb,aB];rfl
 ·rw[if_neg hi,he i (fun e=>hi e.symm)]
  by_cases h:i<s.aT
  ·rw[if_pos h,if_pos h,VH (Z:=Z) (Rr hw i h (fun e=>hi e.symm))]
  ·rw[if_neg h,if_neg h]
theorem AS {n:Nat} {s:TS} {l:List (Nat×TV)} (ad:n≤1000000) (h: ∀p∈l,1000000≤p.1):(s.add l s.vs s.aT).tT n=s.tT n:=by
 show(List.range n).map _=(List.range n).map _
 refine List.map_congr_left fun t a_=> ?_
 have a_:t<n:=List.mem_range.1 a_
 rw[TS.ig,sP fun v hv=>by have:=h _ hv;simp only at this;omega]
def JL (c:Nat) (v:TV) (h:aC) (K:aC→aw):aw:=match v with
 | .i k x=>if k= .i64 then(match c with
  | 0=>K {h with aK:=x}
  | 1=>K {h with a1:=x}
  | 4=>K {h with cx:=x}
  | _=> .no) else .no
 | .b x=>(match c with
  | 3=>K {h with cn:=x.den}
  | _=> .no)
 | _=> .no
theorem SE {c:Nat} {v:TV} {w:aC} {b:List Bool} {K:aC→aw} {R:Exit→TS→Prop} (h:(JL c v {w with ak:=b} K).den R):
  ∃x:aC,x.ak=w.ak∧(K {x with ak:=b}).den R∧(∀m id,gf (lb m w id) c (eM v.bb)=lb m x id)∧c+(eM v.bb).length≤5:=by
 unfold JL at h
 split at h
 ·rename_i k x
  split at h
  ·rename_i hk
   subst hk
   split at h
   ·exact⟨{w with aK:=x},rfl,h,fun m id=>rfl,(show(0+1:Nat)≤5 by decide)⟩
   ·exact⟨{w with a1:=x},rfl,h,fun m id=>rfl,(show(1+1:Nat)≤5 by decide)⟩
   ·exact⟨{w with cx:=x},rfl,h,fun m id=>rfl,(show(4+1:Nat)≤5 by decide)⟩
   ·exact h.elim
  ·exact h.elim
 ·rename_i x
  split at h
  ·exact⟨{w with cn:=x.den},rfl,h,fun m id=>rfl,(show(3+1:Nat)≤5 by decide)⟩
  ·exact h.elim
 ·exact h.elim
theorem jj.ac7 {ws:List aC} {ids:List Nat} {bs:List (List Bool)} (G:jj ws ids bs) {i id:Nat} {x:aC} (hi:i<ws.length) (h1:id<bs.length) (h2:bs.getD id []=x.ak) (ay: ∀j:Nat,ids[j]?≠some id):
  jj (ws.set i x) (ids.set i id) bs∧view (ws.set i x) (ids.set i id) bs=(view ws ids bs).set i x:=by
 have ao:=G.ok.len
 refine⟨⟨⟨by rw[List.length_set,List.length_set];exact ao,fun j k hk=> ?_,fun j k h ap hk=> ?_⟩,fun a b k ap hb=> ?_,G.len⟩,?_⟩
 ·rw[List.getElem?_set] at hk
  split at hk
  ·split at hk
   ·cases hk;exact h1
   ·cases hk
  ·exact G.ok.lt j k hk
 ·rw[List.getElem?_set] at ap hk
  split at ap
  ·rename_i e;subst e
   rw[if_pos rfl,if_pos (by omega)] at hk
   cases ap;cases hk;rw[h2]
  ·rename_i e
   rw[if_neg e] at hk
   exact G.ok.ak j k h ap hk
 ·rw[List.getElem?_set] at ap hb
  split at ap
  ·split at ap
   ·cases ap
    split at hb
    ·rename_i ax _ e2;omega
    ·exact absurd hb (ay b)
   ·cases ap
  ·split at hb
   ·split at hb
    ·cases hb;exact absurd ap (ay a)
    ·cases hb
   ·exact G.kt a b k ap hb
 ·apply List.ext_getElem?
  intro j
  unfold view
  rw[List.getElem?_zipWith,List.getElem?_set,List.getElem?_set,List.getElem?_set,List.getElem?_zipWith,List.length_zipWith]
  by_cases e:i=j
  ·subst e
   rw[if_pos rfl,if_pos rfl,if_pos rfl,if_pos hi,if_pos (by omega),if_pos (by omega)]
   show some ({x with ak:=bs.getD id []}:aC)=some x
   rw[h2]
  ·rw[if_neg e,if_neg e,if_neg e]
theorem jj.snoc {ws:List aC} {ids:List Nat} {bs:List (List Bool)} (G:jj ws ids bs) {xs:List Bool} (hx:xs.length≤1048576):jj ws ids (bs++[xs])∧view ws ids (bs++[xs])=view ws ids bs:=by
 have aB: ∀id,id<bs.length→(bs++[xs]).getD id []=bs.getD id []:=fun id h=>by
  rw[List.getD_eq_getElem?_getD,List.getD_eq_getElem?_getD,List.getElem?_append_left h]
 refine⟨⟨⟨G.ok.len,fun i id h=>by have:=G.ok.lt i id h;rw[List.length_append];omega,fun i id h h1 h2=>by rw[aB id (G.ok.lt i id h2)];exact G.ok.ak i id h h1 h2⟩,G.kt,fun b hb=> ?_⟩,?_⟩
 ·rcases List.mem_append.1 hb with hb | hb
  ·exact G.len b hb
  ·rw[List.mem_singleton.1 hb];exact hx
 ·apply List.ext_getElem?
  intro j
  unfold view
  rw[List.getElem?_zipWith,List.getElem?_zipWith]
  cases h1:ws[j]? with
  | none=>rfl
  | some w=>
   cases h2:ids[j]? with
   | none=>rfl
   | some id=>simp only[aB id (G.ok.lt j id h2)]
def KZ (P:Program) (t:TypeId) (b g:Nat) (i:Int) (c:Nat) (v:TV) (s:TS) (c0 gW:Nat) (ids:List Nat) (K:TS→aw):aw:=match s.get de with
 | .gw V cZ bJ hv=> .eq c0 g (.eq cZ ids (.eq (Nat.blt b s.aT&&Af s b s.aT&&vq P t v.bb) true (match v with
  | .agg l=>(match l with
   | [.i dr al,.i gE go,.Ad id m k,.b gQ,.i nK oJ]=>(match s.get fC with
    | .new fk xs=>
     let s':=s.add [(de,.gw (V.set i.toNat (aC.mk al go xs gQ.den oJ)) (ids.set i.toNat id) bJ ((List.length_set ..).trans hv)),(br b,.jX g gW (ids.set i.toNat id)),(fC,.u)] s.vs s.aT
     .eq c 0 (.eq (dr,gE,nK) (IntKind.i64,IntKind.i64,IntKind.i64) (.eq fk id (.eq m gW (.eq k xs.length (.eq s'.b4 s.b4 (.p (i.toNat<V.length) (K s')))))))
    | _=> .no)
   | _=> .no)
  | v=>JL c v (nth V i) fun y=>
   let s':=s.add [(de,.gw (V.set i.toNat y) ids bJ ((List.length_set ..).trans hv))] s.vs s.aT
   .eq s'.b4 s.b4 (.p (i.toNat<V.length) (K s')))))
 | _=> .no
section
variable [Z:FZ] {P:Program} {cf:gA P} {s:TS} {R:Exit→TS→Prop}
theorem ahK (ad:cf.n≤1000000) {t:TypeId} {b g c c0 gW:Nat} {ids:List Nat} {i:Int} {v:TV} {K:TS→aw} {Kp:List (Nat×List AV)→List Blk→Prop} (av:Fits s) (aB:s.get (br b)= .jX c0 gW ids)
  (hK: ∀s' (Z':FZ),(K s').den R→ @Fits Z' s'→s'.tT cf.n=s.tT cf.n→Kp s'.b4 (@TS.al Z' cf.n s').H) (h:(KZ P t b g i c v s c0 gW ids K).den R):
  ln P t (.ptr b g i.toNat c) v.bb (s.al cf.n).L (s.al cf.n).H Kp:=by
 unfold KZ at h
 split at h
 ·rename_i V cZ bJ ka hk
  obtain⟨h1,h2,ay,h⟩:=h
  subst h1;subst h2
  simp only[Bool.and_eq_true] at ay
  obtain⟨⟨hb,hw⟩,aQ⟩:=ay
  have hb:b<s.aT:=by rw[←Nat.blt_eq];exact hb
  obtain⟨G,e,iV⟩:=av V cZ _ _ hk
  have hs:=Eh aQ
  have mU:=jz G.ok
  rw[e] at mU
  have an:(s.al cf.n).H[b]?=some ⟨c0,5,bh gW Z.ws cZ⟩:=by rw[r4 hb,aB];rfl
  have YD:(s.al cf.n).H=s.fV++List.map bK Z.bs:=qS hk
  unfold ln
  rw[if_pos hs]
  have fin: ∀{s':TS} {ws2:List aC} {ids2:List Nat} {V2:List aC} {n2:Nat} {hv2:V2.length=n2} {cells row':List AV},i.toNat<V.length→c+cells.length≤5→gf (lb gW (nth Z.ws i) (nth cZ i)) c cells=row'→(bh gW Z.ws cZ).set i.toNat row'=bh gW ws2 ids2→s'.aT=s.aT→(∀k,k≠b→s'.get (br k)=s.get (br k))→s'.get (br b)= .jX c0 gW ids2→s'.get de= .gw V2 ids2 n2 hv2→
    s'.b4=s.b4→(K s').den R→ @Fits ⟨ws2,Z.bs⟩ s'→s'.tT cf.n=s.tT cf.n→(cD (s.al cf.n).H[b]? fun blk=>blk.a6=c0∧cD blk.rows[i.toNat]? fun row=>c+cells.length≤row.length∧Kp (s.al cf.n).L ((s.al cf.n).H.set b {blk with rows:=blk.rows.set i.toNat (gf row c cells)})):=by
   intro s' ws2 ids2 V2 n2 hv2 cells row' hi hc wU sD wN kO lC Ct bB YF hf bZ
   refine dF an ⟨rfl,dF (eY G.ok.len (by omega)) ⟨hc,?_⟩⟩
   have:=hK s' ⟨ws2,Z.bs⟩ YF hf bZ
   rw[bB,ah_ (Z:=Z) (Z':=⟨ws2,Z.bs⟩) hb wN kO lC hw hk Ct] at this
   rw[YD,List.set_append_left _ _ (by rw[mA];exact hb),wU]
   show Kp s.b4 (s.fV.set b ⟨c0,5,(bh gW Z.ws cZ).set i.toNat row'⟩++_)
   rw[sD];exact this
  split at h
  ·split at h
   ·rename_i dr al gE go id m k gQ nK oJ
    split at h
    ·rename_i fk xs wO
     obtain⟨h1,h2,bg,cW,e1,l9,qZ,h⟩:=h
     subst h1;subst bg;subst cW;subst e1
     cases h2
     obtain⟨cb,n2,li⟩:=iV _ _ wO
     obtain⟨yv,bT⟩:=G.ac7 (i:=i.toNat) (id:=fk) (x:=aC.mk al go xs gQ.den oJ) (by omega) cb n2 li
     refine fin (s':=s.add [(de,.gw (V.set i.toNat (aC.mk al go xs gQ.den oJ)) (cZ.set i.toNat fk) bJ ((List.length_set ..).trans ka)),(br b,.jX c0 m (cZ.set i.toNat fk)),(fC,.u)] s.vs s.aT) (ws2:=Z.ws.set i.toNat (aC.mk al go xs gQ.den oJ)) (V2:=V.set i.toNat (aC.mk al go xs gQ.den oJ)) (n2:=bJ) (hv2:=(List.length_set ..).trans ka) (ids2:=cZ.set i.toNat fk) (row':=lb m (aC.mk al go xs gQ.den oJ) fk) qZ (Nat.le_refl 5) ?_ (Cj G.ok.len) rfl (fun k hk=> ?_) ?_ ?_ l9 h ?_ (AS ad ?_)
     ·rfl
     ·rw[TS.ig,gN,if_neg (by unfold de br;omega),gN,if_neg (by unfold br;omega),gN,if_neg (by unfold fC br;omega)];rfl
     ·rw[TS.ig,gN,if_neg (by unfold de br;omega),gN,if_pos rfl]
     ·rw[TS.ig,gN,if_pos rfl]
     ·intro V3 CN li p_ ay
      rw[TS.ig,gN,if_pos rfl] at ay
      cases ay
      refine⟨yv,by rw[←e];exact bT,fun id xs hx=> ?_⟩
      rw[TS.ig,gN,if_neg (by unfold de fC;omega),gN,if_neg (by unfold br fC;omega),gN,if_pos rfl] at hx
      cases hx
     ·intro p ab
      simp only[List.mem_cons,List.not_mem_nil,or_false] at ab
      rcases ab with rfl | rfl | rfl
      ·exact Nat.le_refl _
      ·show 1000000≤br b;unfold br;omega
      ·show 1000000≤fC;unfold fC;omega
    ·exact h.elim
   ·exact h.elim
  ·have aiM:i.toNat<V.length∨ ¬i.toNat<V.length:=by omega
   by_cases hi:i.toNat<V.length
   ·have hv:=Ew G.ok (i:=i) (by rw[e];exact hi)
    rw[e] at hv
    rw[hv] at h
    obtain⟨x,bt,h,bP,UG⟩:=SE h
    obtain⟨l9,qZ,h⟩:=h
    have F:=(G.yQ (j:=i) (by omega)).xM x (by rw[bt];have:=(G.yQ (j:=i) (by omega)).pT;exact this)
    have lc:(nth (view Z.ws cZ Z.bs) i).ak=Z.bs.getD (nth cZ i) []:=by rw[e,hv]
    rw[lc,e] at F
    refine fin (s':=s.add [(de,.gw (V.set i.toNat {x with ak:=Z.bs.getD (nth cZ i) []}) cZ bJ ((List.length_set ..).trans ka))] s.vs s.aT) (ws2:=Z.ws.set i.toNat x) (ids2:=cZ) (V2:=V.set i.toNat {x with ak:=Z.bs.getD (nth cZ i) []}) (n2:=bJ) (hv2:=(List.length_set ..).trans ka) qZ UG (bP gW (nth cZ i)) (nA G.ok.len (by omega)) rfl (fun k hk=> ?_) ?_ ?_ l9 h ?_ (AS ad ?_)
    ·rw[TS.ig,gN,if_neg (by unfold de br;omega)];rfl
    ·rw[TS.ig,gN,if_neg (by unfold de br;omega)];exact aB
    ·rw[TS.ig,gN,if_pos rfl]
    ·intro V3 CN li p_ ay
     rw[TS.ig,gN,if_pos rfl] at ay
     cases ay
     refine⟨F.G,F.iN,fun id xs hx=> ?_⟩
     rw[TS.ig,gN,if_neg (by unfold de fC;omega)] at hx
     exact iV id xs hx
    ·intro p ab
     rw[List.mem_singleton.1 ab];exact Nat.le_refl _
   ·obtain⟨x,bt,h,_⟩:=SE (w:=nth V i) (b:=(nth V i).ak) h
    exact absurd h.2.1 hi
 ·exact h.elim
def AU (P:Program) (t:TypeId) (w:Int) (ids:List Nat) (m:Nat) (j:Int) (v:TV) (s:TS) (K:TS→aw):aw:=match s.get de with
 | .gw V cZ bJ hv=> .eq cZ ids (.eq m s.aT (.eq (vq P t v.bb) true (match v with
  | .b x=>
   let s':=s.add [(de,.gw (V.set w.toNat {nth V w with ak:=(nth V w).ak.set j.toNat x.den}) ids bJ ((List.length_set ..).trans hv))] s.vs s.aT
   .eq s'.b4 s.b4 (.p (w.toNat<V.length∧j.toNat<(nth V w).ak.length) (K s'))
  | _=> .no)))
 | _=> .no
theorem ahG (ad:cf.n≤1000000) {t:TypeId} {m:Nat} {ids:List Nat} {w j:Int} {v:TV} {K:TS→aw} {Kp:List (Nat×List AV)→List Blk→Prop} (av:Fits s)
  (hK: ∀s' (Z':FZ),(K s').den R→ @Fits Z' s'→s'.tT cf.n=s.tT cf.n→Kp s'.b4 (@TS.al Z' cf.n s').H) (h:(AU P t w ids m j v s K).den R):
  ln P t (.ptr (nth ids w+m) 0 j.toNat 0) v.bb (s.al cf.n).L (s.al cf.n).H Kp:=by
 unfold AU at h
 split at h
 ·rename_i V cZ bJ ka hk
  obtain⟨h1,h2,ay,h⟩:=h
  subst h1;subst h2
  have hs:=Eh ay
  unfold ln
  rw[if_pos hs]
  split at h
  ·rename_i x
   obtain⟨bg,cW,h⟩:=h
   obtain⟨G,e,iV⟩:=av V cZ _ _ hk
   have mU:=jz G.ok
   rw[e] at mU
   have hv:=Ew G.ok (i:=w) (by rw[e];exact cW.1)
   rw[e] at hv
   have cC:=G.yQ (j:=w) (by omega)
   have F:=cC.JK ((nth V w).ak.set j.toNat x.den) (by rw[List.length_set,e])
   rw[e] at F
   have hid:=G.ok.lt w.toNat _ (gX (xs:=cZ) (i:=w) (by have:=G.ok.len;omega))
   refine dF (Gb av hk cW.1) ⟨rfl,dF (yW cW.2) ⟨Nat.le_refl 1,?_⟩⟩
   have bZ:=AS (n:=cf.n) (s:=s) (l:=[(de,TV.gw (V.set w.toNat {nth V w with ak:=(nth V w).ak.set j.toNat x.den}) cZ bJ ((List.length_set ..).trans ka))]) ad (fun p ab=>by rw[List.mem_singleton.1 ab];exact Nat.le_refl _)
   have sv: @Fits ⟨Z.ws,Z.bs.set (nth cZ w) ((nth V w).ak.set j.toNat x.den)⟩ (s.add [(de,TV.gw (V.set w.toNat {nth V w with ak:=(nth V w).ak.set j.toNat x.den}) cZ bJ ((List.length_set ..).trans ka))] s.vs s.aT):=by
    intro V3 CN li p_ ay
    rw[TS.ig,gN,if_pos rfl] at ay
    cases ay
    refine⟨F.G,F.iN,fun id xs hx=> ?_⟩
    rw[TS.ig,gN,if_neg (by unfold de fC;omega)] at hx
    obtain⟨cb,n2,li⟩:=iV id xs hx
    refine⟨by show id<(Z.bs.set (nth cZ w) ((nth V w).ak.set j.toNat x.den)).length;rw[List.length_set];exact cb,?_,li⟩
    show(Z.bs.set (nth cZ w) ((nth V w).ak.set j.toNat x.den)).getD id []=xs
    have bN:nth cZ w≠id:=fun q=>li w.toNat (by rw[gX (xs:=cZ) (i:=w) (by have:=G.ok.len;omega),q])
    rw[List.getD_eq_getElem?_getD,List.getElem?_set,if_neg bN,←List.getD_eq_getElem?_getD];exact n2
   have:=hK _ ⟨Z.ws,Z.bs.set (nth cZ w) ((nth V w).ak.set j.toNat x.den)⟩ h sv bZ
   rw[bg] at this
   have Ch:(s.al cf.n).H=s.fV++List.map bK Z.bs:=qS hk
   have c4: ∀Z':FZ,Z'.ws=Z.ws→ @TS.fV Z' (s.add [(de,TV.gw (V.set w.toNat {nth V w with ak:=(nth V w).ak.set j.toNat x.den}) cZ bJ ((List.length_set ..).trans ka))] s.vs s.aT)= @TS.fV Z s:=fun Z' hw=>by
    show(List.range s.aT).map _=(List.range s.aT).map _
    refine List.map_congr_left fun b _=> ?_
    rw[TS.ig,gN,if_neg (by unfold de br;omega)]
    show @TV.eJ Z' (s.get (br b))= @TV.eJ Z (s.get (br b))
    cases s.get (br b)<;>first | rfl | (simp only[TV.eJ,hw])
   have GA:= @qS ⟨Z.ws,Z.bs.set (nth cZ w) ((nth V w).ak.set j.toNat x.den)⟩ cf.n (s.add [(de,TV.gw (V.set w.toNat {nth V w with ak:=(nth V w).ak.set j.toNat x.den}) cZ bJ ((List.length_set ..).trans ka))] s.vs s.aT) (V.set w.toNat {nth V w with ak:=(nth V w).ak.set j.toNat x.den}) cZ bJ ((List.length_set ..).trans ka) (by rw[TS.ig,gN,if_pos rfl])
   rw[GA,c4 ⟨Z.ws,Z.bs.set (nth cZ w) ((nth V w).ak.set j.toNat x.den)⟩ rfl] at this
   rw[Ch,List.set_append_right _ _ (by rw[mA];omega),mA,Nat.add_sub_cancel]
   have hM:({bK (nth V w).ak with rows:=(bK (nth V w).ak).rows.set j.toNat (gf (aX (nth (nth V w).ak j)) 0 (eM (TV.b x).bb))}:Blk)=bK ((nth V w).ak.set j.toNat x.den):=by
    show(⟨0,1,(List.map aX (nth V w).ak).set j.toNat (aX x.den)⟩:Blk)=⟨0,1,_⟩
    rw[E9]
   show Kp s.b4 (s.fV++(List.map bK Z.bs).set (nth cZ w) {bK (nth V w).ak with rows:=(bK (nth V w).ak).rows.set j.toNat (gf (aX (nth (nth V w).ak j)) 0 (eM (TV.b x).bb))})
   rw[hM,Gc]
   exact this
  ·exact h.elim
 ·exact h.elim
def IW (P:Program) (t:TypeId) (l c:TV) (s:TS) (K:TV→TS→aw):aw:=match l with
 | .i _ l=>(match c with
  | .i _ c=>(match s.get de with
   | .gw V ids _ _=> .all Nat fun id=>
    let s':=s.add [(fC,.new id (List.replicate l.toNat false))] s.vs s.aT
    .eq (C_ P t) (some ([AV.bool false],pY P t)) (.eq l c (.eq s'.b4 s.b4 (.p (0≤l∧(pY P t:Int)*l≤140737488355328∧l≤1048576) (K (.Ad id s.aT (List.replicate l.toNat false).length) s'))))
   | _=> .no)
  | _=> .no)
 | _=> .no
theorem adI (ad:cf.n≤1000000) (av:Fits s) {t:TypeId} {l c:TV} {K:TV→TS→aw} {Kp:AV→List (Nat×List AV)→List Blk→Prop} (hK:vP cf s R K Kp) (h:(IW P t l c s K).den R):xf P t l.bb c.bb (s.al cf.n).L (s.al cf.n).H Kp:=by
 unfold IW at h
 split at h
 ·split at h
  ·split at h
   ·rename_i C8 xb l ob abz c ajh V ids bJ ka hk
    obtain⟨h1,h2,ay,bg,bm⟩:=h Z.bs.length
    subst h2
    obtain⟨nd,z,q1,q2,q3,q4,cP,cF⟩:=Q1 h1
    refine dF q1 (dF q2 ?_)
    rw[if_pos ⟨q3,q4⟩]
    refine⟨bg.1,Int.le_refl _,by rw[←cF];exact bg.2.1,by have:=bg.2.2;omega,?_⟩
    obtain⟨G,e,iV⟩:=av V ids _ _ hk
    have ph:(List.replicate l.toNat false).length≤1048576:=by rw[List.length_replicate];have:=bg.2.2;omega
    obtain⟨yv,bT⟩:=G.snoc ph
    have bZ:=AS (n:=cf.n) (s:=s) (l:=[(fC,TV.new Z.bs.length (List.replicate l.toNat false))]) ad (fun p ab=>by rw[List.mem_singleton.1 ab];show 1000000≤fC;unfold fC;omega)
    have NU:(s.add [(fC,TV.new Z.bs.length (List.replicate l.toNat false))] s.vs s.aT).get de= .gw V ids bJ ka:=by rw[TS.ig,gN,if_neg (by unfold de fC;omega)];exact hk
    have sv: @Fits ⟨Z.ws,Z.bs++[List.replicate l.toNat false]⟩ (s.add [(fC,TV.new Z.bs.length (List.replicate l.toNat false))] s.vs s.aT):=by
     intro V3 CN li p_ ay
     rw[NU] at ay
     cases ay
     refine⟨yv,bT.trans e,fun id xs hx=> ?_⟩
     rw[TS.ig,gN,if_pos rfl] at hx
     cases hx
     refine⟨by show Z.bs.length<(Z.bs++[List.replicate l.toNat false]).length;rw[List.length_append];simp,by show(Z.bs++[List.replicate l.toNat false]).getD Z.bs.length []=_;rw[List.getD_eq_getElem?_getD,List.getElem?_append_right (Nat.le_refl _)];simp,fun j af=> ?_⟩
     have:=G.ok.lt j _ af;omega
    have:=hK _ _ ⟨Z.ws,Z.bs++[List.replicate l.toNat false]⟩ bm sv bZ
    rw[ay] at this
    have Ch:(s.al cf.n).H=s.fV++List.map bK Z.bs:=qS hk
    have GA:= @qS ⟨Z.ws,Z.bs++[List.replicate l.toNat false]⟩ cf.n _ V ids bJ ka NU
    have c4: @TS.fV ⟨Z.ws,Z.bs++[List.replicate l.toNat false]⟩ (s.add [(fC,TV.new Z.bs.length (List.replicate l.toNat false))] s.vs s.aT)= @TS.fV Z s:=by
     show(List.range s.aT).map _=(List.range s.aT).map _
     refine List.map_congr_left fun b _=> ?_
     rw[TS.ig,gN,if_neg (by unfold fC br;omega)]
     show @TV.eJ _ (s.get (br b))= @TV.eJ Z (s.get (br b))
     cases s.get (br b)<;>rfl
    rw[GA,c4] at this
    have hlen:(s.al cf.n).H.length=Z.bs.length+s.aT:=by rw[Ch,List.length_append,mA,List.length_map];omega
    have qf:z.length=1:=by have:=congrArg List.length cP;simpa using this.symm
    rw[hlen,qf,←cP,Ch]
    show Kp (.ref (Z.bs.length+s.aT) 0 0 l.toNat false) s.b4 (s.fV++List.map bK Z.bs++[⟨0,1,List.replicate l.toNat [AV.bool false]⟩])
    rw[show List.replicate l.toNat [AV.bool false]=List.map aX (List.replicate l.toNat false) by rw[List.map_replicate];rfl,List.append_assoc,y3]
    have WW:(List.replicate l.toNat false).length=l.toNat:=List.length_replicate
    rw[WW] at this
    exact this
   ·exact h.elim
  ·exact h.elim
 ·exact h.elim
def Ud (P:Program) (t:TypeId) (b g:Nat) (i:Int) (c:Nat) (v:TV) (s:TS) (c0:Nat) (aj:List TV) (K:TS→aw):aw:=
 let bL:=aj.take c++pW v++aj.drop (c+(pW v).length)
 let s':=s.gr b s.aT (.dv g bL)
 .eq c0 g (.eq i 0 (.eq (Nat.blt b s.aT&&xk v&&vq P t v.bb&&Nat.ble (c+(eM v.bb).length) aj.length) true (.eq (gf (cu aj) c (eM v.bb)) (cu bL) (.eq bL.length aj.length (.eq s'.b4 s.b4 (K s'))))))
theorem ahJ (ad:cf.n≤1000000) {t:TypeId} {b g c c0:Nat} {aj:List TV} {i:Int} {v:TV} {K:TS→aw} {Kp:List (Nat×List AV)→List Blk→Prop} (av:Fits s) (aB:s.get (br b)= .dv c0 aj)
  (hK: ∀s' (Z':FZ),(K s').den R→ @Fits Z' s'→s'.tT cf.n=s.tT cf.n→Kp s'.b4 (@TS.al Z' cf.n s').H) (h:(Ud P t b g i c v s c0 aj K).den R):
  ln P t (.ptr b g i.toNat c) v.bb (s.al cf.n).L (s.al cf.n).H Kp:=by
 obtain⟨h1,h2,ay,bg,cW,e1,h⟩:=h
 subst h1;subst h2
 simp only[Bool.and_eq_true] at ay
 obtain⟨⟨⟨hb,_⟩,aQ⟩,hle⟩:=ay
 have hb:b<s.aT:=by rw[←Nat.blt_eq];exact hb
 have hs:=Eh aQ
 unfold ln
 rw[if_pos hs]
 refine dF (by rw[r4 hb,aB]) ⟨rfl,dF (a:=cu aj) rfl ⟨by rw[nm,List.length_map];exact Nat.le_of_ble_eq_true hle,?_⟩⟩
 have:=hK _ Z h (pV av) (pU ad)
 rw[vV hb,e1] at this
 show Kp s.b4 ((s.al cf.n).H.set b ⟨c0,aj.length,[gf (cu aj) c (eM v.bb)]⟩)
 rw[bg,←cW]
 exact this
end
inductive nj where
 | v (e:aH)
 | fr
 | w
def nj.es:List nj→List aH
 | []=>[]
 | .v e::r=>e::nj.es r
 | .fr::r=>nj.es r
 | .w::r=> .int::nj.es r
def y1 (aB:Nat):(l:List nj)→ct (nj.es l)→List AV
 | [],_=>[]
 | .v e::r,x=>nt e x.1::y1 aB r x.2
 | .fr::r,x=> .ptr 0 aB 0 0::y1 aB r x
 | .w::r,x=> .ptr 3 0 (show Int from x.1).toNat 0::y1 aB r x.2
def DS (F:Frame):List TV:=[.b (.v F.ok),.ref 1 0 F.aG.length false,.ref 2 0 F.aq.length false,.ref 3 0 F.O.length false]
def Gl [Z:FZ] (aB:Nat) (ids:List Nat) (F:Frame):List Blk:=
 [⟨aB,4,[cu (DS F)]⟩,⟨0,1,F.aG.map (ca true .bool)⟩,⟨0,2,F.aq.map (ca true .ep)⟩,⟨0,5,bh 4 Z.ws ids⟩]++Z.bs.map bK
def EF [Z:FZ] (ids:List Nat) (F:Frame):Prop:=jj Z.ws ids Z.bs∧view Z.ws ids Z.bs=F.O
def U0 (P:Program) (f:FuncId) (aB:Nat) (args:List AV) (F:Frame) (Lr:Frame) (v:AV):Prop:=
 ∀(Z:FZ) (ids:List Nat),@EF Z ids F→dg P f args (@Gl Z aB ids F) fun r H'=>r=v∧ ∃(Z':FZ) (cZ:List Nat),@EF Z' cZ Lr∧H'= @Gl Z' aB cZ Lr
def xe (aB:Nat) (ids:List Nat) (F:Frame):List (Nat×TV):=
 [(br 0,.dv aB (DS F)),(br 1,.blk 0 .bool F.aG F.aG.length rfl),(br 2,.blk 0 .ep F.aq F.aq.length rfl),(br 3,.jX 0 4 ids),(de,.gw F.O ids F.O.length rfl)]
def Gk (s:TS) (K:Nat→Frame→List Nat→aw):aw:=match s.get (br 0) with
 | .dv g aj=>(match aj with
  | [.b k,.ref b1 g1 cb f1,.ref b2 g2 n2 f2,.ref qN g3 li f3]=>(match s.get (br 1) with
   | .blk h1 ax o aW _=>if q1:ax=aH.bool then(match s.get (br 2) with
    | .blk h2 e2 q bq _=>if q2:e2=aH.ep then(match s.get (br 3) with
     | .jX ay gW ids=>(match s.get de with
      | .gw V cZ bJ _=> .eq s.aT 4 (.eq (b1,g1,cb,f1) (1,0,aW,false) (.eq (b2,g2,n2,f2) (2,0,bq,false) (.eq (qN,g3,li,f3) (3,0,bJ,false) (.eq (h1,h2,ay,gW) (0,0,0,4)
       (.eq cZ ids (K g ⟨k.den,k8 q1 o,k8 q2 q,V⟩ ids))))))
      | _=> .no)
     | _=> .no) else .no
    | _=> .no) else .no
   | _=> .no)
  | _=> .no)
 | _=> .no
theorem X1 [Z:FZ] {n:Nat} {s:TS} {K:Nat→Frame→List Nat→aw} {R:Exit→TS→Prop} (av:Fits s) (h:(Gk s K).den R): ∃g F ids,(K g F ids).den R∧EF ids F∧(s.al n).H=Gl g ids F∧s.aT=4∧s.get de= .gw F.O ids F.O.length rfl:=by
 unfold Gk at h
 split at h
 ·rename_i g aj q_
  split at h
  ·split at h
   ·rename_i h1 ax o aW CD ld
    split at h
    ·rename_i q1
     subst q1
     split at h
     ·rename_i h2 e2 q bq lg zo
      split at h
      ·rename_i q2
       subst q2
       split at h
       ·rename_i ay gW ids Zb
        split at h
        ·rename_i V cZ bJ ka hk
         obtain⟨aY,dr,gE,nK,abx,Iw,h⟩:=h
         cases dr;cases gE;cases nK;cases abx;subst Iw;subst CD;subst lg;subst ka
         obtain⟨G,e,_⟩:=av V cZ _ _ hk
         refine⟨_,_,_,h,⟨G,e⟩,?_,aY,hk⟩
         rw[qS hk]
         have hL:s.fV=[(s.get (br 0)).eJ,(s.get (br 1)).eJ,(s.get (br 2)).eJ,(s.get (br 3)).eJ]:=by unfold TS.fV;rw[aY];rfl
         rw[hL,q_,ld,zo,Zb];rfl
        ·exact h.elim
       ·exact h.elim
      ·exact h.elim
     ·exact h.elim
    ·exact h.elim
   ·exact h.elim
  ·exact h.elim
 ·exact h.elim
structure sa (P:Program) where
 f:FuncId
 iF:List nj
 rs:List aH
 pre:ct (nj.es iF)→Frame→Prop
 fn:ct (nj.es iF)→Frame→Frame
 ds:ct (nj.es iF)→Frame→ct rs
 ok: ∀aB x F,pre x F→U0 P f aB (y1 aB iF x) F (fn x F) (pZ rs (ds x F))
def k5:(l:List nj)→List TV→ct (nj.es l)
 | [],_=>()
 | .v e::r,v::vs=>(X6 e v,k5 r vs)
 | .fr::r,_::vs=>k5 r vs
 | .w::r,v::vs=>((match v with
  | .ptr _ _ i _ _=>i
  | _=>(0:Int)),k5 r vs)
 | .v e::r,[]=>(e.uE.default,k5 r [])
 | .fr::r,[]=>k5 r []
 | .w::r,[]=>((0:Int),k5 r [])
def Cc {P:Program}:List (sa P)→FuncId→(sa P→aw)→aw→aw
 | [],_,_,t=>t
 | c::r,f,K,t=>match Nat.beq c.f f with
  | true=>K c
  | false=>Cc r f K t
def Fs {P:Program} (c:sa P) (args:List TV) (s:TS) (K:TV→TS→aw):aw:=Gk s fun g F ids=>
 .eq (cu args) (y1 g c.iF (k5 c.iF args)) (.eq ((cu args).all en&&(cu args).all jR) true (.p (c.pre (k5 c.iF args) F) (.all (List Nat) fun cZ=>
  let s':=s.add ((fC,.u)::xe g cZ (c.fn (k5 c.iF args) F)) s.vs s.aT
  .eq s'.b4 s.b4 (.eq (xi (pZ c.rs (c.ds (k5 c.iF args) F))) true (K (DQ c.rs (c.ds (k5 c.iF args) F)) s')))))
theorem adG (aB:Nat) (ids:List Nat) (F:Frame) (s:TS):let s':=s.add ((fC,.u)::xe aB ids F) s.vs s.aT
  s'.get (br 0)= .dv aB (DS F)∧s'.get (br 1)= .blk 0 .bool F.aG F.aG.length rfl∧s'.get (br 2)= .blk 0 .ep F.aq F.aq.length rfl∧s'.get (br 3)= .jX 0 4 ids∧s'.get de= .gw F.O ids F.O.length rfl∧s'.get fC= .u:=by
 intro s'
 have au:fC≠br 0∧fC≠br 1∧fC≠br 2∧fC≠br 3∧fC≠de:=by unfold fC br de;omega
 have e: ∀k,s'.get k=gF ((fC,.u)::xe aB ids F) k (s.get k):=fun k=>TS.ig ..
 refine⟨?_,?_,?_,?_,?_,?_⟩<;>rw[e]<;>rfl
theorem Wr [Z:FZ] {P:Program} {n:Nat} (ad:n≤1000000) {c:sa P} {args:List TV} {s:TS} {K:TV→TS→aw} {R:Exit→TS→Prop} {Kp:AV→List (Nat×List AV)→List Blk→Prop} (av:Fits s)
  (hK: ∀v s' (Z':FZ),(K v s').den R→ @Fits Z' s'→s'.tT n=s.tT n→Kp v.bb s'.b4 (@TS.al Z' n s').H) (h:(Fs c args s K).den R):kK P c.f (cu args) (s.al n).L (s.al n).H Kp:=by
 unfold Fs at h
 obtain⟨g,F,ids,bm,h1,h2,ay,_⟩:=X1 (n:=n) av h
 obtain⟨dr,gE,nK,hk⟩:=bm
 simp only[Bool.and_eq_true] at gE
 refine .inr (.inr (.inl ⟨gE.1,gE.2,?_⟩))
 rw[h2,dr]
 refine(c.ok g _ F nK Z ids h1).mono fun r H' U=> ?_
 obtain⟨rfl,Z',cZ,q1,rfl⟩:=U
 obtain⟨Iw,aby,hk⟩:=hk cZ
 refine⟨aby,?_⟩
 obtain⟨ag,aW,bq,dj,ff,adC⟩:=adG g cZ (c.fn (k5 c.iF args) F) s
 have sv: @Fits Z' (s.add ((fC,.u)::xe g cZ (c.fn (k5 c.iF args) F)) s.vs s.aT):=by
  intro V3 CN li p_ ay
  rw[ff] at ay
  cases ay
  refine⟨q1.1,q1.2,fun id xs hx=> ?_⟩
  rw[adC] at hx;cases hx
 have:=hK _ _ Z' hk sv (AS ad fun p ab=>by
  simp only[xe,List.mem_cons,List.not_mem_nil,or_false] at ab
  rcases ab with rfl | rfl | rfl | rfl | rfl | rfl
  ·show 1000000≤fC;unfold fC;omega
  ·show 1000000≤br 0;unfold br;omega
  ·show 1000000≤br 1;unfold br;omega
  ·show 1000000≤br 2;unfold br;omega
  ·show 1000000≤br 3;unfold br;omega
  ·exact Nat.le_refl _)
 rw[Iw,Jw,@qS Z' n _ _ _ _ _ ff] at this
 have hL: @TS.fV Z' (s.add ((fC,.u)::xe g cZ (c.fn (k5 c.iF args) F)) s.vs s.aT)=[@TV.eJ Z' (.dv g (DS (c.fn (k5 c.iF args) F))),@TV.eJ Z' (.blk 0 .bool (c.fn (k5 c.iF args) F).aG _ rfl),@TV.eJ Z' (.blk 0 .ep (c.fn (k5 c.iF args) F).aq _ rfl),@TV.eJ Z' (.jX 0 4 cZ)]:=by
  rw[←ag,←aW,←bq,←dj]
  show(List.range s.aT).map _=_
  rw[ay];rfl
 rw[hL] at this
 exact this
inductive lv where
 | v (e:aH)
 | p
def lv.es:List lv→List aH
 | []=>[]
 | .v e::r=>e::lv.es r
 | .p::r=>lv.es r
def BZ (g:Nat):(l:List lv)→ct (lv.es l)→List AV
 | [],_=>[]
 | .v e::r,x=>nt e x.1::BZ g r x.2
 | .p::r,x=> .ptr 0 g 0 0::BZ g r x
structure pN (P:Program) where
 f:FuncId
 ce:aH
 iF:List lv
 rs:List aH
 pre:ct (lv.es iF)→ce.T→Prop
 fn:ct (lv.es iF)→ce.T→ce.T
 ds:ct (lv.es iF)→ce.T→ct rs
 ok: ∀g x c,pre x c→tw P f g (BZ g iF x) (ca false ce c) (ca false ce (fn x c)) (pZ rs (ds x c))
def RQ:List lv→List TV→TV
 | .p::_,v::_=>v
 | .v _::r,_::vs=>RQ r vs
 | _,_=> .u
def GG:List lv→Bool
 | []=>false
 | .p::_=>true
 | .v _::r=>GG r
def JD:TS:=⟨[],[],[],0⟩
def BN (p:AV):(l:List lv)→List TV→(ct (lv.es l)→List Prop→aw)→aw
 | [],[],K=>K () []
 | .v e::r,v::vs,K=>conv JD e v fun x o=>BN p r vs fun y hn=>K (x,y) (o++hn)
 | .p::r,v::vs,K=> .eq v.bb p (BN p r vs K)
 | _,_,_=> .no
def aed (e:aH):Bool:=e.oy
def FA {P:Program} (c:pN P) (args:List TV) (p:AV) (cells:List TV) (K:TV→c.ce.T→aw):aw:=
 .eq (cu cells) (ca false c.ce (c.ce.mk (o4 c.ce.bR cells))) (.eq (GG c.iF&&aed c.ce&&(cu args).all en) true (BN p c.iF args fun x o=>
  Ds (o++[c.pre x (c.ce.mk (o4 c.ce.bR cells))]) (K (DQ c.rs (c.ds x (c.ce.mk (o4 c.ce.bR cells)))) (c.fn x (c.ce.mk (o4 c.ce.bR cells))))))
def FB {P:Program} (c:pN P) (args:List TV) (s:TS) (K:TV→TS→aw):aw:=match RQ c.iF args with
 | .ptr b g _ _ _=>(match s.get (br b) with
  | .dv c0 cells=>(match Nat.blt b s.aT with
   | true=> .eq c0 g (FA c args (.ptr b g 0 0) cells fun v y=>
     let s':=s.gr b s.aT (.dv g (iQ false c.ce y))
     .eq s'.b4 s.b4 (K v s'))
   | false=> .no)
  | _=> .no)
 | .lp v _=>(match kf s.vs v with
  | some m=>FA c args (.e4 v 0) (hg s v 0 m) fun w y=>
    let s':=s.add (tL v 0 (iQ false c.ce y)) s.vs s.aT
    .eq s'.b4 (kA s.b4 v (ca false c.ce y)) (.eq (oV (tL v 0 (iQ false c.ce y))) true (K w s'))
  | none=> .no)
 | _=> .no
def Cd {P:Program}:List (pN P)→FuncId→(pN P→aw)→aw→aw
 | [],_,_,t=>t
 | c::r,f,K,t=>match Nat.beq c.f f with
  | true=>K c
  | false=>Cd r f K t
theorem MZ {P:Program} {f:FuncId} {K:pN P→aw} {t:aw} {R:Exit→TS→Prop}: ∀{mB:List (pN P)},(Cd mB f K t).den R→(∃m,m.f=f∧(K m).den R)∨t.den R
 | [],h=> .inr h
 | c::r,h=>by
  unfold Cd at h
  split at h
  ·rename_i hf;exact .inl ⟨c,Nat.eq_of_beq_eq_true hf,h⟩
  ·exact MZ h
theorem BX {e:aH} (h:e.oy=true) (x:e.T):(ca false e x).all uF=true∧(ca false e x).all iP=true:=by cases e<;>first | exact⟨rfl,rfl⟩ | cases h
theorem Fz {p:AV} {g:Nat} {R:Exit→TS→Prop}: ∀{l:List lv} {vs:List TV} {K:ct (lv.es l)→List Prop→aw},(BN p l vs K).den R→ ∃x o,(K x o).den R∧((∀φ∈o,φ)→az (tt p (.ptr 0 g 0 0)) (cu vs) (BZ g l x))∧(GG l=true→p∈cu vs)
 | [],[],K,h=>⟨(),[],h,fun _=>az.nil,fun h=>by cases h⟩
 | .v e::r,v::vs,K,h=>by
  letI Z:FZ:=⟨[],[]⟩
  obtain⟨x,o,h,dr⟩:=Fy (n:=0) (Fits.none (s:=JD) rfl) (show(conv JD e v _).den R from h)
  obtain⟨y,hn,h,gE,nK⟩:=Fz (l:=r) h
  exact⟨(x,y),o++hn,h,fun ar=>az.cons (.inr (dr fun φ ek=>ar φ (List.mem_append_left _ ek))) (gE fun φ ek=>ar φ (List.mem_append_right _ ek)),fun ab=>List.mem_cons_of_mem _ (nK ab)⟩
 | .p::r,v::vs,K,h=>by
  obtain⟨e,h⟩:=h
  obtain⟨y,hn,h,gE,nK⟩:=Fz (l:=r) h
  exact⟨y,hn,h,fun ar=>az.cons (.inl ⟨e,rfl⟩) (gE ar),fun _=>by rw[cu,e];exact List.mem_cons_self ..⟩
 | [],_::_,K,h=>h.elim
 | .v _::_,[],K,h=>h.elim
 | .p::_,[],K,h=>h.elim
theorem Mp {P:Program} {c:pN P} {args:List TV} {p:AV} {cells:List TV} {K:TV→c.ce.T→aw} {R:Exit→TS→Prop} (g:Nat) (h:(FA c args p cells K).den R):
  ∃dB x y t,(K t y).den R∧(cu args).all en=true∧cu cells=ca false c.ce x∧c.ce.oy=true∧p∈cu args∧az (tt p (.ptr 0 g 0 0)) (cu args) dB∧tw P c.f g dB (ca false c.ce x) (ca false c.ce y) t.bb:=by
 obtain⟨h1,h2,h⟩:=h
 simp only[Bool.and_eq_true] at h2
 obtain⟨x,o,h,gE,nK⟩:=Fz (g:=g) h
 obtain⟨ar,h⟩:=Ru h
 refine⟨_,_,_,_,h,h2.2,h1,h2.1.2,nK h2.1.1,gE fun φ ek=>ar φ (List.mem_append_left _ ek),?_⟩
 rw[Jw]
 exact c.ok g x _ (ar _ (List.mem_append_right _ (List.mem_singleton.2 rfl)))
theorem Sc {c:List TV} {e:aH} {x:e.T} (h:cu c=ca false e x):c.length=(ca false e x).length:=by rw[←h,nm,List.length_map]
theorem Ww [Z:FZ] {P:Program} {n:Nat} (ad:n≤1000000) {c:pN P} {args:List TV} {s:TS} {K:TV→TS→aw} {R:Exit→TS→Prop} {Kp:AV→List (Nat×List AV)→List Blk→Prop} (av:Fits s)
  (hK: ∀v s' (Z':FZ),(K v s').den R→ @Fits Z' s'→s'.tT n=s.tT n→Kp v.bb s'.b4 (@TS.al Z' n s').H) (h:(FB c args s K).den R):kK P c.f (cu args) (s.al n).L (s.al n).H Kp:=by
 unfold FB at h
 split at h
 ·rename_i b g i m col ab
  split at h
  ·rename_i c0 cells aB
   split at h
   ·rename_i hb
    have hb:b<s.aT:=by rw[←Nat.blt_eq];exact hb
    obtain⟨e,h⟩:=h
    subst e
    obtain⟨dB,x,y,t,bm,h1,h2,ay,bg,cW,e1⟩:=Mp c0 h
    obtain⟨bB,bm⟩:=bm
    refine .inr (.inr (.inr ⟨h1,dB,ca false c.ce x,ca false c.ce y,t.bb,(BX ay x).1,(BX ay y).2,.inl ⟨b,c0,?_,bg,cW,e1,?_⟩⟩))
    ·rw[r4 hb,aB]
     show some (Blk.mk c0 cells.length [cu cells])=_
     rw[Sc h2,h2]
    ·have:=hK _ _ Z bm (pV av) (pU ad)
     rw[bB,vV hb] at this
     have ax:TV.eJ (.dv c0 (iQ false c.ce y))=Blk.mk c0 (ca false c.ce x).length [ca false c.ce y]:=by
      show Blk.mk c0 (iQ false c.ce y).length [cu (iQ false c.ce y)]=_
      rw[Sc (BH false c.ce y),BH,tN,tN]
     rw[ax] at this
     exact this
   ·exact h.elim
  ·exact h.elim
 ·rename_i v col ab
  split at h
  ·rename_i m hm
   obtain⟨dB,x,y,t,bm,h1,h2,ay,bg,cW,e1⟩:=Mp 0 h
   obtain⟨bB,hb,bm⟩:=bm
   refine .inr (.inr (.inr ⟨h1,dB,ca false c.ce x,ca false c.ce y,t.bb,(BX ay x).1,(BX ay y).2,.inr ⟨v,?_,bg,cW,e1,?_⟩⟩))
   ·rw[vr,hm,←h2];rfl
   ·have:=hK _ _ Z bm (yO hb av) (yN ad hb)
    rw[bB,yM hb] at this
    exact this
  ·exact h.elim
 ·exact h.elim
structure pP (P:Program) where
 len:List Nat
 oJ:List (sa P)
 Er:List (pN P)
def KY (P:Program) (n:Nat) (t:TypeId) (b g:Nat) (i:Int) (m c:Nat) (v:TV) (s:TS) (w:TV) (K:TS→aw):aw:=match w with
 | .jX c0 gW ids=>(match xk v with
  | true=>KZ P t b g i c v s c0 gW ids K
  | false=> .no)
 | .dv c0 aj=>Ud P t b g i c v s c0 aj K
 | _=>KV P n t b g i m c v s K
section
variable {P:Program} (cf:gA P) (s:TS)
def Ex (dM:pP P) (o:Oper) (K:TV→TS→aw):aw:=match o.op with
 | .store t a v=>(match cm cf.n s a with
  | .lp x c=>o2 (cm cf.n s v) fun w=>za cf s o (.tup []) (tL x c (pW w)) s.vs K
  | .ptr b g i m c=>o2 (cm cf.n s v) fun w=>KY P cf.n t b g i m c w s (s.get (br b)) fun s'=>K (.tup []) s'
  | .wv w ids m j=>o2 (cm cf.n s v) fun x=>AU P t w ids m j x s fun s'=>K (.tup []) s'
  | _=> .no)
 | .alloc e=>(match o.dst with
  | some d=>za cf s o (.lp d 0) (tL d 0 (A7 P e)) ((d,(A7 P e).length)::s.vs) K
  | none=> .no)
 | .box _ x=>(match o.dst with
  | some d=>o2 (cm cf.n s x) fun w=>za cf s o (.lp d 0) (tL d 0 (pW w)) ((d,(pW w).length)::s.vs) K
  | none=> .no)
 | .makeSlice t l c=>(match iE s with
  | true=>xc cf.FV t fun e=>IY P cf.n t e (cm cf.n s l) (cm cf.n s c) s K
  | false=>IW P t (cm cf.n s l) (cm cf.n s c) s K)
 | .buildSlice t m ps=>xc cf.FV t fun e=>C6 s e (ps.toList.map fun p=>cm cf.n s p.2) fun xs=>qY (fun H Q=>jp P o (fun x=>(cm cf.n s x).bb) s.b4 H Q) (fun v=>K v s) (.v (QQ e xs (ps.toList.map fun p=>cm cf.n s p.2)))
 | .binOp op t x y _=>(match cm cf.n s x with
  | .l e xs _ _=>(match op with
   | .eql=> .eq (qk y&&(ix P t).isSome) true (.two (.jr (xs≠[]) (K (.b .f) s)) (.jr (xs=[]) (.all Bool fun b=>K (.b (.v b)) s)))
   | _=> .no)
  | _=>rT cf s o fun v=>K v s)
 | .call c=>(match c.callee with
  | .builtin b=>(match b with
   | .len=>(match c.args.toList,c.argTypes.toList with
    | [x],[t]=>(match cm cf.n s x with
     | .l e xs c8 fr=>(match o.dst with
      | some d=>(match dM.len.any (Nat.beq d) with
       | true=>rT cf s o fun v=>K v s
       | false=> .eq (js P t (TV.l e xs c8 fr).bb) true (.jr (xs.length≤4611686018427387904) (K (.i .i64 xs.length) s)))
      | none=> .no)
     | _=>rT cf s o fun v=>K v s)
    | _,_=> .no)
   | .append=>(match c.args.toList,c.argTypes.toList with
    | [x,y],[t,t2]=>EX P cf.n t t2 (cm cf.n s x) (cm cf.n s y) s K
    | _,_=> .no)
   | _=> .no)
  | .value f=>(match cm cf.n s f with
   | .fn g caps=>Cc dM.oJ g (fun m=>Fs m (c.args.toList.map (cm cf.n s)++caps) s K) (Cd dM.Er g (fun m=>FB m (c.args.toList.map (cm cf.n s)++caps) s K) (rT cf s o fun v=>K v s))
   | _=> .no)
  | _=> .no)
 | _=>rT cf s o fun v=>K v s
end
section
variable {P:Program} {cf:gA P} {s:TS} {R:Exit→TS→Prop}
variable {K:TV→TS→aw} {Kp:AV→List (Nat×List AV)→List Blk→Prop}
theorem ahF {t:TypeId} {m:Nat} {ids:List Nat} {w j:Int} {v:TV} {K:TS→aw} (h:(AU P t w ids m j v s K).den R):en v.bb=true:=by
 unfold AU at h
 split at h
 ·obtain⟨_,_,_,h⟩:=h
  split at h
  ·rfl
  ·exact h.elim
 ·exact h.elim
end
section
variable {P:Program} {cf:gA P} {s:TS} {R:Exit→TS→Prop}
variable {K:TV→TS→aw} {Kp:AV→List (Nat×List AV)→List Blk→Prop}
theorem MY {f:FuncId} {K:sa P→aw} {t:aw}: ∀{mB:List (sa P)},(Cc mB f K t).den R→(∃m,m.f=f∧(K m).den R)∨t.den R
 | [],h=> .inr h
 | c::r,h=>by
  unfold Cc at h
  split at h
  ·rename_i hf;exact .inl ⟨c,Nat.eq_of_beq_eq_true hf,h⟩
  ·exact MY h
end
section
variable [Z:FZ] {P:Program} {cf:gA P} {s:TS} {R:Exit→TS→Prop}
variable {K:TV→TS→aw} {Kp:AV→List (Nat×List AV)→List Blk→Prop}
theorem ahI (ad:cf.n≤1000000) (av:Fits s) {t:TypeId} {b g m c:Nat} {i:Int} {v:TV} {K:TS→aw} {Kp:List (Nat×List AV)→List Blk→Prop} (hK: ∀s' (Z':FZ),(K s').den R→ @Fits Z' s'→s'.tT cf.n=s.tT cf.n→Kp s'.b4 (@TS.al Z' cf.n s').H)
  (h:(KY P cf.n t b g i m c v s (s.get (br b)) K).den R):eo (en v.bb) (ln P t (.ptr b g i.toNat c) v.bb (s.al cf.n).L (s.al cf.n).H Kp):=by
 unfold KY at h
 split at h
 ·rename_i c0 gW ids aB
  split at h
  ·rename_i hv
   exact Dn (Dl hv) (ahK ad av aB hK h)
  ·exact h.elim
 ·rename_i c0 aj aB
  have ay:(Nat.blt b s.aT&&xk v&&vq P t v.bb&&Nat.ble (c+(eM v.bb).length) aj.length)=true:=h.2.2.1
  simp only[Bool.and_eq_true] at ay
  exact Dn (Dl ay.1.1.2) (ahJ ad av aB hK h)
 ·exact ahC ad av hK h
theorem UD (ad:cf.n≤1000000) (av:Fits s) {dM:pP P} {o:Oper} (hK:vP cf s R K Kp) (h:(Ex cf s dM o K).den R):jE P [] o (bY (s.al cf.n).T) (s.al cf.n).L (s.al cf.n).H Kp:=by
 have Az: ∀v,(K v s).den R→Kp v.bb (s.al cf.n).L (s.al cf.n).H:=fun v hv=>hK v s Z hv av rfl
 have rd:(rT cf s o fun v=>K v s).den R→jp P o (bY (s.al cf.n).T) (s.al cf.n).L (s.al cf.n).H fun r=>Kp r (s.al cf.n).L (s.al cf.n).H:=fun h=>Se av (Kp:=fun r=>Kp r (s.al cf.n).L (s.al cf.n).H) Az h
 unfold Ex at h
 split at h
 ·rename_i t a v ft
  split at h
  ·rw[p4] at h;exact Gx ad av hK h
  ·rename_i b g i m c ap
   rw[p4] at h
   obtain⟨dst,op,ty,pos,after,guard⟩:=o
   cases ft
   show eo (en (bY (s.al cf.n).T v)) (ln P t (bY (s.al cf.n).T a) (bY (s.al cf.n).T v) _ _ _)
   rw[ku]
   show eo (en (cm cf.n s v).bb) (ln P t (cm cf.n s a).bb (cm cf.n s v).bb _ _ _)
   rw[ap]
   exact ahI ad av (fun s' Z' h1 hf h2=>hK (.tup []) s' Z' h1 hf h2) h
  ·rename_i w ids m j ap
   rw[p4] at h
   obtain⟨dst,op,ty,pos,after,guard⟩:=o
   cases ft
   show eo (en (bY (s.al cf.n).T v)) (ln P t (bY (s.al cf.n).T a) (bY (s.al cf.n).T v) _ _ _)
   rw[ku]
   show eo (en (cm cf.n s v).bb) (ln P t (cm cf.n s a).bb (cm cf.n s v).bb _ _ _)
   rw[ap]
   refine Dn ?_ (ahG ad av (fun s' Z' h1 hf h2=>hK (.tup []) s' Z' h1 hf h2) h)
   exact ahF h
  ·exact h.elim
 ·split at h
  ·exact Gx ad av hK h
  ·exact h.elim
 ·split at h
  ·rw[p4] at h;exact Gx ad av hK h
  ·exact h.elim
 ·rename_i t l c ft
  obtain⟨dst,op,ty,pos,after,guard⟩:=o
  cases ft
  show xf P t (bY (s.al cf.n).T l) (bY (s.al cf.n).T c) _ _ _
  rw[ku]
  split at h
  ·obtain⟨e,h⟩:=IM h
   exact adQ ad av hK h
  ·exact adI ad av hK h
 ·rename_i t m ps ft
  obtain⟨e,h⟩:=IM h
  obtain⟨xs,h⟩:=IL (n:=cf.n) av h
  refine afc ft ?_
  rw[ku]
  exact sr (F:=fun H Q=>jp P o _ _ H Q) (s.al cf.n).H (Kp:=fun r=>Kp r (s.al cf.n).L (s.al cf.n).H) Az h
 ·rename_i op t x y ty2 ft
  split at h
  ·rename_i e xs c8 fr hx
   split at h
   ·obtain⟨h1,h2,ay⟩:=h
    obtain⟨dst,op,ty,pos,after,guard⟩:=o
    cases ft
    show si P .eql t (bY (s.al cf.n).T x) _ (qk y) _
    rw[ku]
    show si P .eql t (cm cf.n s x).bb _ (qk y) _
    rw[hx]
    show if qk y=true∧(ix P t).isSome=true then _ else _
    rw[if_pos (by simpa using h1)]
    refine⟨fun bN=> ?_,fun he b=> ?_⟩
    ·exact Az (.b .f) (h2 fun e=>bN (by rw[e];rfl))
    ·exact Az (.b (.v b)) (ay (by simpa using he) b)
   ·exact h.elim
  ·refine Sf (rd h) (fun c=>by rw[ft];intro e;cases e) (fun t m ps=>by rw[ft];intro e;cases e)
 ·rename_i c ft
  obtain⟨callee,args,argTypes⟩:=c
  split at h
  ·rename_i b hb
   cases hb
   split at h
   ·split at h
    ·rename_i x t h1 h2
     simp only at h1 h2
     split at h
     ·rename_i e xs c8 fr hx
      split at h
      ·split at h
       ·exact Jr ft (rd h)
       ·obtain⟨ax,h⟩:=h
        obtain⟨dst,op,ty,pos,after,guard⟩:=o
        cases ft
        show(match args.toList,argTypes.toList with
         | [x],[t]=>eo (js P t (bY (s.al cf.n).T x)) (rF (bY (s.al cf.n).T x) fun r=>Kp r _ _)
         | _,_=>False)
        simp only[h1,h2]
        rw[ku]
        show eo (js P t (cm cf.n s x).bb) (rF (cm cf.n s x).bb _)
        rw[hx,ax]
        show(List.map _ _).length≤_→Kp (.int .i64 ((List.map _ _).length:Nat)) _ _
        rw[List.length_map]
        exact fun ao=>Az _ (h ao)
      ·exact h.elim
     ·exact Jr ft (rd h)
    ·exact h.elim
   ·split at h
    ·rename_i x y t t2 h1 h2
     simp only at h1 h2
     obtain⟨dst,op,ty,pos,after,guard⟩:=o
     cases ft
     show(match args.toList,argTypes.toList with
      | [s',x],[t,t2]=>en (bY (s.al cf.n).T s')=true∧en (bY (s.al cf.n).T x)=true∧tF P t t2 (bY (s.al cf.n).T s') (bY (s.al cf.n).T x) _ _ _
      | _,_=>False)
     simp only[h1,h2]
     rw[ku]
     exact Vs ad av hK h
    ·exact h.elim
   ·exact h.elim
  ·rename_i f hf
   cases hf
   split at h
   ·rename_i g caps hc
    rcases MY h with⟨m,e,hm⟩ | hm
    ·subst e
     obtain⟨dst,op,ty,pos,after,guard⟩:=o
     cases ft
     show k7 (bY (s.al cf.n).T f) fun g caps=>kK P g (args.toList.map (bY (s.al cf.n).T)++caps) _ _ Kp
     rw[ku]
     show k7 (cm cf.n s f).bb fun g caps=>kK P g (args.toList.map (fun x=>(cm cf.n s x).bb)++caps) _ _ Kp
     rw[hc]
     have:=Wr (n:=cf.n) ad av (fun v s' Z' h1 h2 ay=>hK v s' Z' h1 h2 ay) hm
     rw[nm,List.map_append,List.map_map] at this
     show kK P m.f (_++cu caps) _ _ Kp
     rw[nm];exact this
    ·rcases MZ hm with⟨m,e,ab⟩ | hm
     ·subst e
      obtain⟨dst,op,ty,pos,after,guard⟩:=o
      cases ft
      show k7 (bY (s.al cf.n).T f) fun g caps=>kK P g (args.toList.map (bY (s.al cf.n).T)++caps) _ _ Kp
      rw[ku]
      show k7 (cm cf.n s f).bb fun g caps=>kK P g (args.toList.map (fun x=>(cm cf.n s x).bb)++caps) _ _ Kp
      rw[hc]
      have:=Ww (n:=cf.n) (Kp:=Kp) ad av (fun v s' Z' h1 h2 ay=>hK v s' Z' h1 h2 ay) ab
      rw[nm,List.map_append,List.map_map] at this
      show kK P m.f (_++cu caps) _ _ Kp
      rw[nm];exact this
     ·exact Jr ft (rd hm)
   ·exact h.elim
  ·exact h.elim
 ·rename_i h1 h2 ay bg cW e1 l9
  exact Sf (rd h) (fun c=>l9 c) (fun t m ps=>cW t m ps)
end
def uN (b:Bool):TV:= .b (match b with
 | true=> .t
 | false=> .f)
theorem QR (b:Bool):(uN b).bb= .bool b:=by cases b<;>rfl
def Ee (x:dD) (s:TS) (K:Bool→TS→aw):aw:=match x with
 | .t=>K true s
 | .f=>K false s
 | x=> .im x s (K true ⟨[],s.T++s.B,s.vs,s.aT⟩) (K false ⟨[],s.T++s.B,s.vs,s.aT⟩)
def Em (d:Nat) (v:TV):TV:=match v with
 | .b x=>(match x with
  | .v p=> .b (.at d p)
  | x=> .b x)
 | v=>v
theorem ahP (d:Nat) (v:TV):(Em d v).bb=v.bb:=by
 unfold Em
 split
 ·split<;>rfl
 ·rfl
def jU (n:Nat) (s:TS) (d:Option Nat) (v:TV):TS:=match d with
 | none=>s
 | some d=>match Nat.blt d n with
  | true=>s.put d (Em d v)
  | false=>s
theorem ahA [FZ] {n:Nat} {s s':TS} (hv:s'.vs=s.vs) (hb:s'.aT=s.aT) (h: ∀k,s'.get k=s.get k):s'.al n=s.al n:=by
 have hc: ∀v c m,hg s' v c m=hg s v c m:=by
  intro v c m
  induction m generalizing c with
  | zero=>rfl
  | succ m bn=>rw[hg,hg,h _,bn]
 have an:=KU (n:=n) hb (fun b=>h _) (h de)
 have bZ:s'.tT n=s.tT n:=by unfold TS.tT;simp only[h]
 have bB:s'.b4=s.b4:=by unfold TS.b4;simp only[hv,hc]
 show(⟨s'.tT n,s'.b4,(s'.al n).H⟩:St)=_
 rw[bZ,bB,an];rfl
theorem T8 (s:TS) (k:Nat):TS.get ⟨[],s.T++s.B,s.vs,s.aT⟩ k=s.get k:=by unfold TS.get;simp only;rw[uO];rfl
theorem ahu [FZ] {n:Nat} (s:TS):TS.al n ⟨[],s.T++s.B,s.vs,s.aT⟩=s.al n:=ahA rfl rfl (T8 s)
theorem KS [FZ] {n:Nat} {x:dD} {s:TS} {K:Bool→TS→aw} {R:Exit→TS→Prop} (h:(Ee x s K).den R): ∃s',s'.al n=s.al n∧(∀k,s'.get k=s.get k)∧(K x.den s').den R:=by
 have key:(aw.im x s (K true ⟨[],s.T++s.B,s.vs,s.aT⟩) (K false ⟨[],s.T++s.B,s.vs,s.aT⟩)).den R→ ∃s',s'.al n=s.al n∧(∀k,s'.get k=s.get k)∧(K x.den s').den R:=fun h=>by
  refine⟨_,ahu s,T8 s,?_⟩
  ·cases hx:x.den with
   | true=>exact h.1 hx
   | false=>exact h.2 hx
 cases x with
 | t=>exact⟨s,rfl,fun _=>rfl,h⟩
 | f=>exact⟨s,rfl,fun _=>rfl,h⟩
 | _=>exact key h
theorem DB {s:TS} {d k:Nat} {v:TV} (h:d<1000000) (hk:1000000≤k):(s.put d v).get k=s.get k:=by rw[TS.Gu,if_neg (by omega)]
theorem Jg [FZ] {s:TS} {d:Nat} {v:TV} (h:d<1000000) (f:Fits s):Fits (s.put d v):=f.congr fun k h1 _=>DB h h1
theorem RT {s:TS} {d:Nat} {v:TV} (h:d<1000000):(s.put d v).b4=s.b4:=by
 have hc: ∀d_ c m,hg (s.put d v) d_ c m=hg s d_ c m:=by
  intro d_ c m
  induction m generalizing c with
  | zero=>rfl
  | succ m bn=>rw[hg,hg,DB h (by unfold ja;omega),bn]
 show s.vs.map _=s.vs.map _
 simp only[hc]
theorem RS [FZ] {n:Nat} {s:TS} {d:Nat} {v:TV} (h:d<1000000):((s.put d v).al n).H=(s.al n).H:=KU rfl (fun b=>DB h (by unfold br;omega)) (DB h (by unfold de;omega))
theorem Ao [FZ] {n:Nat} (ad:n≤1000000) (s:TS) (d:Option Nat) (v:TV):(jU n s d v).al n=⟨putA (s.al n).T d v.bb,(s.al n).L,(s.al n).H⟩:=by
 cases d with
 | none=>rfl
 | some d=>
  unfold jU
  simp only
  split
  ·rename_i aO
   have aO:d<n:=by rw[←Nat.blt_eq];exact aO
   rw[←ahP d v]
   generalize Em d v=v
   have bZ:(s.put d v).tT n=(s.tT n).set d v.bb:=by
    apply List.ext_getElem?
    intro t
    show((List.range n).map fun t=>((s.put d v).get t).bb)[t]?=(((List.range n).map fun t=>(s.get t).bb).set d v.bb)[t]?
    rw[List.getElem?_set]
    simp only[List.getElem?_map,List.length_map,List.length_range]
    rcases Nat.lt_or_ge t n with h | h
    ·rw[List.getElem?_range h]
     simp only[Option.map_some]
     rw[TS.Gu]
     by_cases e:d=t
     ·simp[e,h]
     ·simp[e]
    ·rw[List.getElem?_eq_none (l:=List.range n) (by simpa using h)]
     by_cases e:d=t
     ·omega
     ·simp[e]
   have bB:=RT (s:=s) (v:=v) (show d<1000000 by omega)
   have an:=RS (n:=n) (s:=s) (v:=v) (show d<1000000 by omega)
   show(⟨(s.put d v).tT n,(s.put d v).b4,((s.put d v).al n).H⟩:St)=_
   rw[bZ,bB,an];rfl
  ·rename_i aO
   have aO: ¬d<n:=fun h=>by rw[←Nat.blt_eq] at h;rw[h] at aO;cases aO
   show s.al n=⟨(s.al n).T.set d v.bb,_,_⟩
   rw[List.set_eq_of_length_le]
   show((List.range n).map _).length≤d
   simp;omega
theorem An [FZ] {n:Nat} (ad:n≤1000000) {s:TS} {d:Option Nat} {v:TV} (f:Fits s):Fits (jU n s d v):=by
 unfold jU
 split
 ·exact f
 ·split
  ·rename_i aO
   exact Jg (by rw[Nat.blt_eq] at aO;omega) f
  ·exact f
theorem RW [FZ] {n:Nat} {s:TS} {t:Nat} {v:TV} (a_:t<1000000) (h:(s.get t).bb=v.bb):(s.put t v).al n=s.al n:=by
 have bZ:(s.put t v).tT n=s.tT n:=by
  unfold TS.tT
  refine List.map_congr_left fun k _=> ?_
  rw[TS.Gu];split
  ·rename_i e;subst e;exact h.symm
  ·rfl
 have bB:=RT (s:=s) (v:=v) a_
 have an:=RS (n:=n) (s:=s) (v:=v) a_
 show(⟨(s.put t v).tT n,(s.put t v).b4,((s.put t v).al n).H⟩:St)=_
 rw[bZ,bB,an];rfl
section
variable {P:Program} (cf:gA P)
def Dv (c x y:Operand) (s:TS) (K:TV→TS→aw):aw:=match cm cf.n s c with
 | .b z=>Ee z s fun b s=>
  let s:=match c with
   | .tmp t=>s.put t (uN b)
   | _=>s
  o2 (cm cf.n s (bif b then x else y)) fun v=>K v s
 | _=> .no
def Cf (ops:Array Oper) (o:Oper) (s:TS) (run skip:TS→aw):aw:=match o.guard with
 | none=>run s
 | some g=>match(ops[g.1]?).bind (·.dst) with
  | none=> .no
  | some t=>match cm cf.n s (.tmp t) with
   | .b z=>Ee z s fun b s=>bif b==g.2 then run (s.put t (uN b)) else skip (s.put t (uN b))
   | .tup c=>match c with
    | []=>skip s
    | _=> .no
   | _=> .no
def stepT (dM:pP P) (o:Oper) (s:TS) (K:TV→TS→aw):aw:=match o.op with
 | .pick c x y=>Dv cf c x y s K
 | _=>Ex cf s dM o K
def DR (dM:pP P) (ops:Array Oper):List Oper→TS→(TS→aw)→aw
 | [],s,K=>K s
 | o::r,s,K=>Cf cf ops o s (fun s=>stepT cf dM o s fun v s=>DR dM ops r (jU cf.n s o.dst v) K) (fun s=>DR dM ops r (jU cf.n s o.dst (.tup [])) K)
def Gj (ops:Array Oper) (s:TS):List Nat→aw→aw
 | [],k=>k
 | i::r,k=> .eq ((opI ops i).guard.isNone&&(opI ops i).dst.isSome) true (.eq (fun(Z:FZ) H Q=>kL P (opI ops i) (fun x=>(cm cf.n s x).bb) s.b4 (@TS.fV Z s++H) Q) (fun _ _ Q=>Q (match(opI ops i).dst with
  | some d=>(cm cf.n s (.tmp d)).bb
  | none=> .undef)) (Gj ops s r k))
def tb (dM:pP P) (ops:Array Oper):List Item→TS→(TS→aw)→aw
 | [],s,K=>K s
 | x::r,s,K=>Cf cf ops (opI ops x.i) s
   (fun s=>match x.q with
    | true=>(match po (opI ops x.i) with
     | true=>(match(opI ops x.i).dst with
      | some d=> .eq (fun H Q=>kL P (opI ops x.i) (fun x=>(cm cf.n s x).bb) s.b4 H Q) (fun _ Q=>Q (.e4 d 0)) (tb dM ops r (jU cf.n s (opI ops x.i).dst (.lp d 0)) K)
      | none=> .no)
     | false=>(match(opI ops x.i).op with
      | .pick c a b=>Dv cf c a b s fun v s=>tb dM ops r (jU cf.n s (opI ops x.i).dst v) K
      | _=>rT cf s (opI ops x.i) fun v=>tb dM ops r (jU cf.n s (opI ops x.i).dst v) K))
    | false=>(match(opI ops x.i).op with
     | .pick _ _ _=> .no
     | _=>Ex cf s dM (opI ops x.i) fun v s=>Gj cf ops s x.iT (tb dM ops r (jU cf.n s (opI ops x.i).dst v) K)))
   (fun s=>tb dM ops r (jU cf.n s (opI ops x.i).dst (.tup [])) K)
def A8 (P:Program) (ops:Array Oper):List Item→List (Nat×List TV)
 | []=>[]
 | x::r=>match x.q with
  | true=>(match(opI ops x.i).op with
   | .alloc e=>(match(opI ops x.i).dst with
    | some d=>(d,A7 P e)::A8 P ops r
    | none=>A8 P ops r)
   | _=>A8 P ops r)
  | false=>A8 P ops r
def Lp:List (Nat×List TV)→List (Nat×TV)
 | []=>[]
 | (d,c)::r=>tL d 0 c++Lp r
def FL (dM:pP P) (ops:Array Oper) (ord:List Item) (jB:List (List Nat)) (s:TS) (K:TS→aw):aw:=
 let hX:=A8 P ops ord
 let s':=s.add (Lp hX) (hX.map (fun p=>(p.1,p.2.length))++s.vs) s.aT
 match oV (Lp hX) with
 | false=> .no
 | true=> .eq (P.follows .mixedOrders) true (.eq jB.length ops.size (.eq (wg ops ord (yP jB)) true (.eq (ord.all (·.lit)) true (.eq s'.b4 (hX.map (fun p=>(p.1,cu p.2))++s.b4)
  (.eq (tO (hX.map fun p=>(p.1,cu p.2)) s.b4) true (.eq (tE ops s.b4 ord) true (tb cf dM ops ord s' K)))))))
end
section
variable {P:Program} {cf:gA P} {R:Exit→TS→Prop}
theorem IR {n t:Nat} {s:TS} {v:TV} (h:cm n s (.tmp t)=v) (hv:v≠ .u):t<n∧s.get t=v:=by
 have h:(match Nat.blt t n with
  | true=>s.get t
  | false=>TV.u)=v:=h
 split at h
 ·rename_i hb;exact⟨by rw[←Nat.blt_eq];exact hb,h⟩
 ·exact absurd h.symm hv
end
section
variable {P:Program} {cf:gA P} {R:Exit→TS→Prop}
theorem afN {T:List AV} {t:Nat} {a:AV} (h:T.getD t .undef=a):T.set t a=T∨a= .undef:=by
 by_cases ao:t<T.length
 ·left
  rw[List.getD_eq_getElem?_getD,List.getElem?_eq_getElem ao] at h
  have h:T[t]=a:=h
  rw[←h];exact List.set_getElem_self ..
 ·right;rw[←h,List.getD_eq_getElem?_getD,List.getElem?_eq_none (by omega)];rfl
end
section
variable {P:Program} {cf:gA P} {R:Exit→TS→Prop}
theorem aeD {o:Oper} {T:List AV} {K:AV→Prop} {BW:Prop} (h: ∀c x y,o.op≠ .pick c x y):u3 true o T K BW=BW:=by
 unfold u3
 split
 ·rename_i c x y e;exact absurd e (h c x y)
 ·rfl
end
section
variable [Z:FZ] {P:Program} {cf:gA P} {R:Exit→TS→Prop}
theorem Nf (ad:cf.n≤1000000) {ops:Array Oper} {o:Oper} {s:TS} {run skip:TS→aw} {x y:List AV→Prop} (av:Fits s) (hx: ∀s',Fits s'→s'.al cf.n=s.al cf.n→(run s').den R→x (s.al cf.n).T) (aS: ∀s',Fits s'→s'.al cf.n=s.al cf.n→(skip s').den R→y (s.al cf.n).T)
  (h:(Cf cf ops o s run skip).den R):nw ops true o (s.al cf.n).T x y:=by
 unfold Cf at h
 unfold nw
 split at h
 ·rename_i aB;rw[aB];exact hx s av rfl h
 ·rename_i g aB
  obtain⟨j,cJ⟩:=g
  rw[aB]
  simp only at h ⊢
  split at h
  ·exact h.elim
  ·rename_i t a_
   rw[a_]
   simp only
   have bZ:(s.al cf.n).T.getD t .undef=(cm cf.n s (.tmp t)).bb:=by
    have:=congrFun (ku cf.n s) (.tmp t);exact this
   split at h
   ·rename_i z qe
    rw[qe] at bZ
    rw[bZ]
    show oW true z.den _ _
    obtain⟨ao,gC⟩:=IR qe (fun e=>by cases e)
    obtain⟨s',ax,e2,h⟩:=KS (n:=cf.n) h
    have nD:Fits (s'.put t (uN z.den)):=Jg (by omega) (av.congr fun k _ _=>e2 k)
    have rj:(s'.put t (uN z.den)).al cf.n=s.al cf.n:=by
     rw[RW (by omega) (by rw[e2,gC,QR];rfl),ax]
    have sD: ∀b,z.den=b→(s.al cf.n).T.set t (.bool b)=(s.al cf.n).T:=fun b hb=>by
     rcases afN (show(s.al cf.n).T.getD t .undef= .bool b by rw[bZ,←hb];rfl) with q | q
     ·exact q
     ·cases q
    cases pi:z.den with
    | true=>
     rw[pi] at h rj nD
     show if cJ=true then _ else _
     rw[sD true pi]
     cases cJ with
     | true=>rw[if_pos rfl];exact hx _ nD rj h
     | false=>rw[if_neg (by simp)];exact aS _ nD rj h
    | false=>
     rw[pi] at h rj nD
     show if cJ=true then _ else _
     rw[sD false pi]
     cases cJ with
     | true=>rw[if_pos rfl];exact aS _ nD rj h
     | false=>rw[if_neg (by simp)];exact hx _ nD rj h
   ·rename_i c qe
    rw[qe] at bZ
    split at h
    ·rw[bZ];exact aS s av rfl h
    ·exact h.elim
   ·exact h.elim
theorem RF (ad:cf.n≤1000000) {c x y:Operand} {s:TS} {K:TV→TS→aw} {Kp:AV→Prop} (av:Fits s) (hK: ∀v s',Fits s'→s'.al cf.n=s.al cf.n→(K v s').den R→Kp v.bb) (h:(Dv cf c x y s K).den R):
  n_ (bY (s.al cf.n).T c) fun z=>oW true z (Kp (bY (s.al cf.n).T x)) (Kp (bY (s.al cf.n).T y)):=by
 unfold Dv at h
 split at h
 ·rename_i z qe
  obtain⟨s',ax,e2,h⟩:=KS (n:=cf.n) h
  simp only at h
  rw[p4] at h
  generalize sC:(match c with
   | .tmp t=>s'.put t (uN z.den)
   | _=>s')=s2 at h
  have dl:s2.al cf.n=s.al cf.n:=by
   rw[←sC,←ax]
   split
   ·rename_i t
    obtain⟨ao,gC⟩:=IR qe (fun e=>by cases e)
    exact RW (by omega) (by rw[e2,gC,QR];rfl)
   ·rfl
  have hf2:Fits s2:=by
   rw[←sC]
   split
   ·rename_i t
    obtain⟨ao,gC⟩:=IR qe (fun e=>by cases e)
    exact Jg (by omega) (av.congr fun k _ _=>e2 k)
   ·exact av.congr fun k _ _=>e2 k
  have:=hK _ _ hf2 dl h
  have ar: ∀o,(cm cf.n s2 o).bb=bY (s.al cf.n).T o:=fun o=>by rw[←dl,ku]
  rw[ar] at this
  have hc:bY (s.al cf.n).T c= .bool z.den:=by
   have:=congrFun (ku cf.n s) c
   rw[this]
   show(cm cf.n s c).bb=_
   rw[qe];rfl
  rw[hc]
  show oW true z.den _ _
  cases pi:z.den with
  | true=>rw[pi] at this;exact this
  | false=>rw[pi] at this;exact this
 ·exact h.elim
theorem ahE (ad:cf.n≤1000000) {dM:pP P} {o:Oper} {s:TS} {K:TV→TS→aw} {Kp:AV→List (Nat×List AV)→List Blk→Prop} (av:Fits s) (hK:vP cf s R K Kp) (h:(stepT cf dM o s K).den R):
  u3 true o (s.al cf.n).T (fun v=>Kp v (s.al cf.n).L (s.al cf.n).H) (jE P [] o (bY (s.al cf.n).T) (s.al cf.n).L (s.al cf.n).H Kp):=by
 unfold stepT at h
 split at h
 ·rename_i c x y ft
  unfold u3
  rw[ft]
  exact RF ad (Kp:=fun v=>Kp v (s.al cf.n).L (s.al cf.n).H) av (fun v s' hf e hv=>by
   have eT:s'.tT cf.n=s.tT cf.n:=congrArg St.T e
   have fM:s'.b4=s.b4:=congrArg St.L e
   have:=hK v s' Z hv hf eT
   rw[fM,e] at this;exact this) h
 ·rename_i bN
  rw[aeD fun c x y=>bN c x y]
  exact UD ad av hK h
end
section
variable {P:Program} {cf:gA P} {R:Exit→TS→Prop}
theorem Jy (ad:cf.n≤1000000) {dM:pP P} {ops:Array Oper} {K:TS→aw} {Kp:List AV→List (Nat×List AV)→List Blk→Prop} (hK: ∀s (Z:FZ),(K s).den R→ @Fits Z s→Kp (s.tT cf.n) s.b4 (@TS.al Z cf.n s).H): ∀(l:List Oper) (Z:FZ) (s:TS),@Fits Z s→(DR cf dM ops l s K).den R→
  evOps P [] ops (l.map fun o=>(o,true)) (s.tT cf.n) s.b4 (@TS.al Z cf.n s).H Kp
 | [],Z,s,av,h=>hK s Z h av
 | o::r,Z,s,av,h=>by
  refine Nf (Z:=Z) ad av (fun s' hf e h=> ?_) (fun s' hf e h=> ?_) h
  ·have fM:s'.b4=s.b4:=congrArg St.L e
   rw[←e,←fM]
   exact ahE (Z:=Z) ad (Kp:=fun v L' H'=>evOps P [] ops (r.map fun o=>(o,true)) (putA (s'.tT cf.n) o.dst v) L' H' Kp) hf (fun v s2 Z2 hv hf2 e2=>by
    have:=Jy ad hK r Z2 _ (@An Z2 _ ad _ _ _ hf2) hv
    have dl:= @Ao Z2 cf.n ad s2 o.dst v
    have eT:(jU cf.n s2 o.dst v).tT cf.n=putA (s2.tT cf.n) o.dst v.bb:=congrArg St.T dl
    have FT:(jU cf.n s2 o.dst v).b4=s2.b4:=congrArg St.L dl
    rw[eT,FT,dl] at this
    rw[←e2];exact this) h
  ·have:=Jy ad hK r Z _ (An ad hf) h
   have dl:= @Ao Z cf.n ad s' o.dst (.tup [])
   have eT:(jU cf.n s' o.dst (.tup [])).tT cf.n=putA (s'.tT cf.n) o.dst (.tup []):=congrArg St.T dl
   have FT:(jU cf.n s' o.dst (.tup [])).b4=s'.b4:=congrArg St.L dl
   rw[eT,FT,dl] at this
   have hL:s'.tT cf.n=s.tT cf.n:=congrArg St.T e
   have hM:s'.b4=s.b4:=congrArg St.L e
   rw[hL,hM,e] at this
   exact this
end
section
variable [Z:FZ] {P:Program} {cf:gA P} {R:Exit→TS→Prop}
theorem M2 {ops:Array Oper} {s:TS} {k:aw}: ∀{iT:List Nat},(Gj cf ops s iT k).den R→qV P ops iT (s.al cf.n).T (s.al cf.n).L (s.al cf.n).H∧k.den R
 | [],h=>⟨trivial,h⟩
 | i::r,h=>by
  obtain⟨h1,h2,ay⟩:=h
  simp only[Bool.and_eq_true] at h1
  obtain⟨q1,q2⟩:=M2 ay
  refine⟨⟨⟨h1.1,h1.2,?_⟩,q1⟩,q2⟩
  rw[ku]
  have:=congrFun (congrFun (congrFun h2 Z) (gM s)) (fun v=>v=sm (opI ops i) (s.al cf.n).T)
  have this:kL P (opI ops i) (fun x=>(cm cf.n s x).bb) (s.al cf.n).L (s.al cf.n).H (fun v=>v=sm (opI ops i) (s.al cf.n).T)=_:=this
  rw[this]
  unfold sm
  cases(opI ops i).dst with
  | none=>rfl
  | some d=>
   have:=congrFun (ku cf.n s) (.tmp d)
   exact this.symm
end
section
variable {P:Program} {cf:gA P} {R:Exit→TS→Prop}
theorem aeK (Z:FZ) (ad:cf.n≤1000000) (s:TS) (d:Option Nat) (v:TV):(jU cf.n s d v).tT cf.n=putA (s.tT cf.n) d v.bb∧(jU cf.n s d v).b4=s.b4∧(@TS.al Z cf.n (jU cf.n s d v)).H=(@TS.al Z cf.n s).H:=by
 have dl:= @Ao Z cf.n ad s d v
 exact⟨congrArg St.T dl,congrArg St.L dl,by rw[dl]⟩
theorem Sn (ad:cf.n≤1000000) {dM:pP P} {ops:Array Oper} {K:TS→aw} {Kp:List AV→List (Nat×List AV)→List Blk→Prop} (hK: ∀s (Z:FZ),(K s).den R→ @Fits Z s→Kp (s.tT cf.n) s.b4 (@TS.al Z cf.n s).H): ∀(l:List Item) (Z:FZ) (s:TS),@Fits Z s→l.all (·.lit)=true→(tb cf dM ops l s K).den R→
  jF P [] ops l (s.tT cf.n) s.b4 (@TS.al Z cf.n s).H Kp
 | [],Z,s,av,_,h=>hK s Z h av
 | x::r,Z,s,av,ao,h=>by
  simp only[List.all_cons,Bool.and_eq_true] at ao
  show nw ops x.lit (opI ops x.i) _ _ _
  rw[ao.1]
  have next: ∀(s' s2:TS) (Z2:FZ) (v:TV),@Fits Z2 s2→s2.tT cf.n=s'.tT cf.n→(tb cf dM ops r (jU cf.n s2 (opI ops x.i).dst v) K).den R→jF P [] ops r (putA (s'.tT cf.n) (opI ops x.i).dst v.bb) s2.b4 (@TS.al Z2 cf.n s2).H Kp:=fun s' s2 Z2 v hf e hv=>by
   have:=Sn ad hK r Z2 _ (@An Z2 _ ad _ _ _ hf) ao.2 hv
   obtain⟨q1,q2,q3⟩:=aeK (cf:=cf) Z2 ad s2 (opI ops x.i).dst v
   rw[q1,q2,q3] at this
   rw[←e];exact this
  refine Nf (Z:=Z) ad av (fun s' hf e h=> ?_) (fun s' hf e h=> ?_) h
  ·have fM:s'.b4=s.b4:=congrArg St.L e
   rw[←e,←fM]
   cases U:x.q with
   | true=>
    rw[U] at h
    show kL P (opI ops x.i) (bY (s'.al cf.n).T) (s'.al cf.n).L (s'.al cf.n).H _
    cases ap:po (opI ops x.i) with
    | true=>
     rw[ap] at h
     simp only at h
     split at h
     ·rename_i d aO
      obtain⟨h1,h2⟩:=h
      rw[ku]
      have:=congrFun (congrFun h1 (s'.al cf.n).H) (fun v=>jF P [] ops r (putA (s'.al cf.n).T (opI ops x.i).dst v) (s'.al cf.n).L (s'.al cf.n).H Kp)
      have this:kL P (opI ops x.i) (fun x=>(cm cf.n s' x).bb) (s'.al cf.n).L (s'.al cf.n).H (fun v=>jF P [] ops r (putA (s'.al cf.n).T (opI ops x.i).dst v) (s'.al cf.n).L (s'.al cf.n).H Kp)=_:=this
      refine Eq.mpr this ?_
      exact next s' s' Z (.lp d 0) hf rfl h2
     ·exact h.elim
    | false=>
     rw[ap] at h
     rw[wl ap]
     simp only at h
     split at h
     ·rename_i c a b ft
      have:=RF (Z:=Z) ad (Kp:=fun v=>jF P [] ops r (putA (s'.al cf.n).T (opI ops x.i).dst v) (s'.al cf.n).L (s'.al cf.n).H Kp) hf (fun v s2 hf2 e2 hv=>by
       have:=next s' s2 Z v hf2 (congrArg St.T e2) hv
       have dl:s2.b4=s'.b4:=congrArg St.L e2
       rw[dl,e2] at this;exact this) h
      unfold jp
      rw[ft];exact this
     ·exact Se hf (Kp:=fun v=>jF P [] ops r (putA (s'.al cf.n).T (opI ops x.i).dst v) (s'.al cf.n).L (s'.al cf.n).H Kp) (fun v hv=>next s' s' Z v hf rfl hv) h
   | false=>
    rw[U] at h
    simp only at h
    split at h
    ·exact h.elim
    ·exact UD (Z:=Z) ad hf (Kp:=fun v L' H'=>qV P ops x.iT (s'.tT cf.n) L' H'∧jF P [] ops r (putA (s'.tT cf.n) (opI ops x.i).dst v) L' H' Kp) (fun v s2 Z2 hv hf2 e2=>by
      obtain⟨q1,q2⟩:=M2 (Z:=Z2) hv
      have q1:qV P ops x.iT (s2.tT cf.n) s2.b4 (@TS.al Z2 cf.n s2).H:=q1
      rw[e2] at q1
      exact⟨q1,next s' s2 Z2 v hf2 e2 q2⟩) h
  ·have:=next s' s' Z (.tup []) hf rfl h
   have hL:s'.tT cf.n=s.tT cf.n:=congrArg St.T e
   have hM:s'.b4=s.b4:=congrArg St.L e
   rw[hL,hM,e] at this
   exact this
end
theorem FM {cz:List Nat}: ∀(L:List (Nat×List AV)) (t:Nat),cz.contains t=true→dT (ns cz L) t=none
 | [],t,h=>rfl
 | (k,c)::L,t,h=>by
  unfold ns
  split
  ·exact FM L t h
  ·rename_i hk
   have:t≠k:=fun e=>by subst e;rw[h] at hk;cases hk
   simp only[dT,if_neg this];exact FM L t h
def Gm:Bool→Bool→Bool
 | _,false=>true
 | a,true=>a
theorem M7 {a b:Bool} (h:Gm a b=true):b=true→a=true:=fun e=>by subst e;exact h
def kI (a b:AV):Prop:=b=a∨b= .undef∨ ∃rows full fr mR,a= .aJ rows full fr∧b= .aJ rows false mR∧(mR=true→fr=true)
theorem kI.Sw {w:World} {PA PF:Nat→Prop} {rows:List (List AV)} {full fr mR:Bool} {v:Value} (ab: ∀c,PF c→PA c) (hf:mR=true→fr=true) (h:aL w PA PF (.aJ rows full fr) v):aL w PA PF (.aJ rows false mR) v:=by
 cases h with
 | aJ eR eZ fB b3 dL hrel=>
  refine .aJ (fun c hc=> ?_) eZ (fun h=>by cases h) b3 dL hrel
  have:=eR c hc
  cases mR with
  | true=>rw[hf rfl] at this;exact this
  | false=>
   cases fr with
   | true=>exact ab c this
   | false=>exact this
theorem kI.v1 {E:Env} {a b:AV} {v:Value} (ab: ∀c,E.PF c→E.PA c) (h:kI a b) (hv:bQ E a v):bQ E b v:=by
 rcases h with rfl | rfl | ⟨rows,full,fr,mR,rfl,rfl,hf⟩
 ·exact hv
 ·exact bQ.undef _ _
 ·exact kI.Sw ab hf hv
theorem kI.v3 {E:Env} {a b:AV} {v:Value} (ab: ∀c,E.PF c→E.PA c) (h:kI a b) (hv:V3 E a v):V3 E b v:=by
 rcases h with rfl | rfl | ⟨rows,full,fr,mR,rfl,rfl,hf⟩
 ·exact hv
 ·exact V3.undef _ _
 ·exact kI.Sw ab hf hv
theorem kI.of {a b:AV} (h:b=a∨b= .undef):kI a b:=h.imp_right .inl
theorem Weak.ago [cl] {T T':List AV} {L:List (Nat×List AV)} {H:List Blk} (ao:T'.length=T.length) (h: ∀t,kI (T.getD t .undef) (T'.getD t .undef)):Weak ⟨T,L,H⟩ ⟨T',L,H⟩:=fun b7 E tmps g s=>
 ⟨E,rfl,g,s.h,s.l,fun t=>(h t).v3 s.h.dm (s.hT t),by show T'.length=_;rw[ao];exact s.size⟩
theorem Weak.cells [cl] {T:List AV} {L L':List (Nat×List AV)} {H:List Blk} (bB: ∀t cells,dT L t=some cells→ ∃gu,dT L' t=some gu∧gu.length=cells.length∧ ∀(i:Nat) (a:AV),gu[i]?=some a→ ∃b,cells[i]?=some b∧kI b a):Weak ⟨T,L,H⟩ ⟨T,L',H⟩:=fun b7 E tmps g s=>
 ⟨E,rfl,g,s.h,fun t c hm=>by
  obtain⟨cells,aj,ty,q1,q2,q3⟩:=s.l t c hm
  obtain⟨gu,cN,c5,fs⟩:=bB t cells q1
  refine⟨gu,aj,ty,cN,q2,by rw[c5];exact q3.1,fun i a v ap hv=> ?_⟩
  obtain⟨b,hb,q⟩:=fs i a ap
  exact q.v1 s.h.dm (q3.2 i b v hb hv),s.hT,s.size⟩
theorem aia [cl] {T T':List AV} {L L':List (Nat×List AV)} {H:List Blk} (ao:T'.length=T.length) (bZ: ∀t,kI (T.getD t .undef) (T'.getD t .undef)) (cz:List Nat) (ab:T'.all (ou cz)=true)
  (bB: ∀t cells,cz.contains t=false→dT L t=some cells→ ∃gu,dT L' t=some gu∧gu.length=cells.length∧ ∀(i:Nat) (a:AV),gu[i]?=some a→ ∃b,cells[i]?=some b∧kI b a):Weak ⟨T,L,H⟩ ⟨T',L',H⟩:=by
 refine(Weak.ago ao bZ).trans ((Weak.ns cz ab).trans (Weak.cells fun t cells h=> ?_))
 cases a_:cz.contains t with
 | true=>rw[FM L t a_] at h;cases h
 | false=>rw[BR L t a_] at h;exact bB t cells a_ h
theorem QS (l:List (Nat×TV)) (k:Nat) (d:TV):(∃v,(k,v)∈l∧gF l k d=v)∨gF l k d=d:=by
 induction l with
 | nil=>exact .inr rfl
 | cons p r bn=>
  obtain⟨a,w⟩:=p
  rw[gN]
  by_cases e:a=k
  ·subst e;exact .inl ⟨w,List.mem_cons_self ..,if_pos rfl⟩
  ·rw[if_neg e]
   rcases bn with⟨v,h1,h2⟩ | h
   ·exact .inl ⟨v,List.mem_cons_of_mem _ h1,h2⟩
   ·exact .inr h
theorem Fl (s:TS) (v:Nat): ∀(c m:Nat),(hg s v c m).length=m
 | _,0=>rfl
 | c,m+1=>by rw[hg,List.length_cons,Fl s v (c+1) m]
theorem BI (s:TS) (v:Nat): ∀(m c i:Nat),(cu (hg s v c m))[i]?=if i<m then some (s.get (ja v (c+i))).bb else none
 | 0,c,i=>by simp[hg,cu]
 | m+1,c,i=>by
  rw[hg,cu]
  cases i with
  | zero=>simp
  | succ i=>
   rw[List.getElem?_cons_succ,BI s v m (c+1) i,show c+1+i=c+(i+1) by omega]
   by_cases h:i<m
   ·rw[if_pos h,if_pos (by omega)]
   ·rw[if_neg h,if_neg (by omega)]
theorem Ei [FZ] (n:Nat) (s:TS):s.al n=⟨(s.al n).T,(s.al n).L,(s.al n).H⟩:=rfl
theorem UB [cl] [FZ] {n:Nat} {s S:TS} (dK:iE S=iE s) (bZ: ∀t,t<n→kI (s.get t).bb (S.get t).bb) (cz:List Nat) (ab:(S.al n).T.all (ou cz)=true)
  (hv: ∀v m,cz.contains v=false→kf s.vs v=some m→kf S.vs v=some m∧ ∀c,kI (s.get (ja v c)).bb (S.get (ja v c)).bb)
  (hb:S.aT=s.aT) (cX: ∀b,b<s.aT→(S.get (br b)).eJ=(s.get (br b)).eJ):Weak (s.al n) (S.al n):=by
 have an:(S.al n).H=(s.al n).H:=by
  show S.fV++gM S=s.fV++gM s
  have e2:gM S=gM s:=by unfold gM;rw[dK]
  rw[e2]
  congr 1
  apply List.ext_getElem?
  intro b
  rw[pJ,pJ,hb]
  by_cases h:b<s.aT
  ·rw[if_pos h,if_pos h,cX b h]
  ·rw[if_neg h,if_neg h]
 rw[Ei n s,Ei n S,an]
 refine aia (by show((List.range n).map _).length=((List.range n).map _).length;simp) (fun t=> ?_) cz ab fun t cells a_ h=> ?_
 ·rw[AT,AT]
  by_cases h:t<n
  ·rw[if_pos h,if_pos h];exact bZ t h
  ·rw[if_neg h,if_neg h];exact .inl rfl
 ·rw[vr] at h
  cases hm:kf s.vs t with
  | none=>rw[hm] at h;cases h
  | some m=>
   rw[hm] at h
   cases h
   obtain⟨q1,q2⟩:=hv t m a_ hm
   refine⟨cu (hg S t 0 m),by rw[vr,q1];rfl,?_,fun i a ap=> ?_⟩
   ·show(cu _).length=(cu _).length
    rw[nm,nm,List.length_map,List.length_map,Fl,Fl]
   ·rw[BI] at ap ⊢
    by_cases hi:i<m
    ·rw[if_pos hi] at ap ⊢
     cases ap
     exact⟨_,rfl,q2 (0+i)⟩
    ·rw[if_neg hi] at ap;cases ap
theorem adz (l:List AV):l.all (ou [])=true:=by
 have au: ∀a,uP [] a=true:=fun a=>by cases a<;>rfl
 have h1: ∀a,sQ [] a=true:=fun a=>by
  unfold sQ
  split
  ·exact List.all_eq_true.2 fun x _=>au x
  ·exact au _
 have h2: ∀a,sR [] a=true:=fun a=>by
  unfold sR
  split
  ·exact List.all_eq_true.2 fun x _=>h1 x
  ·exact h1 _
 have ay: ∀a,ou [] a=true:=fun a=>by
  unfold ou
  split
  ·exact List.all_eq_true.2 fun x _=>h2 x
  ·exact h2 _
 exact List.all_eq_true.2 fun x _=>ay x
theorem Fits.le [FZ] {s S:TS} (h:s.gh S) (f:Fits s):Fits S:=f.congr fun k h1 h2=>(h.get k).resolve_right fun q=>by
 rcases q with q | q
 ·have:=q.1;omega
 ·have:=q.1;omega
theorem aib [cl] [FZ] {n:Nat} (ad:n≤1000000) {s S:TS} (h:s.gh S):Weak (s.al n) (S.al n):=by
 have LY: ∀k,¬k<1000000→S.get k=s.get k∨(1000010≤k∧LC (s.get k) (S.get k)):=fun k hk=>(h.get k).imp_right fun q=>q.resolve_left fun q=>hk q.1
 have zj: ∀k,¬k<1000000→(S.get k).bb=(s.get k).bb∧(S.get k).eJ=(s.get k).eJ:=fun k hk=>by
  rcases LY k hk with e | ⟨_,g,c,b8,ax,e2,dl⟩
  ·rw[e];exact⟨rfl,rfl⟩
  ·rw[ax,e2]
   refine⟨rfl,?_⟩
   show Blk.mk g b8.length [cu b8]=Blk.mk g c.length [cu c]
   have ao:b8.length=c.length:=by have:=congrArg List.length dl;rwa [nm,nm,List.length_map,List.length_map] at this
   rw[dl,ao]
 have av:S.get de=s.get de:=(LY de (by unfold de;omega)).resolve_right fun q=>by have:=q.1;unfold de at this;omega
 refine UB (Di av) (fun t a_=> ?_) [] (adz _) (fun v m _ hm=>⟨by rw[h.vs];exact hm,fun c=> .inl (zj _ (by unfold ja;omega)).1⟩) h.aT fun b _=>(zj _ (by unfold br;omega)).2
 rcases h.get t with e | ⟨_,e⟩ | ⟨e,_⟩
 ·exact .inl (by rw[e])
 ·exact .of e
 ·omega
inductive kH:Type 1 where
 | nil
 | v7 (a b:kH)
 | lp (k4:List (Nat×Nat×aH)) (cM:List Nat) (jP:List (Nat×Nat)) (j1:List aH) (rd:List Nat) (iw:ct j1→List (Nat×TV)) (I:ct j1→Prop) (m:ct j1→Nat) (b:ct j1→kH)
def kH.fst:kH→kH
 | .v7 a _=>a
 | a=>a
def kH.snd:kH→kH
 | .v7 _ b=>b
 | a=>a
def EW:(j1:List aH)→(ct j1→aw)→aw
 | [],F=>F ()
 | e::r,F=> .all e.T fun x=>EW r fun y=>F (x,y)
theorem LK {R:Exit→TS→Prop}: ∀{j1:List aH} {F:ct j1→aw},(EW j1 F).den R→ ∀v,(F v).den R
 | [],F,h,()=>h
 | e::r,F,h,(x,y)=>LK (h x) y
def Jp:(e:aH)→TV→(e.T→aw)→aw
 | .int,v,K=>(match v with
  | .i _ m=>K m
  | _=> .no)
 | .u64,v,K=>(match v with
  | .i _ m=>K m
  | _=> .no)
 | .bool,v,K=>(match v with
  | .b x=>K x.den
  | _=> .no)
 | .str,v,K=>(match v with
  | .s x=>K x
  | _=> .no)
 | .nat,v,K=>(match v with
  | .blk g _ _ _ _=>K g
  | _=> .no)
 | .gv,v,K=>(match v with
  | .dv _ c=>K (aH.mk .gv (o4 aH.gv.bR c))
  | _=> .no)
 | .l e,v,K=>(match v with
  | .l bT xs _ _=>if h:bT=e then K (k8 h xs) else .no
  | .blk _ bT xs _ _=>if h:bT=e then K (k8 h xs) else .no
  | .nil _ _=>K []
  | _=> .no)
 | _,_,_=> .no
def DL (s:TS):(j1:List aH)→List Nat→(ct j1→aw)→aw
 | [],_,K=>K ()
 | e::r,k::C2,K=>Jp e (s.get k) fun x=>DL s r C2 fun y=>K (x,y)
 | _,_,_=> .no
theorem afb {R:Exit→TS→Prop} {e:aH} {v:TV} {K:e.T→aw} (h:(Jp e v K).den R): ∃x,(K x).den R:=by
 cases e with
 | int=>
  have h:(match v with
   | .i _ m=>K m
   | _=>aw.no).den R:=h
  split at h
  ·exact⟨_,h⟩
  ·exact h.elim
 | u64=>
  have h:(match v with
   | .i _ m=>K m
   | _=>aw.no).den R:=h
  split at h
  ·exact⟨_,h⟩
  ·exact h.elim
 | bool=>
  have h:(match v with
   | .b x=>K x.den
   | _=>aw.no).den R:=h
  split at h
  ·exact⟨_,h⟩
  ·exact h.elim
 | str=>
  have h:(match v with
   | .s x=>K x
   | _=>aw.no).den R:=h
  split at h
  ·exact⟨_,h⟩
  ·exact h.elim
 | nat=>
  have h:(match v with
   | .blk g _ _ _ _=>K g
   | _=>aw.no).den R:=h
  split at h
  ·exact⟨_,h⟩
  ·exact h.elim
 | gv=>
  have h:(match v with
   | .dv _ c=>K (aH.mk .gv (o4 aH.gv.bR c))
   | _=>aw.no).den R:=h
  split at h
  ·exact⟨_,h⟩
  ·exact h.elim
 | l e=>
  have h:(match v with
   | .l bT xs _ _=>if h:bT=e then K (k8 h xs) else aw.no
   | .blk _ bT xs _ _=>if h:bT=e then K (k8 h xs) else aw.no
   | .nil _ _=>K []
   | _=>aw.no).den R:=h
  split at h
  ·split at h
   ·exact⟨_,h⟩
   ·exact h.elim
  ·split at h
   ·exact⟨_,h⟩
   ·exact h.elim
  ·exact⟨_,h⟩
  ·exact h.elim
 | _=>exact h.elim
theorem Jq {R:Exit→TS→Prop} {s:TS}: ∀{j1:List aH} {C2:List Nat} {K:ct j1→aw},(DL s j1 C2 K).den R→ ∃v,(K v).den R
 | [],_,K,h=>⟨(),h⟩
 | e::r,k::C2,K,h=>by
  obtain⟨x,h⟩:=afb (show(Jp e (s.get k) _).den R from h)
  obtain⟨y,h⟩:=Jq h
  exact⟨(x,y),h⟩
 | e::r,[],K,h=>h.elim
def Ft (s:TS) (k:Nat) (w:TV) (t:aw):aw:=match w with
 | .ref b g m f=>(match s.get k with
  | .ref bH c0 e0 B5=>(match s.get (br b) with
   | .blk _ _ xs Q5 _=> .eq bH b (.eq B5 f (.eq c0 g (.eq e0 Q5 (.eq m xs.length t))))
   | _=> .no)
  | _=> .no)
 | .blk g e xs _ _=>(match s.get k with
  | .blk c0 bT vA _ _=>if h:bT=e then .eq c0 g (.eq (k8 h vA) xs t) else .no
  | _=> .no)
 | .b y=>(match s.get k with
  | .b x=> .eq x.den y.den t
  | _=> .no)
 | .dv g c=>(match s.get k with
  | .dv c0 b8=> .eq c0 g (.eq (cu b8) (cu c) (.eq b8.length c.length t))
  | _=> .no)
 | .l e xs c8 fr=>(match c8 with
  | true=> .eq (s.get k) (.l e xs true fr) t
  | false=>match s.get k with
   | .l bT vA _ mR=>if h:bT=e then .eq (Gm mR fr) true (.eq (k8 h vA) xs t) else .no
   | .nil _ mR=> .eq (Gm mR fr) true (.eq [] xs t)
   | _=> .no)
 | w=> .eq (s.get k) w t
def CZ:TV→Bool
 | .blk _ _ _ _ _=>true
 | .dv _ _=>true
 | .jX _ _ _=>true
 | _=>false
def Is:TV→Bool
 | .gw _ _ _ _=>true
 | .new _ _=>true
 | _=>false
theorem Ws [FZ] {R:Exit→TS→Prop} {s:TS} {k:Nat} {w:TV} {t:aw} (h:(Ft s k w t).den R):(kI (s.get k).bb w.bb∧(CZ w=true→w.eJ=(s.get k).eJ)∧(Is w=true→s.get k=w))∧t.den R:=by
 unfold Ft at h
 split at h
 ·split at h
  ·rename_i bH c0 e0 B5 hk
   split at h
   ·rename_i g0 ci xs Q5 ao hb
    obtain⟨h1,h2,ay,bg,cW,e1⟩:=h
    subst h1;subst h2;subst ay;subst bg;subst cW
    refine⟨⟨.inl ?_,(fun q=>by cases q),fun q=>by cases q⟩,e1⟩
    rw[hk,ao]
   ·exact h.elim
  ·exact h.elim
 ·split at h
  ·rename_i c0 bT vA e0 Cw hk
   split at h
   ·rename_i he
    subst he
    obtain⟨h1,h2,ay⟩:=h
    subst h1
    have h2:vA=_:=h2
    subst h2
    refine⟨⟨.inl ?_,fun _=> ?_,fun q=>by cases q⟩,ay⟩<;>rw[hk]<;>rfl
   ·exact h.elim
  ·exact h.elim
 ·split at h
  ·rename_i y _ x hk
   obtain⟨h1,h2⟩:=h
   refine⟨⟨.inl ?_,(fun q=>by cases q),fun q=>by cases q⟩,h2⟩
   rw[hk];show AV.bool y.den= .bool x.den;rw[h1]
  ·exact h.elim
 ·split at h
  ·rename_i c0 b8 hk
   obtain⟨h1,h2,ay,bg⟩:=h
   refine⟨⟨.inl (by rw[hk];rfl),fun _=> ?_,fun q=>by cases q⟩,bg⟩
   rw[hk]
   show(⟨_,_,_⟩:Blk)=⟨_,_,_⟩
   rw[h1,h2,ay]
  ·exact h.elim
 ·split at h
  ·obtain⟨h1,h2⟩:=h
   exact⟨⟨.inl (by rw[h1]),(fun _=>by rw[h1]),fun _=>h1⟩,h2⟩
  ·split at h
   ·rename_i bT vA X5 mR hk
    split at h
    ·rename_i he
     subst he
     obtain⟨h1,h2,ay⟩:=h
     have h2:vA=_:=h2
     subst h2
     exact⟨⟨.inr (.inr ⟨_,_,_,_,by rw[hk];rfl,rfl,M7 h1⟩),(fun q=>by cases q),fun q=>by cases q⟩,ay⟩
    ·exact h.elim
   ·rename_i X5 mR hk
    obtain⟨h1,h2,ay⟩:=h
    subst h2
    exact⟨⟨.inr (.inr ⟨[],_,_,_,by rw[hk];rfl,rfl,M7 h1⟩),(fun q=>by cases q),fun q=>by cases q⟩,ay⟩
   ·exact h.elim
 ·obtain⟨h1,h2⟩:=h
  exact⟨⟨.inl (by rw[h1]),(fun _=>by rw[h1]),fun _=>h1⟩,h2⟩
def Fu (s:TS):List (Nat×TV)→aw→aw
 | [],t=>t
 | (k,w)::r,t=>Ft s k w (Fu s r t)
theorem Mk [FZ] {R:Exit→TS→Prop} {s:TS} {t:aw}: ∀{l:List (Nat×TV)},(Fu s l t).den R→(∀k w,(k,w)∈l→kI (s.get k).bb w.bb∧(CZ w=true→w.eJ=(s.get k).eJ)∧(Is w=true→s.get k=w))∧t.den R
 | [],h=>⟨(fun k w h=>by cases h),h⟩
 | (k,w)::r,h=>by
  obtain⟨h1,h2⟩:=Ws h
  obtain⟨ay,bg⟩:=Mk h2
  refine⟨fun i_ w' hm=> ?_,bg⟩
  rcases List.mem_cons.1 hm with e | hm
  ·cases e;exact h1
  ·exact ay i_ w' hm
def Ek (vs:List (Nat×Nat)):List (Nat×Nat)→Bool
 | []=>true
 | (v,m)::r=>(match kf vs v with
  | some e0=>Nat.beq m e0
  | none=>false)&&Ek vs r
def Br (s:TS):Nat→Bool
 | 0=>true
 | b+1=>CZ (s.get (br b))&&Br s b
def wh (jP:List (Nat×Nat)):List (Nat×Nat)→List Nat
 | []=>[]
 | (v,_)::r=>match(kf jP v).isSome with
  | true=>wh jP r
  | false=>v::wh jP r
def GV (s S:TS) (t:aw):aw:=
 .eq (Ek s.vs S.vs) true (.eq (Nat.beq S.aT s.aT) true (.eq (Br S s.aT) true (.eq (S.T.all fun p=>ou (wh S.vs s.vs) p.2.bb) true (.eq (iE S) (iE s) (Fu s S.T t)))))
theorem IP: ∀{l:List (Nat×Nat)} {v m:Nat},kf l v=some m→(v,m)∈l
 | [],_,_,h=>by cases h
 | (k,e0)::r,v,m,h=>by
  unfold kf at h
  split at h
  ·rename_i hk;cases h;rw[Nat.eq_of_beq_eq_true hk];exact List.mem_cons_self ..
  ·exact List.mem_cons_of_mem _ (IP h)
theorem FN {jP:List (Nat×Nat)}: ∀{l:List (Nat×Nat)} {v m:Nat},(wh jP l).contains v=false→(v,m)∈l→(kf jP v).isSome=true
 | [],_,_,_,h=>by cases h
 | (k,e0)::r,v,m,aO,h=>by
  unfold wh at aO
  split at aO
  ·rename_i hk
   rcases List.mem_cons.1 h with e | h
   ·cases e;exact hk
   ·exact FN aO h
  ·rename_i hk
   simp only[List.contains_cons,Bool.or_eq_false_iff] at aO
   rcases List.mem_cons.1 h with e | h
   ·cases e;simp at aO
   ·exact FN aO.2 h
theorem Ue {vs:List (Nat×Nat)}: ∀{l:List (Nat×Nat)},Ek vs l=true→ ∀v m,(v,m)∈l→kf vs v=some m
 | [],_,_,_,h=>by cases h
 | (k,e0)::r,hs,v,m,h=>by
  simp only[Ek,Bool.and_eq_true] at hs
  rcases List.mem_cons.1 h with e | h
  ·cases e
   have h1:=hs.1
   split at h1
   ·rename_i bq hm;rw[hm,Nat.eq_of_beq_eq_true h1]
   ·cases h1
  ·exact Ue hs.2 v m h
theorem LJ {s:TS}: ∀{n:Nat},Br s n=true→ ∀b,b<n→CZ (s.get (br b))=true
 | 0,_,b,h=>by omega
 | n+1,hs,b,h=>by
  simp only[Br,Bool.and_eq_true] at hs
  rcases Nat.lt_or_ge b n with q | q
  ·exact LJ hs.2 b q
  ·have:b=n:=by omega
   subst this;exact hs.1
theorem NJ [cl] [FZ] {n:Nat} {s S:TS} {t:aw} {R:Exit→TS→Prop} (cX:S.B=[]) (av:Fits s) (h:(GV s S t).den R):Weak (s.al n) (S.al n)∧Fits S∧t.den R:=by
 obtain⟨h1,h2,ay,bg,dK,cW⟩:=h
 obtain⟨e1,l9⟩:=Mk cW
 have wN:=Nat.eq_of_beq_eq_true h2
 have gC: ∀k,(∃v,(k,v)∈S.T∧S.get k=v)∨S.get k= .u:=fun k=>by
  unfold TS.get;rw[cX];exact QS ..
 have NF: ∀k,kI (s.get k).bb (S.get k).bb:=fun k=>by
  rcases gC k with⟨v,hm,e⟩ | e
  ·rw[e];exact(e1 k v hm).1
  ·rw[e];exact .inr (.inl rfl)
 have wU: ∀k,Is (S.get k)=true→s.get k=S.get k:=fun k hk=>by
  rcases gC k with⟨v,hm,e⟩ | e
  ·rw[e] at hk ⊢;exact(e1 k v hm).2.2 hk
  ·rw[e] at hk;cases hk
 have YB:Fits S:=fun V ids jb h' lA=>by
  have e:=wU de (by rw[lA];rfl)
  obtain⟨q1,q2,q3⟩:=av V ids jb h' (by rw[e,lA])
  exact⟨q1,q2,fun id xs iV=>q3 id xs (by rw[wU fC (by rw[iV];rfl),iV])⟩
 refine⟨UB dK (fun t _=>NF t) (wh S.vs s.vs) ?_ (fun v m aO hm=> ?_) wN (fun b hb=> ?_),YB,l9⟩
 ·rw[List.all_eq_true]
  intro a ap
  obtain⟨k,_,rfl⟩:=List.mem_map.1 (show a∈(List.range n).map fun t=>(S.get t).bb from ap)
  rcases gC k with⟨v,hm,e⟩ | e
  ·rw[e];exact List.all_eq_true.1 bg (k,v) hm
  ·rw[e];rfl
 ·have hs:=FN aO (IP hm)
  cases U:kf S.vs v with
  | none=>rw[U] at hs;cases hs
  | some e0=>
   have:=Ue h1 v e0 (IP U)
   rw[hm] at this
   cases this
   exact⟨rfl,fun c=>NF _⟩
 ·have hi:=LJ ay b hb
  rcases gC (br b) with⟨v,hm,e⟩ | e
  ·rw[e] at hi ⊢;exact(e1 _ v hm).2.1 hi
  ·rw[e] at hi;cases hi
def B3 (s:TS):Nat→Nat→List (Nat×TV)
 | _,0=>[]
 | b,k+1=>(br b,s.get (br b))::B3 s (b+1) k
def lY (s S:TS):TS:=⟨S.T++B3 s S.aT (s.aT - S.aT),[],S.vs,s.aT⟩
def Sa (n:Nat):TV→Bool
 | .dv _ c=>(cu c).all (pE n)
 | .jX _ _ _=>false
 | _=>true
def Mr (ju:Option Nat) (S:TS) (m:Nat):Bool:=match ju with
 | some k=>Nat.ble k S.aT&&Nat.ble S.aT m&&iE S&&S.T.all fun p=>xE S.aT p.2.bb&&Sa S.aT p.2
 | none=>false
def toHead (ju:Option Nat) (s S:TS) (t:aw):aw:=match Nat.beq S.aT s.aT with
 | true=>GV s S t
 | false=>GV s (lY s S) (.eq (lY s S).b4 S.b4 (.eq (Mr ju S s.aT) true t))
theorem MQ (s:TS): ∀(k b:Nat) (j:Nat),(j<br b)→ ∀v,(j,v) ∉ B3 s b k
 | 0,b,j,h,v,hm=>by cases hm
 | k+1,b,j,h,v,hm=>by
  rcases List.mem_cons.1 hm with e | hm
  ·cases e;exact absurd h (Nat.lt_irrefl _)
  ·exact MQ s k (b+1) j (by unfold br at h ⊢;omega) v hm
theorem aid {s S:TS} (cX:S.B=[]) {j:Nat} (h:j<br S.aT):(lY s S).get j=S.get j:=by
 show gF (S.T++B3 s S.aT (s.aT - S.aT)) j (gF [] j .u)=gF S.T j (gF S.B j .u)
 rw[uO,cX,sP (MQ s _ _ j h)]
theorem W1 {n:Nat} (fr:Bool) (e:aH) (x:e.T):(ca fr e x).all (pE n)=true:=by cases e<;>rfl
theorem afo {n:Nat} {a:AV} (h:xE n a=true):pE n a=true:=by cases a<;>first | exact h | rfl
theorem toHead_sound [ie:cl] [FZ] {n:Nat} (ad:n≤1000000) {ju:Option Nat} (fN: ∀k,ju=some k→ie.n≤k) {s S:TS} {t:aw} {R:Exit→TS→Prop} (cX:S.B=[]) (av:Fits s) (h:(toHead ju s S t).den R):Weak (s.al n) (S.al n)∧Fits S∧t.den R:=by
 unfold toHead at h
 split at h
 ·exact NJ cX av h
 ·obtain⟨w,hf,fM,h1,h2⟩:=NJ (n:=n) (S:=lY s S) rfl av h
  unfold Mr at h1
  split at h1
  ·rename_i k
   simp only[Bool.and_eq_true] at h1
   obtain⟨⟨⟨q1,q2⟩,q3⟩,q4⟩:=h1
   have q1:=Nat.le_of_ble_eq_true q1
   have q2:=Nat.le_of_ble_eq_true q2
   have aB: ∀j,j<br S.aT→(lY s S).get j=S.get j:=fun j h=>aid cX h
   have Cu: ∀b,b<S.aT→br b<br S.aT:=fun b h=>by unfold br;omega
   have Z7:de<br S.aT:=by unfold de br;omega
   have Zo:iE (lY s S)=true:=by rw[Di (aB de Z7)];exact q3
   have eT:(lY s S).tT n=S.tT n:=List.map_congr_left fun t a_=>by rw[aB t (by have:=List.mem_range.1 a_;unfold br;omega)]
   have gC: ∀k,(∃v,(k,v)∈S.T∧S.get k=v)∨S.get k= .u:=fun k=>by
    unfold TS.get;rw[cX];exact QS ..
   have Hc: ∀k,xE S.aT (S.get k).bb=true∧Sa S.aT (S.get k)=true:=fun k=>by
    rcases gC k with⟨v,hm,e⟩ | e
    ·have:=List.all_eq_true.1 q4 _ hm
     rw[Bool.and_eq_true] at this
     rw[e];exact this
    ·rw[e];exact⟨rfl,rfl⟩
   have an: ∀b,((lY s S).al n).H[b]?=if b<s.aT then some ((lY s S).get (br b)).eJ else none:=fun b=>by
    show((lY s S).fV++gM (lY s S))[b]?=_
    have:gM (lY s S)=[]:=by unfold gM;rw[Zo]
    rw[this,List.append_nil,pJ];rfl
   have Mu:=Weak.cut (T:=S.tT n) (L:=S.b4) (H:=((lY s S).al n).H) S.aT (Nat.le_trans (fN k rfl) q1) (fun t=> ?_) (fun t cells hc=> ?_) (fun b blk hb zj row ai=> ?_)
   ·have ax:(lY s S).al n=⟨S.tT n,S.b4,((lY s S).al n).H⟩:=by rw[←eT,←fM];rfl
    have e2:(⟨S.tT n,S.b4,((lY s S).al n).H.take S.aT⟩:St)=S.al n:=by
     show _=(⟨S.tT n,S.b4,S.fV++gM S⟩:St)
     have:gM S=[]:=by unfold gM;rw[q3]
     rw[this,List.append_nil]
     congr 1
     apply List.ext_getElem?
     intro b
     rw[List.getElem?_take,an,pJ]
     by_cases hb:b<S.aT
     ·rw[if_pos hb,if_pos (by omega),if_pos hb,aB _ (Cu b hb)]
     ·rw[if_neg hb,if_neg hb]
    rw[ax] at w
    rw[e2] at Mu
    exact⟨w.trans Mu,hf.congr fun k h1 h2=>(aB k (by unfold br;omega)).symm,h2⟩
   ·have:=AT (n:=n) (s:=S) t
    have this:(S.tT n).getD t .undef=_:=this
    rw[this]
    split
    ·exact(Hc t).1
    ·rfl
   ·have:=vr (n:=n) (s:=S) t
    have this:dT S.b4 t=_:=this
    rw[this] at hc
    cases hm:kf S.vs t with
    | none=>rw[hm] at hc;cases hc
    | some m=>
     rw[hm] at hc
     cases hc
     rw[List.all_eq_true]
     intro a ap
     obtain⟨i,hi⟩:=List.mem_iff_getElem?.1 ap
     rw[BI] at hi
     split at hi
     ·cases hi;exact afo (Hc _).1
     ·cases hi
   ·rw[an,if_pos (by omega),aB _ (Cu b hb)] at zj
    cases zj
    have U:=(Hc (br b)).2
    revert ai U
    cases S.get (br b) with
    | blk g e xs m h=>
     intro ai _
     obtain⟨x,_,rfl⟩:=List.mem_map.1 (show row∈xs.map (ca true e) from ai)
     exact W1 true e x
    | dv g c=>
     intro ai U
     rw[List.mem_singleton.1 (show row∈[cu c] from ai)];exact U
    | jX g m ids=>intro _ U;cases U
    | _=>intro ai _;cases ai
  ·cases h1
def vQ (n:Nat):List (Nat×Nat×aH)→TS→(TS→aw)→aw
 | [],s,K=>K s
 | p::r,s,K=>
  let s1:=s.gr s.aT (s.aT+1) (.blk 0 p.2.2 [] 0 rfl)
  match p.1 with
  | 0=> .eq (rC (cm n s (.tmp p.2.1)).bb) true (.eq s1.b4 s.b4 (.eq (iE s) true (vQ n r (jU n s1 (some p.2.1) (.ref s.aT 0 0 false)) K)))
  | v+1=>
   let s2:=s1.add [(ja v p.2.1,.ref s.aT 0 0 false)] s1.vs s1.aT
   match kf s.vs v with
   | some m=> .eq (rC ((cu (hg s v 0 m)).getD p.2.1 .undef)) true (.eq s2.b4 (kA s.b4 v ((cu (hg s v 0 m)).set p.2.1 (.ref s.aT 0 0 0 false))) (.eq (oV [(ja v p.2.1,.ref s.aT 0 0 false)]) true (.eq (iE s) true (vQ n r s2 K))))
   | none=> .no
theorem Bq [cl] [FZ] {n:Nat} (ad:n≤1000000) {R:Exit→TS→Prop} {K:TS→aw}: ∀{l:List (Nat×Nat×aH)} {s:TS},Fits s→(vQ n l s K).den R→ ∃s',Weak (s.al n) (s'.al n)∧Fits s'∧(K s').den R
 | [],s,av,h=>⟨s,.refl _,av,h⟩
 | (p,q,e)::r,s,av,h=>by
  unfold vQ at h
  simp only at h
  split at h
  ·obtain⟨h1,h2,dK,h⟩:=h
   obtain⟨s',w,hf,h⟩:=Bq ad (An ad (pV av)) h
   refine⟨s',Weak.trans ?_ w,hf,h⟩
   have bZ:(cm n s (.tmp q)).bb=(s.al n).T.getD q .undef:=(congrFun (ku n s) (.tmp q)).symm
   rw[bZ] at h1
   have:=Weak.Vl q e.jQ (L:=(s.al n).L) (H:=(s.al n).H) h1
   rw[Ao ad]
   show Weak _ ⟨putA ((s.gr s.aT (s.aT+1) _).tT n) _ _,(s.gr s.aT (s.aT+1) _).b4,((s.gr s.aT (s.aT+1) _).al n).H⟩
   rw[pU ad,h2,BB dK]
   rw[Ej dK] at this
   exact this
  ·rename_i v
   split at h
   ·rename_i m hm
    obtain⟨h1,h2,cX,dK,h⟩:=h
    obtain⟨s',w,hf,h⟩:=Bq ad (yO cX (pV av)) h
    refine⟨s',Weak.trans ?_ w,hf,h⟩
    have:=Weak.EV v q e.jQ (T:=(s.al n).T) (H:=(s.al n).H) (show dT (s.al n).L v=some (cu (hg s v 0 m)) by rw[vr,hm];rfl) h1
    rw[Ej dK] at this
    show Weak _ ⟨(TS.add _ _ _ _).tT n,(TS.add _ _ _ _).b4,((TS.add _ _ _ _).al n).H⟩
    rw[h2,yN ad cX,pU ad]
    have dl:=yM (n:=n) (s:=s.gr s.aT (s.aT+1) (.blk 0 e [] 0 rfl)) (vs:=(s.gr s.aT (s.aT+1) (.blk 0 e [] 0 rfl)).vs) cX
    rw[dl,BB dK]
    exact this
   ·exact h.elim
theorem W0 {e:aH} (h:e.oy=true) (x:e.T): ∀a∈ca true e x,iP a=true∧nv a=true:=by
 have key:(ca true e x).all (fun a=>iP a&&nv a)=true:=by cases e<;>first | rfl | cases h
 intro a ap
 have:=List.all_eq_true.1 key a ap
 rwa [Bool.and_eq_true] at this
theorem ahW (e:aH) (x:e.T):(ca true e x).map h9=ca false e x:=by
 rw[←mN,←mN]
 have key: ∀(es:List aH) (y:ct es),(ii true es y).map h9=ii false es y:=by
  intro es
  induction es with
  | nil=>intro y;rfl
  | cons e r bn=>
   intro y
   show h9 (iS true e y.1)::(ii true r y.2).map h9=_
   rw[bn,ii]
   congr 1
   cases e<;>rfl
 exact key _ _
def y8 (ju:Option Nat) (n:Nat):List (Nat×Nat)→TS→(TS→aw)→aw
 | [],s,K=>K s
 | p::r,s,K=>match s.get (match p.1 with
   | 0=>p.2
   | v+1=>ja v p.2) with
  | .ref b g m _=>(match ju with
   | some k=>(match Nat.ble k b with
    | true=>qO s b g fun e xs e0 h=>
     let s1:=s.gr b s.aT (.blk (g+1) e [] 0 rfl)
     match p.1 with
     | 0=> .eq (Nat.blt p.2 n) true (.eq e0 m (.eq e.oy true (.eq s1.b4 s.b4 (.p (xs.length≤4611686018427387904) (y8 ju n r (jU n s1 (some p.2) (.l e xs false true)) K)))))
     | v+1=>
      let s2:=s1.add [(ja v p.2,.l e xs false true)] s1.vs s1.aT
      match kf s.vs v with
      | some gW=> .eq (Nat.blt p.2 gW&&oV [(ja v p.2,TV.l e xs false true)]) true (.eq e0 m (.eq e.oy true (.eq s2.b4 (kA s.b4 v ((cu (hg s v 0 gW)).set p.2 (TV.l e xs false true).bb)) (.p (xs.length≤4611686018427387904) (y8 ju n r s2 K)))))
      | none=> .no
    | false=> .no)
   | none=> .no)
  | _=> .no
theorem Gq [ie:cl] [FZ] {n:Nat} (ad:n≤1000000) {ju:Option Nat} (fN: ∀k,ju=some k→ie.n≤k) {R:Exit→TS→Prop} {K:TS→aw}: ∀{l:List (Nat×Nat)} {s:TS},Fits s→(y8 ju n l s K).den R→ ∃s',Weak (s.al n) (s'.al n)∧Fits s'∧(K s').den R
 | [],s,av,h=>⟨s,.refl _,av,h⟩
 | (p,q)::r,s,av,h=>by
  unfold y8 at h
  simp only at h
  split at h
  ·rename_i b g m c8 oh
   split at h
   ·rename_i k
    split at h
    ·rename_i Cu
     have Nz:=Nat.le_trans (fN k rfl) (Nat.le_of_ble_eq_true Cu)
     obtain⟨e,xs,e0,hm,h,hb,an⟩:=vW (n:=n) h
     have fS: ∀row∈xs.map (ca true e),e.oy=true→ ∀a∈row,iP a=true∧nv a=true:=fun row ai ar a ap=>by
      obtain⟨x,_,rfl⟩:=List.mem_map.1 ai
      exact W0 ar x a ap
     have qd:(xs.map (ca true e)).map (fun row=>row.map h9)=xs.map (ca false e):=by
      rw[List.map_map];exact List.map_congr_left fun x _=>ahW e x
     cases p with
     | zero=>
      obtain⟨au,h1,h2,ay,bg,h⟩:=h
      replace oh:s.get q= .ref b g m c8:=oh
      obtain⟨s',w,hf,h⟩:=Gq ad fN (An ad (pV av)) h
      refine⟨s',Weak.trans ?_ w,hf,h⟩
      have U:q<n:=by rw[Nat.blt_eq] at au;exact au
      have bZ:(s.al n).T.getD q .undef= .ref b g 0 m c8:=by
       rw[AT,if_pos U,oh];rfl
      have:=Weak.X4 q (L:=(s.al n).L) bZ (by rw[List.length_map,←h1];exact hm.symm) an Nz (fun row ai a ap=>fS row ai h2 a ap) (by rw[List.length_map];exact bg)
      rw[qd] at this
      rw[Ao ad]
      show Weak _ ⟨putA ((s.gr b s.aT _).tT n) _ _,(s.gr b s.aT _).b4,((s.gr b s.aT _).al n).H⟩
      rw[pU ad,ay,vV hb]
      exact this
     | succ v=>
      replace oh:s.get (ja v q)= .ref b g m c8:=oh
      simp only at h
      split at h
      ·rename_i gW rb
       obtain⟨au,h1,h2,ay,bg,h⟩:=h
       rw[Bool.and_eq_true,Nat.blt_eq] at au
       obtain⟨s',w,hf,h⟩:=Gq ad fN (yO au.2 (pV av)) h
       refine⟨s',Weak.trans ?_ w,hf,h⟩
       have hc:dT (s.al n).L v=some (cu (hg s v 0 gW)):=by rw[vr,rb];rfl
       have bZ:(cu (hg s v 0 gW)).getD q .undef= .ref b g 0 m c8:=by
        rw[List.getD_eq_getElem?_getD,BI,if_pos au.1,Nat.zero_add,oh];rfl
       have:=Weak.X3 v q (T:=(s.al n).T) hc bZ (by rw[List.length_map,←h1];exact hm.symm) an Nz (fun row ai a ap=>fS row ai h2 a ap) (by rw[List.length_map];exact bg)
       rw[qd] at this
       show Weak _ ⟨(TS.add _ _ _ _).tT n,(TS.add _ _ _ _).b4,((TS.add _ _ _ _).al n).H⟩
       have dl:=yM (n:=n) (s:=s.gr b s.aT (.blk (g+1) e [] 0 rfl)) (vs:=(s.gr b s.aT (.blk (g+1) e [] 0 rfl)).vs) au.2
       rw[ay,yN ad au.2,pU ad,dl,vV hb]
       exact this
      ·exact h.elim
    ·exact h.elim
   ·exact h.elim
  ·exact h.elim
def Pt (k:Nat):List (Nat×TV)→Bool
 | []=>false
 | p::r=>match Nat.beq p.1 k with
  | true=>true
  | false=>Pt k r
def Ix (s:TS) (iw:List (Nat×TV)):List Nat→List (Nat×TV)
 | []=>[]
 | k::r=>match Pt k iw with
  | true=>Ix s iw r
  | false=>(k,s.get k)::Ix s iw r
def Uw (v:Nat):Nat→Nat→List Nat
 | _,0=>[]
 | c,m+1=>ja v c::Uw v (c+1) m
def PC:List (Nat×Nat)→List Nat
 | []=>[]
 | p::r=>Uw p.1 0 p.2++PC r
def L5:Nat→List Nat
 | 0=>[]
 | b+1=>br b::L5 b
def dZ (cM:List Nat) (jP:List (Nat×Nat)) (k:Nat) (I:Int→Prop) (m:Int→Nat) (b:Int→kH):kH:= .lp [] cM jP [.int] [k] (fun v=>[(k,.i .i64 v.1)]) (fun v=>I v.1) (fun v=>m v.1) fun v=>b v.1
def aw.B4:aw→Bool
 | .ke ex _=>(match ex with
  | .normal=>false
  | _=>true)
 | .ha | .no | .all _ _=>false
 | .p _ t | .jr _ t | .eq _ _ t=>t.B4
 | .im _ _ x y | .two x y | .gV x _ _ y=>(match x.B4 with
  | true=>true
  | false=>y.B4)
def tV:Code→Bool
 | .loop _=>true
 | .seq x y=>tV x || tV y
 | .cond _ x y=>tV x || tV y
 | .block _ x=>tV x
 | .scope x=>tV x
 | _=>false
def F2 (jd:List (List (Nat×TV)×List (Nat×TV))) (t:aw):aw:=match jd with
 | []=>t
 | p::r=> .eq p.1 p.2 (F2 r t)
theorem MF {R:Exit→TS→Prop} {t:aw}: ∀{jd:List (List (Nat×TV)×List (Nat×TV))},(F2 jd t).den R→(∀p∈jd,p.1=p.2)∧t.den R
 | [],h=>⟨(fun p h=>by cases h),h⟩
 | p::r,h=>by
  obtain⟨h1,h2⟩:=h
  obtain⟨ay,bg⟩:=MF h2
  exact⟨fun q U=>by
   rcases List.mem_cons.1 U with rfl | U
   ·exact h1
   ·exact ay q U,bg⟩
structure vJ (P:Program) where
 len:List Nat
 WM:List (Nat×List Item×List (List Nat))
 oJ:List (sa P)
 Er:List (pN P)
 RZ:List (Nat×List (Nat×Nat)×List (Nat×Nat×aH))
def C7:List (Nat×List Item×List (List Nat))→Nat→(List Item→List (List Nat)→aw)→aw
 | [],_,_=> .no
 | p::r,id,K=>match Nat.beq p.1 id with
  | true=>K p.2.1 p.2.2
  | false=>C7 r id K
def IN:List (Nat×List (Nat×Nat)×List (Nat×Nat×aH))→Nat→List (Nat×Nat)×List (Nat×Nat×aH)
 | [],_=>([],[])
 | p::r,id=>match Nat.beq p.1 id with
  | true=>p.2
  | false=>IN r id
section
variable {P:Program} (cf:gA P) (dM:vJ P) (ju:Option Nat)
def zk (s:TS) (cM:List Nat) (jP:List (Nat×Nat)) (iw:List (Nat×TV)):TS:=⟨iw++Ix s iw (cM++(PC jP++(de::L5 s.aT))),[],jP,s.aT⟩
def jA:Code→TS→kH→(Exit→TS→kH→aw)→aw
 | .skip,s,a,K=>K .normal s a
 | .ret,s,a,K=>K .ret s a
 | .exit id,s,a,K=>K (.exit id) s a
 | .region id ops draw,s,a,K=>y8 ju cf.n (IN dM.RZ id).1 s fun s=>vQ cf.n (IN dM.RZ id).2 s fun s=>(match draw with
  | false=>DR cf ⟨dM.len,dM.oJ,dM.Er⟩ ops ops.toList s fun s=>K .normal s a
  | true=>C7 dM.WM id fun ord jB=>FL cf ⟨dM.len,dM.oJ,dM.Er⟩ ops ord jB s fun s=>K .normal s a)
 | .seq x y,s,a,K=>(match tV x with
  | true=>jA x s a fun ex s a=>match ex with
   | .normal=>jA y s a K
   | ex=>K ex s a
  | false=>match(jA x s a fun ex s _=> .ke ex s).mi with
   | .some S jd=>F2 jd (.gV ((jA x s a fun ex s _=> .ke ex s).bind fun ex s=>match ex with
    | .normal=> .ha
    | ex=>K ex s a.fst) (jA x s a fun ex s _=> .ke ex s).facts (jA x s a fun ex s _=> .ke ex s).kM (jA y S (match(jA x s a fun ex s _=> .ke ex s).B4 with
    | true=>a.snd
    | false=>a) K))
   | _=>jA x s a fun ex s a=>match ex with
    | .normal=>jA y s a K
    | ex=>K ex s a)
 | .cond c x y,s,a,K=>(match cm cf.n s c with
  | .b z=>Ee z s fun b s=>match b with
   | true=>jA x s a.fst K
   | false=>jA y s a.snd K
  | _=> .no)
 | .block id c,s,a,K=>jA c s a fun ex s a=>match ex with
  | .exit fk=>(match Nat.beq fk id with
   | true=>K .normal s a
   | false=>K (.exit fk) s a)
  | ex=>K ex s a
 | .loop c,s,a,K=>(match a with
  | .lp k4 cM jP j1 rd iw I m b=>vQ cf.n k4 s fun s=>DL s j1 rd fun v0=>toHead ju s (zk s cM jP (iw v0)) (.p (I v0) (EW j1 fun v=> .jr (I v) (jA c (zk s cM jP (iw v)) (b v) fun ex s' a=>match ex with
   | .normal=>DL s' j1 rd fun d_=>toHead ju s' (zk s cM jP (iw d_)) (.p (I d_∧m d_<m v) .ha)
   | ex=>K ex s' a)))
  | _=> .no)
 | _,_,_,_=> .no
end
section
variable {P:Program} {cf:gA P} {dM:vJ P}
theorem ads {R:Exit→TS→Prop} {l:List (Nat×List Item×List (List Nat))} {id:Nat} {K:List Item→List (List Nat)→aw} (h:(C7 l id K).den R): ∃o A,(K o A).den R:=by
 induction l with
 | nil=>exact h.elim
 | cons p r bn=>
  unfold C7 at h
  split at h
  ·exact⟨_,_,h⟩
  ·exact bn h
theorem WN [cl] (ad:cf.n≤1000000) {dM:pP P} {R:Exit→TS→Prop} {ops:Array Oper} {ord:List Item} {jB:List (List Nat)} {s:TS} {K:TS→aw} {Q:Exit→St→Prop} {id:Nat} (hK: ∀s (Z:FZ),(K s).den R→ @Fits Z s→Q .normal (@TS.al Z cf.n s)) (Z:FZ) (av:Fits s) (h:(FL cf dM ops ord jB s K).den R):WpS P (.region id ops true) Q (s.al cf.n):=by
 unfold FL at h
 simp only at h
 split at h
 ·exact h.elim
 ·rename_i hb
  obtain⟨h1,h2,ay,bg,cW,l9,qZ,h⟩:=h
  rw[Ei]
  refine WpS.Sj (esc:=[]) ord jB h1 h2 ay rfl _ l9 qZ ?_
  have:=Sn ad (Kp:=fun T L H=>Q .normal ⟨T,L,H⟩) (fun s Z hs hf=>hK s Z hs hf) ord Z _ (yO hb av) bg h
  rw[cW,yM hb,yN ad hb] at this
  exact this
theorem UC [ie:cl] (ad:cf.n≤1000000) {ju:Option Nat} (fN: ∀k,ju=some k→ie.n≤k): ∀(c:Code) {R:Exit→TS→Prop} {s:TS} {a:kH} {K:Exit→TS→kH→aw} {Q:Exit→St→Prop},(∀ex s a (Z:FZ),(K ex s a).den R→ @Fits Z s→Q ex (@TS.al Z cf.n s))→ ∀Z:FZ,@Fits Z s→(jA cf dM ju c s a K).den R→WpS P c Q (@TS.al Z cf.n s):=by
 intro c
 induction c with
 | skip=>intro R s a K Q hK Z av h;exact WpS.skip (hK _ _ _ Z h av)
 | ret=>intro R s a K Q hK Z av h;exact WpS.ret (hK _ _ _ Z h av)
 | exit id=>intro R s a K Q hK Z av h;exact WpS.exit (hK _ _ _ Z h av)
 | region id ops draw=>
  intro R s a K Q hK Z av h
  obtain⟨s1,bi,qf,h⟩:=Gq ad fN av h
  obtain⟨s2,bA,sF,h⟩:=Bq ad qf h
  refine WpS.r9 ?_ (bi.trans bA)
  cases draw with
  | false=>
   rw[Ei]
   refine WpS.Sk (esc:=[]) rfl ?_
   exact Jy ad (Kp:=fun T L H=>Q .normal ⟨T,L,H⟩) (fun s Z hs hf=>hK _ s _ Z hs hf) ops.toList Z s2 sF h
  | true=>
   obtain⟨ord,jB,h⟩:=ads h
   exact WN ad (fun s Z hs hf=>hK _ s _ Z hs hf) Z sF h
 | cond c x y hj gU=>
  intro R s a K Q hK Z av h
  unfold jA at h
  split at h
  ·rename_i z qe
   obtain⟨s',ax,e2,h⟩:=KS (n:=cf.n) h
   have hf:=av.congr fun k _ _=>e2 k
   rw[←ax]
   have hc:bY (s'.al cf.n).T c= .bool z.den:=by
    rw[ax,congrFun (ku cf.n s) c]
    show(cm cf.n s c).bb=_
    rw[qe];rfl
   refine WpS.cond ?_
   rw[hc]
   refine⟨fun hb=> ?_,fun hb=> ?_⟩
   ·rw[hb] at h;exact hj hK Z hf h
   ·rw[hb] at h;exact gU hK Z hf h
  ·exact h.elim
 | block id c bn=>
  intro R s a K Q hK Z av h
  refine WpS.block (bn (K:=fun ex s a=>match ex with
   | .exit fk=>(match Nat.beq fk id with
    | true=>K .normal s a
    | false=>K (.exit fk) s a)
   | ex=>K ex s a) (fun ex s a Z hs hf=> ?_) Z av h)
  cases ex with
  | exit fk=>
   show if fk=id then _ else _
   have hs:(match Nat.beq fk id with
    | true=>K .normal s a
    | false=>K (.exit fk) s a).den R:=hs
   split at hs
   ·rename_i hb;rw[if_pos (Nat.eq_of_beq_eq_true hb)];exact hK _ _ _ Z hs hf
   ·rename_i hb
    rw[if_neg fun e=>by subst e;rw[Nat.beq_refl] at hb;cases hb];exact hK _ _ _ Z hs hf
  | _=>exact hK _ _ _ Z hs hf
 | seq x y Ok Ol=>
  intro R s a K Q hK Z av h
  have Mq:(jA cf dM ju x s a fun ex s a=>match ex with
   | .normal=>jA cf dM ju y s a K
   | ex=>K ex s a).den R→WpS P (.seq x y) Q (s.al cf.n):=fun h=>by
   refine WpS.seq (Ok (fun ex s a Z hs hf=> ?_) Z av h)
   cases ex with
   | normal=>exact Ol hK Z hf hs
   | _=>exact hK _ _ _ Z hs hf
  unfold jA at h
  split at h
  ·exact Mq h
  ·split at h
   ·rename_i S jd hm
    obtain⟨U,h⟩:=MF h
    obtain⟨h1,h2⟩:=h
    rw[aw.VG] at h1
    have ay:=aw.adH hm U h1
    refine WpS.seq (Ok (K:=fun ex s _=> .ke ex s) (fun ex s' gi Z hs hf=> ?_) Z av ay)
    have hs:_∧(ex= .normal→s'.gh S∧_∧_):=hs
    cases ex with
    | normal=>
     obtain⟨q1,q2,q3⟩:=hs.2 rfl
     exact WpS.r9 (Ol hK Z (hf.le q1) (h2 (Xd q3 q2))) (aib ad q1)
    | _=>exact hK _ _ _ Z hs.1 hf
   ·exact Mq h
 | loop c bn=>
  intro R s a K Q hK Z av h
  unfold jA at h
  split at h
  ·rename_i k4 cM jP j1 rd iw I m b
   obtain⟨s1,bi,qf,h⟩:=Bq ad av h
   obtain⟨v0,h⟩:=Jq h
   obtain⟨bA,sF,h⟩:=toHead_sound (n:=cf.n) ad fN rfl qf h
   obtain⟨au,h⟩:=h
   have hv:=LK h
   refine WpS.QU (V:=ct j1×FZ) (fun v=> @TS.al v.2 cf.n (zk s1 cM jP (iw v.1))) (fun v=>I v.1∧ @Fits v.2 (zk s1 cM jP (iw v.1))) (fun v=>m v.1) rfl (v0,Z) (bi.trans bA) ⟨au,sF⟩ fun v aR=> ?_
   refine bn (fun ex s' a Z' hs hf=> ?_) v.2 aR.2 (hv v.1 aR.1)
   cases ex with
   | normal=>
    obtain⟨d_,hs⟩:=Jq hs
    obtain⟨cO,Cm,hs⟩:=toHead_sound (n:=cf.n) ad fN rfl hf hs
    exact⟨(d_,Z'),⟨hs.1.1,Cm⟩,hs.1.2,cO⟩
   | _=>exact hK _ _ _ Z' hs hf
  ·exact h.elim
 | _=>intro R s a K Q hK Z av h;exact h.elim
end
def xr:(e:aH)→e.T→TV
 | .ptr e,x=> .c3 e x 0
 | .hJ f .unit,_=> .fn f []
 | .hJ f e,x=> .fn f [xr e x]
 | e,x=>match e.isS with
  | true=> .agg (iQ false e x)
  | false=>A2 false e x
theorem aev: ∀(e:aH) (x:e.T),(xr e x).bb=nt e x:=by
 have a6: ∀(e:aH) (x:e.T),(match e.isS with
  | true=>TV.agg (iQ false e x)
  | false=>A2 false e x).bb=match e.isS with
  | true=> .agg (ca false e x)
  | false=>iS false e x:=fun e x=>by
  cases e.isS with
  | true=>show AV.agg (cu _)=_;rw[BH]
  | false=>exact Lb false e x
 intro e
 induction e with
 | hJ f e bn=>
  intro x
  have key:xr (.hJ f e) x= .fn f [xr e x]→nt (.hJ f e) x= .fn f [nt e x]→(xr (.hJ f e) x).bb=nt (.hJ f e) x:=fun h1 h2=>by
   rw[h1,h2,←bn x];rfl
  cases e with
  | unit=>rfl
  | _=>exact key rfl rfl
 | ptr e bn=>intro x;rfl
 | _=>intro x;exact a6 _ x
def u0:Nat→(es:List aH)→ct es→List (Nat×TV)
 | _,[],_=>[]
 | i,e::r,x=>(i,xr e x.1)::u0 (i+1) r x.2
def om (ps:List aH) (x:ct ps):TS:=⟨u0 0 ps x,[],[],0⟩
theorem RC: ∀(es:List aH) (x:ct es) (i t:Nat),(gF (u0 i es x) t .u).bb=if t<i then .undef else(mO es x).getD (t - i) .undef
 | [],x,i,t=>by
  show AV.undef=_
  split<;>simp[mO]
 | e::r,x,i,t=>by
  rw[u0,gN,mO]
  by_cases h:i=t
  ·subst h
   rw[if_pos rfl,if_neg (by omega),Nat.sub_self,aev];rfl
  ·rw[if_neg h,RC r x.2 (i+1) t]
   by_cases h2:t<i
   ·rw[if_pos (by omega),if_pos h2]
   ·rw[if_neg (by omega),if_neg h2,show t - i=(t - (i+1))+1 by omega];rfl
theorem MB: ∀(es:List aH) (x:ct es),(mO es x).length=es.length
 | [],_=>rfl
 | e::r,x=>by rw[mO,List.length_cons,List.length_cons,MB r]
theorem Iq (ps:List aH) (x:ct ps) (h:ps.length≤1000000):iE (om ps x)=true:=by
 have key: ∀(es:List aH) (y:ct es) (i:Nat),i+es.length≤1000000→ ∀v,(de,v) ∉ u0 i es y:=by
  intro es
  induction es with
  | nil=>intro y i _ v hv;cases hv
  | cons e r bn=>
   intro y i hi v hv
   simp only[List.length_cons] at hi
   rcases List.mem_cons.1 hv with e | hv
   ·injection e with e _;unfold de at e;omega
   ·exact bn y.2 (i+1) (by omega) v hv
 unfold iE
 have:(om ps x).get de= .u:=by
  show gF (u0 0 ps x) de (gF [] de .u)=_
  rw[sP (key ps x 0 (by omega))];rfl
 rw[this]
theorem Pu [FZ] {fn:Func} {ps:List aH} {x:ct ps} (h:ps.length≤fn.ntmps) (ao:ps.length≤1000000):CY fn (mO ps x) []=(om ps x).al fn.ntmps:=by
 have bZ:mO ps x++List.replicate (fn.ntmps - (mO ps x).length) AV.undef=((om ps x).al fn.ntmps).T:=by
  apply List.ext_getElem?
  intro t
  show _=((List.range fn.ntmps).map fun t=>((om ps x).get t).bb)[t]?
  rw[List.getElem?_map]
  rcases Nat.lt_or_ge t fn.ntmps with ao | ao
  ·rw[List.getElem?_range ao]
   show _=some (gF (u0 0 ps x) t .u).bb
   rw[RC,if_neg (by omega),Nat.sub_zero]
   rcases Nat.lt_or_ge t (mO ps x).length with h1 | h1
   ·rw[List.getElem?_append_left h1,List.getD_eq_getElem?_getD,List.getElem?_eq_getElem h1];rfl
   ·rw[List.getElem?_append_right h1,List.getElem?_replicate,if_pos (by omega),List.getD_eq_getElem?_getD,List.getElem?_eq_none h1];rfl
  ·rw[List.getElem?_eq_none (l:=List.range fn.ntmps) (by simpa using ao),List.getElem?_eq_none]
   ·rfl
   ·rw[List.length_append,List.length_replicate,MB];omega
 have an:((om ps x).al fn.ntmps).H=[]:=by
  show(om ps x).fV++gM (om ps x)=[]
  unfold gM;rw[Iq ps x ao];rfl
 show(⟨_,[],[]⟩:St)=⟨((om ps x).al fn.ntmps).T,[],((om ps x).al fn.ntmps).H⟩
 rw[bZ,an]
def B_ (s:TS):(e:aH)→TV→e.T→aw→aw
 | .int,v,r,t=>(match v with
  | .i k m=>if k= .i64 then .p (m=r) t else .no
  | _=> .no)
 | .u64,v,r,t=>(match v with
  | .i k m=>if k= .u64 then .p (m=r) t else .no
  | _=> .no)
 | .bool,v,r,t=>(match v with
  | .b x=> .p (x.den=r) t
  | _=> .no)
 | .str,v,r,t=>(match v with
  | .s x=> .p (x=r) t
  | _=> .no)
 | .l e,v,r,t=>(match v with
  | .l bT xs _ fr=>(match fr with
   | true=>if h:bT=e then .p (k8 h xs=r) t else .no
   | false=> .no)
  | .nil _ _=> .p ([]=r) t
  | .ref b g m _=>qO s b g fun bT xs e0 _=>if h:bT=e then .eq e.oy true (.eq e0 m (.p (xs.length≤4611686018427387904∧k8 h xs=r) t)) else .no
  | _=> .no)
 | _,_,_,_=> .no
def Gf (s:TS):(es:List aH)→List TV→ct es→aw→aw
 | [],[],_,t=>t
 | e::r,v::vs,x,t=>B_ s e v x.1 (Gf s r vs x.2 t)
 | _,_,_,_=> .no
def Ca (s:TS) (e:aH) (v:TV) (r:e.T) (t:aw):aw:=match e.isS with
 | true=>(match v with
  | .agg c=>Gf s e.bR c (e.un r) t
  | _=> .no)
 | false=>B_ s e v r t
def Ge (s:TS):(es:List aH)→List TV→ct es→aw→aw
 | [],[],_,t=>t
 | e::r,v::vs,x,t=>Ca s e v x.1 (Ge s r vs x.2 t)
 | _,_,_,_=> .no
def Jt (P:Program) (n:Nat) (s:TS):ResultVar→TV
 | .tmp t=>cm n s (.tmp t)
 | .cell a t=>(match cm n s (.tmp a) with
  | .lp v c=>(match kf s.vs v with
   | some m=>vv P t (hg s v 0 m) c
   | none=> .u)
  | _=> .u)
def qT (P:Program) (n:Nat) (fn:Func) (rs:List aH) (r:ct rs) (s:TS):aw:=
 let vs:=fn.results.toList.map (Jt P n s)
 .eq (fun H Q=>rU P ⟨s.tT n,s.b4,H⟩ fn.results.toList Q) (fun _ Q=>Q (cu vs)) (.eq ((cu vs).all jR) true (Ge s rs vs r .ha))
section
variable {n:Nat} {s:TS} {R:Exit→TS→Prop} {t:aw}
theorem Wh {H:List Blk} (e:aH) (x:e.T) (h:e.oy=true):kk H (ca true e x) (ca false e x):=by
 cases e with
 | int=>exact VW x
 | u64=>exact .cons (.int _ _) rfl .nil
 | u8=>exact VY x
 | bool=>exact Fa x
 | str=>exact VX x
 | bG=>exact L8 x
 | eg=>exact VZ x
 | ef=>exact .cons (.int _ _) rfl (.cons (j4 _) rfl (.cons (j4 _) rfl (.cons (j4 _) rfl (.cons (.int _ _) rfl .nil))))
 | mQ=>exact VU x
 | ep=>exact L9 x
 | held=>exact VV x
 | frame=>exact .cons (.bool _) rfl (.cons (j4 _) rfl (.cons (j4 _) rfl (.cons (j4 _) rfl .nil)))
 | done=>exact VT x
 | fault=>exact .cons (.int _ _) rfl (.cons (.int _ _) rfl .nil)
 | stays=>exact .cons (j4 _) rfl (.cons (j4 _) rfl (.cons (j4 _) rfl .nil))
 | gv=>exact .cons (j4 _) rfl (.cons (.int _ _) rfl (.cons (.int _ _) rfl .nil))
 | l e=>exact .cons (j4 _) rfl .nil
 | _=>cases h
end
section
variable [FZ] {n:Nat} {s:TS} {R:Exit→TS→Prop} {t:aw}
theorem MT {e:aH} {v:TV} {r:e.T} (h:(B_ s e v r t).den R):fi (s.al n).H v.bb (iS true e r)∧t.den R:=by
 cases e with
 | int=>
  have h:(match v with
   | .i k m=>if k=IntKind.i64 then aw.p (m=r) t else .no
   | _=> .no).den R:=h
  split at h
  ·split at h
   ·rename_i hk;subst hk;exact⟨KT h.1,h.2⟩
   ·exact h.elim
  ·exact h.elim
 | u64=>
  have h:(match v with
   | .i k m=>if k=IntKind.u64 then aw.p (m=r) t else .no
   | _=> .no).den R:=h
  split at h
  ·split at h
   ·rename_i hk;subst hk;exact⟨KT h.1,h.2⟩
   ·exact h.elim
  ·exact h.elim
 | bool=>
  have h:(match v with
   | .b x=>aw.p (x.den=r) t
   | _=> .no).den R:=h
  split at h
  ·exact⟨vp h.1,h.2⟩
  ·exact h.elim
 | str=>
  have h:(match v with
   | .s x=>aw.p (x=r) t
   | _=> .no).den R:=h
  split at h
  ·exact⟨ahz h.1,h.2⟩
  ·exact h.elim
 | l e=>
  have h:(match v with
   | .l bT xs _ fr=>(match fr with
    | true=>if h:bT=e then aw.p (k8 h xs=r) t else .no
    | false=> .no)
   | .nil _ _=> .p ([]=r) t
   | .ref b g m _=>qO s b g fun bT xs e0 _=>if h:bT=e then .eq e.oy true (.eq e0 m (.p (xs.length≤4611686018427387904∧k8 h xs=r) t)) else .no
   | _=> .no).den R:=h
  split at h
  ·split at h
   ·split at h
    ·rename_i he;subst he;exact⟨ahx (e:=ca false _) h.1,h.2⟩
    ·exact h.elim
   ·exact h.elim
  ·exact⟨ahy (e:=ca false e) h.1,h.2⟩
  ·rename_i b g m c8
   obtain⟨bT,xs,e0,hm,h,hb,an⟩:=vW (n:=n) h
   split at h
   ·rename_i he
    subst he
    obtain⟨au,h1,h2,ay⟩:=h
    subst h1
    subst hm
    exact⟨T9 (eT:=ca true bT) (eF:=ca false bT) an (fun x=>Wh bT x au) h2,ay⟩
   ·exact h.elim
  ·exact h.elim
 | _=>exact h.elim
theorem MV: ∀{es:List aH} {vs:List TV} {r:ct es},(Gf s es vs r t).den R→az (fi (s.al n).H) (cu vs) (ii true es r)∧t.den R
 | [],[],_,h=>⟨az.nil,h⟩
 | e::r,v::vs,x,h=>by
  obtain⟨h1,h2⟩:=MT (n:=n) (show(B_ s e v x.1 _).den R from h)
  obtain⟨ay,bg⟩:=MV h2
  exact⟨az.cons h1 ay,bg⟩
 | [],_::_,_,h=>h.elim
 | _::_,[],_,h=>h.elim
theorem Xm {e:aH} {v:TV} {r:e.T} (h:(Ca s e v r t).den R):sg (s.al n).H v.bb (oc e r)∧t.den R:=by
 unfold Ca at h
 unfold oc
 cases c4:e.isS with
 | true=>
  rw[c4] at h
  simp only at h
  split at h
  ·rename_i c
   obtain⟨h1,h2⟩:=MV (n:=n) h
   refine⟨.inl ⟨cu c,ca true e r,rfl,rfl,?_⟩,h2⟩
   rw[←mN];exact h1
  ·exact h.elim
 | false=>
  rw[c4] at h
  obtain⟨h1,h2⟩:=MT (n:=n) h
  exact⟨.inr h1,h2⟩
theorem MU: ∀{es:List aH} {vs:List TV} {r:ct es},(Ge s es vs r t).den R→az (sg (s.al n).H) (cu vs) (oY es r)∧t.den R
 | [],[],_,h=>⟨az.nil,h⟩
 | e::r,v::vs,x,h=>by
  obtain⟨h1,h2⟩:=Xm (n:=n) (show(Ca s e v x.1 _).den R from h)
  obtain⟨ay,bg⟩:=MU h2
  exact⟨az.cons h1 ay,bg⟩
 | [],_::_,_,h=>h.elim
 | _::_,[],_,h=>h.elim
theorem Gg {P:Program} {fn:Func} {rs:List aH} {r:ct rs} (h:(qT P n fn rs r s).den R):s_ P fn (s.al n) fun v H=>j0 H v (pZ rs r):=by
 unfold qT at h
 simp only at h
 obtain⟨h1,h2,ay⟩:=h
 unfold s_
 have wy:rU P (s.al n) fn.results.toList=_:=congrFun h1 (s.al n).H
 rw[congrFun wy]
 refine⟨h2,?_⟩
 obtain⟨bg,_⟩:=MU (n:=n) ay
 have key: ∀(rs:List aH) (r:ct rs) (l:List AV),az (sg (s.al n).H) l (oY rs r)→j0 (s.al n).H (qG l) (pZ rs r):=by
  intro rs r l ab
  match rs,r,l with
  | [],_,[]=>exact .inl ⟨[],[],rfl,rfl,az.nil⟩
  | [],_,_::_=>have:=ab.1;simp[oY] at this
  | [e],r,[]=>have:=ab.1;simp[oY] at this
  | [e],r,[v]=>exact .inr ab.head
  | [e],r,_::_::_=>have:=ab.1;simp[oY] at this
  | e::bT::rs,r,[]=>have:=ab.1;simp[oY] at this
  | e::bT::rs,r,[v]=>have:=ab.1;simp[oY] at this
  | e::bT::rs,r,v::w::l=>exact .inl ⟨_,_,rfl,rfl,ab⟩
 exact key rs r _ bg
end
def K9 {P:Program} (cf:gA P) (dM:vJ P) (fn:Func) (ps rs:List aH) (x:ct ps) (r:ct rs) (a:kH):aw:=jA cf dM (some 0) (j2 fn) (om ps x) a fun ex s _=>match ex with
 | .normal=>qT P cf.n fn rs r s
 | .ret=>qT P cf.n fn rs r s
 | _=> .no
theorem aZ.run {P:Program} {f:FuncId} {fn:Func} {ps rs:List aH} {x:ct ps} {r:ct rs} (cf:gA P) (dM:vJ P) (a:kH) {C:Prop} (hf:P.funcs[f]?=some fn) (h:C) (e:C=(K9 cf dM fn ps rs x r a).np.den:=by kernel_rfl)
  (e2:(K9 cf dM fn ps rs x r a).lhs=(K9 cf dM fn ps rs x r a).rhs:=by kernel_rfl) (hb:fn.body=some (j2 fn):=by kernel_rfl) (hm:(fn.name== "runtime.NumGoroutine")=false:=by kernel_rfl)
  (ad:(Nat.beq cf.n fn.ntmps&&Nat.ble cf.n 1000000&&Nat.ble ps.length cf.n)=true:=by kernel_rfl):aZ P f (mO ps x) (pZ rs r):=by
 simp only[Bool.and_eq_true] at ad
 have h1:=Nat.eq_of_beq_eq_true ad.1.1
 have h2:=Nat.le_of_ble_eq_true ad.1.2
 have ay:=Nat.le_of_ble_eq_true ad.2
 refine dg.I4 hf hb hm fun ie fN=> ?_
 rw[@Pu ⟨[],[]⟩ fn ps x (by rw[←h1];exact ay) (by omega),←h1]
 refine UC h2 (fun k e=>by cases e;rw[fN];exact Nat.le_refl _) (j2 fn) (R:=fun _ _=>True) (K:=fun ex s _=>match ex with
  | .normal=>qT P cf.n fn rs r s
  | .ret=>qT P cf.n fn rs r s
  | _=> .no) (fun ex s _ Z hs hf=> ?_) ⟨[],[]⟩ (@Fits.none ⟨[],[]⟩ _ (Iq ps x (by omega))) (aw.full (e▸h) e2)
 cases ex with
 | normal=>exact Gg hs
 | ret=>exact Gg hs
 | _=>exact hs.elim
def Env.ro (w:World) (B:Nat→Prop):Env:={w:=w,PA:=B,PF:=fun _=>False,m:=fun _=>none,a6:=fun _=>0,sz:=fun _=>0,cp:=fun _=>0,mL:=fun _=>none}
def dR (w:World) (B:Nat→Prop) (a:AV) (v:Value):Prop:=V2 (Env.ro w B) a v
theorem dR.cM {w w':World} {B B':Nat→Prop} {a:AV} {v:Value} (h:dR w B a v) (hk: ∀c,B c→w'.heap[c]?=w.heap[c]?) (hs: ∀c,B c→B' c):dR w' B' a v:=
 V2.le (E:=Env.ro w B) (E':=Env.ro w' B') ⟨hs,fun _ h=>h.elim,hk,fun _ h=>h.elim,fun _=>Nat.le_refl _,(fun _ _ h _=>by cases h),(fun _ _ h=>by cases h)⟩ h
theorem dR.at {w:World} {B:Nat→Prop} {a:AV} {v:Value} (h:dR w B a v) (ao: ∀c,B c→c<w.heap.size):V2 (Env.at w) a v:=dR.cM (B':=fun c=>c<w.heap.size) h (fun _ _=>rfl) ao
def eD (w w':World) (c:Nat):Prop:=w.heap.size≤c∧c<w'.heap.size∧Plain w' c
def BY (e:aH) (x:e.T):AV:=match e.isS with
 | true=> .agg (ca false e x)
 | false=>iS false e x
theorem aL.h9 {w:World} {PA PF B:Nat→Prop} (ab: ∀c,PF c→B c) (ap: ∀c,PA c→B c) {e:aH} {x:e.T} {v:Value} (h:aL w PA PF (iS true e x) v):aL w B (fun _=>False) (iS false e x) v:=by
 cases e with
 | l e=>
  cases h with
  | aJ eR eZ fB b3 dL hrel=>exact .aJ (fun c hc=>ab c (by simpa using eR c hc)) eZ fB b3 dL hrel
 | int=>cases h;exact .int _ _
 | u64=>cases h;exact .int _ _
 | u8=>cases h;exact .int _ _
 | bool=>cases h;exact .bool _
 | str=>cases h;exact .str _
 | _=>exact .undef _
theorem Ld {w:World} {PA PF B:Nat→Prop} (ab: ∀c,PF c→B c) (ap: ∀c,PA c→B c): ∀{es:List aH} {x:ct es} {vs:List Value},az (fun a v=>aL w PA PF a v) (ii true es x) vs→az (bQ (Env.ro w B)) (ii false es x) vs
 | [],_,vs,h=>by obtain rfl:=h.mj;exact az.nil
 | e::r,x,vs,h=>by
  obtain⟨v,vs,rfl,h1,h2⟩:=h.cons_inv
  exact az.cons (aL.v1 (E:=Env.ro w B) (aL.h9 ab ap h1)) (Ld ab ap h2)
theorem Lh {E:Env} {fr:Bool} {e:aH} {x:e.T} {v:Value} (h:bQ E (iS fr e x) v):aL E.w E.PA E.PF (iS fr e x) v:=by
 cases e<;>exact h
theorem Ev {E:Env} {fr:Bool}: ∀{es:List aH} {x:ct es} {vs:List Value},az (bQ E) (ii fr es x) vs→az (fun a v=>aL E.w E.PA E.PF a v) (ii fr es x) vs
 | [],_,vs,h=>by obtain rfl:=h.mj;exact az.nil
 | e::r,x,vs,h=>by
  obtain⟨v,vs,rfl,h1,h2⟩:=h.cons_inv
  exact az.cons (Lh h1) (Ev h2)
theorem aL.Ab {w:World} {PA PF B:Nat→Prop} (ap: ∀c,PA c→B c) {e:aH} {x:e.T} {v:Value} (h:aL w PA PF (iS false e x) v):aL w B (fun _=>False) (iS false e x) v:=by
 cases e with
 | l e=>
  cases h with
  | aJ eR eZ fB b3 dL hrel=>exact .aJ (fun c hc=>ap c (by simpa using eR c hc)) eZ fB b3 dL hrel
 | int=>cases h;exact .int _ _
 | u64=>cases h;exact .int _ _
 | u8=>cases h;exact .int _ _
 | bool=>cases h;exact .bool _
 | str=>cases h;exact .str _
 | _=>exact .undef _
theorem Rf {w:World} {PA PF B:Nat→Prop} (ap: ∀c,PA c→B c): ∀{es:List aH} {x:ct es} {vs:List Value},az (fun a v=>aL w PA PF a v) (ii false es x) vs→az (bQ (Env.ro w B)) (ii false es x) vs
 | [],_,vs,h=>by obtain rfl:=h.mj;exact az.nil
 | e::r,x,vs,h=>by
  obtain⟨v,vs,rfl,h1,h2⟩:=h.cons_inv
  exact az.cons (aL.v1 (E:=Env.ro w B) (aL.Ab ap h1)) (Rf ap h2)
theorem UA {e:aH} {x:e.T} {w:World} {v:Value} (h:V2 (Env.wd w) (.agg (ca false e x)) v):dR w (fun c=>c<w.heap.size) (.agg (ca false e x)) v:=by
 obtain⟨et,rfl,ab⟩:=(show ∃et:List Value,v= .agg et.toArray∧az (bQ _) (ca false e x) et from h)
 refine⟨et,rfl,?_⟩
 rw[←mN] at ab ⊢
 exact Rf (fun _ h=>h) (Ev ab)
theorem aZ.A1 {P:Program} {f:FuncId} {args:List AV} {e:aH} {x:e.T} (h:aZ P f args (oc e x)) {w:World} {vs:List Value} (ap:az (V2 (Env.at w)) args vs):
  Calls P f vs.toArray w fun iR w'=> ∃v,iR= .returned v∧RowKit.Below w.heap.size w w'∧dR w' (eD w w') (BY e x) v:=by
 refine(h.2 (Env.at w) vs (fun _=>rfl) (EY w) ap).mono ?_
 rintro iR w' ⟨r,v,H',E',rfl,ai,rfl,ad,hs,hv,aQ⟩
 have hb:RowKit.Below w.heap.size w E'.w:=⟨aQ.os,aQ.tape,aQ.output,aQ.size,fun k hk=>aQ.cM k hk (fun⟨b,hb⟩=>by cases hb) (fun⟨b,hb⟩=>by cases hb)⟩
 have iV: ∀c,E'.PF c∨E'.fl c→eD w E'.w c:=fun c hc=>by
  rcases hc with hc | hc
  ·exact⟨(aQ.e6 c hc).elim (fun h=>h.elim) id,hs.du c (hs.dm c hc),hs.fg c hc⟩
  ·exact⟨(aQ.oj c hc).elim (fun⟨b,hb⟩=>by cases hb) id,hs.fm c hc,hs.Om hc⟩
 have kb:V3 {Env.ro E'.w (eD w E'.w) with PF:=eD w E'.w} (oc e x) v:=J0 (E':={Env.ro E'.w (eD w E'.w) with PF:=eD w E'.w}) hs rfl (fun c hc=>⟨iV c hc,iV c hc⟩) ai hv
 refine⟨v,rfl,hb,?_⟩
 unfold BY
 unfold oc at kb
 cases c4:e.isS with
 | true=>
  rw[c4] at kb
  obtain⟨et,rfl,ab⟩:=(show ∃et:List Value,v= .agg et.toArray∧az (bQ _) (ca true e x) et from kb)
  refine⟨et,rfl,?_⟩
  rw[←mN] at ab ⊢
  exact Ld (fun _ h=>h) (fun _ h=>h) (Ev ab)
 | false=>
  rw[c4] at kb
  have kb:V3 {Env.ro E'.w (eD w E'.w) with PF:=eD w E'.w} (iS true e x) v:=kb
  have h1:bQ {Env.ro E'.w (eD w E'.w) with PF:=eD w E'.w} (iS true e x) v:=by cases e<;>first | exact kb | cases c4
  have:=aL.h9 (B:=eD w E'.w) (fun _ h=>h) (fun _ h=>h) (Lh h1)
  exact jD (aL.v1 (E:=Env.ro E'.w (eD w E'.w)) this)
theorem aZ.int {P:Program} {f:FuncId} {args:List AV} {n:Int} (h:aZ P f args (.int .i64 n)) {w:World} {vs:List Value} (ap:az (V2 (Env.at w)) args vs):
  Calls P f vs.toArray w fun iR w'=>iR= .returned (.int .i64 n)∧RowKit.Below w.heap.size w w':=
 (aZ.A1 (e:= .int) (x:=n) h ap).mono fun iR w' ⟨v,h1,h2,ay⟩=>by
  have ay:aL w' _ _ (.int .i64 n) v:=ay
  cases ay;exact⟨h1,h2⟩
theorem aZ.bool {P:Program} {f:FuncId} {args:List AV} {b:Bool} (h:aZ P f args (.bool b)) {w:World} {vs:List Value} (ap:az (V2 (Env.at w)) args vs):
  Calls P f vs.toArray w fun iR w'=>iR= .returned (.bool b)∧RowKit.Below w.heap.size w w':=
 (aZ.A1 (e:= .bool) (x:=b) h ap).mono fun iR w' ⟨v,h1,h2,ay⟩=>by
  have ay:aL w' _ _ (.bool b) v:=ay
  cases ay;exact⟨h1,h2⟩
theorem r6 {w:World} {B:Nat→Prop} {rows:List (List AV)} {v:Value} (h:dR w B (.aJ rows false false) v): ∃A cap,v= .slice A rows.length cap∧aL w B (fun _=>False) (.aJ rows false false) v:=by
 have h:aL w B (fun _=>False) (.aJ rows false false) v:=h
 cases h with
 | aJ eR eZ fB b3 dL hrel=>exact⟨_,_,rfl,.aJ eR eZ fB b3 dL hrel⟩
structure eQ where
 lo:Nat
 hi:Nat
 P:World→Prop
 al: ∀w w':World,(∀c,lo≤c→c<hi→w'.heap[c]?=w.heap[c]?)→P w→P w'
structure b9 (W w:World) (l:List eQ):Prop where
 os:w.os=W.os
 tape:w.tape=W.tape
 output:w.output=W.output
 size:W.heap.size≤w.heap.size
 jv: ∀c,c<W.heap.size→w.heap[c]?=W.heap[c]?
 ord:l.Pairwise fun a b=>a.hi≤b.lo
 all: ∀i∈l,i.hi≤w.heap.size∧i.P w
theorem b9.get {W w:World} {l:List eQ} (h:b9 W w l) (j:Nat) {i:eQ} (e:l[j]?=some i:=by rfl):i.P w:=(h.all i (List.mem_of_getElem? e)).2
theorem b9.hi {W w:World} {l:List eQ} (h:b9 W w l) (j:Nat) {i:eQ} (e:l[j]?=some i:=by rfl):i.hi≤w.heap.size:=(h.all i (List.mem_of_getElem? e)).1
theorem b9.below {W w w':World} {l:List eQ} (h:b9 W w l) (hb:RowKit.Below w.heap.size w w'):b9 W w' l where
 os:=hb.os.trans h.os
 tape:=hb.tape.trans h.tape
 output:=hb.output.trans h.output
 size:=Nat.le_trans h.size hb.size
 jv:=fun c hc=>(hb.block c (Nat.lt_of_lt_of_le hc h.size)).trans (h.jv c hc)
 ord:=h.ord
 all:=fun i hi=>⟨Nat.le_trans (h.all i hi).1 hb.size,i.al w w' (fun c _ hc=>hb.block c (Nat.lt_of_lt_of_le hc (h.all i hi).1)) (h.all i hi).2⟩
theorem b9.drewN {W w:World} {l:List eQ} (h:b9 W w l):b9 W w.drew l:=h.below ⟨rfl,rfl,rfl,Nat.le_refl _,fun _ _=>rfl⟩
theorem b9.add {W w:World} {l:List eQ} (h:b9 W w l) (i:eQ) (h1:i.hi≤w.heap.size) (h2:i.P w) (ay: ∀j∈l,j.hi≤i.lo):b9 W w (l++[i]):=
 {h with
  ord:=List.pairwise_append.2 ⟨h.ord,List.pairwise_singleton _ _,fun a ap b hb=>by rw[List.mem_singleton.1 hb];exact ay a ap⟩
  all:=fun j af=>by
   rcases List.mem_append.1 af with af | af
   ·exact h.all j af
   ·rw[List.mem_singleton.1 af];exact⟨h1,h2⟩}
theorem b9.made {W w w':World} {l:List eQ} (h:b9 W w l) (hb:RowKit.Below w.heap.size w w') (i:eQ) (au:i.lo=w.heap.size) (h1:i.hi=w'.heap.size) (h2:i.P w'):b9 W w' (l++[i]):=
 (h.below hb).add i (Nat.le_of_eq h1) h2 fun j af=>by rw[au];exact(h.all j af).1
def dC (b:Nat) (aj:Array Value) (ty:TypeId):eQ where
 lo:=b
 hi:=b+1
 P:=fun w=>w.heap[b]?=some (.cells aj ty (0,0))
 al:=fun w w' h ab=>(h b (Nat.le_refl _) (Nat.lt_succ_self _)).trans ab
theorem b9.box {W w:World} {l:List eQ} (h:b9 W w l) (aj:Array Value) (ty:TypeId):b9 W (w.alloc (.cells aj ty (0,0))) (l++[dC w.heap.size aj ty]):=
 h.made ((RowKit.Below.refl _ _).alloc (Nat.le_refl _) _) (dC w.heap.size aj ty) rfl (by simp[dC]) (n8 _ _)
theorem b9.BC {W w:World} {l:List eQ} (h:b9 W w l) (j:Nat) {b:Nat} {aj:Array Value} {ty:TypeId} (e:l[j]?=some (dC b aj ty)):b<w.heap.size:=h.hi j e
def Oh (n:Nat) (a:AV) (v:Value):eQ where
 lo:=0
 hi:=n
 P:=fun w=>dR w (fun c=>c<n) a v
 al:=fun w w' h ab=>ab.cM (fun c hc=>h c (Nat.zero_le _) hc) (fun _ h=>h)
def hz (n:Nat) (a:AV) (v:Value) (b:AV) (u:Value):eQ where
 lo:=0
 hi:=n
 P:=fun w=>dR w (fun c=>c<n) a v∧dR w (fun c=>c<n) b u
 al:=fun w w' h ab=>⟨ab.1.cM (fun c hc=>h c (Nat.zero_le _) hc) (fun _ h=>h),ab.2.cM (fun c hc=>h c (Nat.zero_le _) hc) (fun _ h=>h)⟩
def l2 (w:World) (lo hi c:Nat):Prop:=lo≤c∧c<hi∧Plain w c
def kr (lo hi:Nat) (a:AV) (v:Value):eQ where
 lo:=lo
 hi:=hi
 P:=fun w=>dR w (l2 w lo hi) a v
 al:=fun w w' h ab=>ab.cM (fun c hc=>h c hc.1 hc.2.1) fun c hc=>⟨hc.1,hc.2.1,hc.2.2.same (h c hc.1 hc.2.1)⟩
theorem b9.Ro {W w w':World} {l:List eQ} {a:AV} {v:Value} (h:b9 W w l) (hb:RowKit.Below w.heap.size w w') (a_:dR w' (eD w w') a v):b9 W w' (l++[kr w.heap.size w'.heap.size a v]):=
 h.made hb (kr w.heap.size w'.heap.size a v) rfl rfl a_
def wX (lo hi:Nat):eQ:=⟨lo,hi,fun _=>True,fun _ _ _ _=>trivial⟩
theorem kr.at {W w:World} {l:List eQ} (h:b9 W w l) (j:Nat) {lo hi:Nat} {a:AV} {v:Value} (e:l[j]?=some (kr lo hi a v):=by rfl):V2 (Env.at w) a v:=
 (h.get j e).at fun c hc=>Nat.lt_of_lt_of_le hc.2.1 (h.hi j e)
theorem Oh.at {W w:World} {l:List eQ} (h:b9 W w l) (j:Nat) {n:Nat} {a:AV} {v:Value} (e:l[j]?=some (Oh n a v):=by rfl):V2 (Env.at w) a v:=
 (h.get j e).at fun c hc=>Nat.lt_of_lt_of_le hc (h.hi j e)
theorem hz.at {W w:World} {l:List eQ} (h:b9 W w l) (j:Nat) {n:Nat} {a b:AV} {v u:Value} (e:l[j]?=some (hz n a v b u):=by rfl):V2 (Env.at w) a v∧V2 (Env.at w) b u:=
 ⟨(h.get j e).1.at fun c hc=>Nat.lt_of_lt_of_le hc (h.hi j e),(h.get j e).2.at fun c hc=>Nat.lt_of_lt_of_le hc (h.hi j e)⟩
theorem b9.mark {W w w':World} {l:List eQ} (h:b9 W w l) (j:Nat) (i:eQ) (e:l[j]?=some i) (af:W.heap.size≤i.lo) {S:Nat→Prop} (c4: ∀c,S c→i.lo≤c∧c<i.hi) (hk:dh S w w') (iz:eQ) (ao:iz.lo=i.lo) (bm:iz.hi=i.hi) (ab:iz.P w'):b9 W w' (l.set j iz):=by
 have j_:=(List.getElem?_eq_some_iff.1 e).1
 have Cq:l[j]=i:=(List.getElem?_eq_some_iff.1 e).2
 refine⟨hk.os.trans h.os,hk.tape.trans h.tape,hk.output.trans h.output,Nat.le_trans h.size hk.size,fun c hc=>(hk.other c (Nat.lt_of_lt_of_le hc h.size) fun hs=>by have:=(c4 c hs).1;omega).trans (h.jv c hc),?_,?_⟩
 ·rw[List.pairwise_iff_getElem]
  have ar:=List.pairwise_iff_getElem.1 h.ord
  intro a b ap hb YK
  simp only[List.length_set] at ap hb
  have:=ar a b ap hb YK
  rw[List.getElem_set,List.getElem_set]
  by_cases ax:j=a
  ·subst ax
   rw[if_pos rfl,if_neg (by omega),bm,←Cq];exact this
  ·rw[if_neg ax]
   by_cases e2:j=b
   ·subst e2
    rw[if_pos rfl,ao,←Cq];exact this
   ·rw[if_neg e2];exact this
 ·intro q U
  obtain⟨a,ap⟩:=List.mem_iff_getElem?.1 U
  rw[List.getElem?_set] at ap
  by_cases ax:j=a
  ·subst ax
   rw[if_pos rfl,if_pos j_] at ap
   cases ap
   exact⟨by rw[bm];exact Nat.le_trans (h.all i (List.mem_of_getElem? e)).1 hk.size,ab⟩
  ·rw[if_neg ax] at ap
   have hm:=List.mem_of_getElem? ap
   refine⟨Nat.le_trans (h.all q hm).1 hk.size,q.al w w' (fun c bc a8=>hk.other c (Nat.lt_of_lt_of_le a8 (h.all q hm).1) fun hs=> ?_) (h.all q hm).2⟩
   have ar:=List.pairwise_iff_getElem.1 h.ord
   have wB:=(List.getElem?_eq_some_iff.1 ap).1
   have NC:l[a]=q:=(List.getElem?_eq_some_iff.1 ap).2
   have h1:=c4 c hs
   rcases Nat.lt_or_gt_of_ne ax with aN | oh
   ·have:=ar j a j_ wB aN
    rw[Cq,NC] at this;omega
   ·have:=ar a j wB j_ oh
    rw[Cq,NC] at this;omega
theorem b9.after {W w:World} {l:List eQ} (h:b9 W w l) (i j:Nat) {a b:eQ} (ap:l[i]?=some a) (hb:l[j]?=some b) (lB:i<j):a.hi≤b.lo:=by
 have h1:=(List.getElem?_eq_some_iff.1 ap).1
 have h2:=(List.getElem?_eq_some_iff.1 hb).1
 have:=List.pairwise_iff_getElem.1 h.ord i j h1 h2 lB
 rw[(List.getElem?_eq_some_iff.1 ap).2,(List.getElem?_eq_some_iff.1 hb).2] at this
 exact this
theorem b9.told {W w:World} {l:List eQ} (h:b9 W w l) (j:Nat) {lo hi:Nat} {a:AV} {v:Value} (e:l[j]?=some (kr lo hi a v)):dR w (l2 w lo hi) a v:=h.get j e
theorem b9.forget {W w w':World} {l:List eQ} (h:b9 W w l) (j:Nat) {lo hi:Nat} {a:AV} {v:Value} (e:l[j]?=some (kr lo hi a v)) (af:W.heap.size≤lo) (hk:dh (l2 w lo hi) w w'):b9 W w' (l.set j (wX lo hi)):=
 h.mark j (kr lo hi a v) e af (fun c hc=>⟨hc.1,hc.2.1⟩) hk (wX lo hi) rfl rfl trivial
theorem dh.pl {w w':World} {lo hi:Nat} (hk:dh (l2 w lo hi) w w'): ∀c,l2 w lo hi c→l2 w' lo hi c:=fun c hc=>by
 obtain⟨aj,ty,hx⟩:=hc.2.2
 obtain⟨bL,h1,_⟩:=hk.at hx
 exact⟨hc.1,hc.2.1,bL,ty,h1⟩
theorem b9.end {W w:World} {l:List eQ} (h:b9 W w l):RowKit.Below W.heap.size W w:=⟨h.os,h.tape,h.output,h.size,h.jv⟩
theorem b9.start (W:World):b9 W W []:=⟨rfl,rfl,rfl,Nat.le_refl _,fun _ _=>rfl,List.Pairwise.nil,fun i h=>by cases h⟩
def il (lo hi b:Nat) (aj:Array Value) (ty:TypeId) (a:AV) (v:Value):eQ where
 lo:=lo
 hi:=hi
 P:=fun w=>lo≤b∧b<hi∧w.heap[b]?=some (.cells aj ty (0,0))∧dR w (fun c=>l2 w lo hi c∧c≠b) a v
 al:=fun w w' h ab=>⟨ab.1,ab.2.1,(h b ab.1 ab.2.1).trans ab.2.2.1,ab.2.2.2.cM (fun c hc=>h c hc.1.1 hc.1.2.1) fun c hc=>⟨⟨hc.1.1,hc.1.2.1,hc.1.2.2.same (h c hc.1.1 hc.1.2.1)⟩,hc.2⟩⟩
theorem b9.dv {W w w':World} {l:List eQ} (h:b9 W w l) (hb:RowKit.Below w.heap.size w w') (b:Nat) {aj:Array Value} {ty:TypeId} {a:AV} {v:Value} (h1:w.heap.size≤b) (h2:b<w'.heap.size) (hc:w'.heap[b]?=some (.cells aj ty (0,0))) (a_:dR w' (fun c=>l2 w' w.heap.size w'.heap.size c∧c≠b) a v):b9 W w' (l++[il w.heap.size w'.heap.size b aj ty a v]):=
 h.made hb (il w.heap.size w'.heap.size b aj ty a v) rfl rfl ⟨h1,h2,hc,a_⟩
theorem il.at {W w:World} {l:List eQ} (h:b9 W w l) (j:Nat) {lo hi b:Nat} {aj:Array Value} {ty:TypeId} {a:AV} {v:Value} (e:l[j]?=some (il lo hi b aj ty a v):=by rfl):V2 (Env.at w) a v:=
 (h.get j e).2.2.2.at fun c hc=>Nat.lt_of_lt_of_le hc.1.2.1 (h.hi j e)
theorem il.box {W w:World} {l:List eQ} (h:b9 W w l) (j:Nat) {lo hi b:Nat} {aj:Array Value} {ty:TypeId} {a:AV} {v:Value} (e:l[j]?=some (il lo hi b aj ty a v)):w.heap[b]?=some (.cells aj ty (0,0)):=(h.get j e).2.2.1
theorem il.lt {W w:World} {l:List eQ} (h:b9 W w l) (j:Nat) {lo hi b:Nat} {aj:Array Value} {ty:TypeId} {a:AV} {v:Value} (e:l[j]?=some (il lo hi b aj ty a v)):b<w.heap.size:=Nat.lt_of_lt_of_le (h.get j e).2.1 (h.hi j e)
theorem Df {w w':World} {aj:Array Value} {ty:TypeId} (hb:RowKit.Below (w.alloc (.cells aj ty (0,0))).heap.size (w.alloc (.cells aj ty (0,0))) w'):w'.heap[w.heap.size]?=some (.cells aj ty (0,0)):=
 (hb.block _ (by rw[World.size_alloc];exact Nat.lt_succ_self _)).trans (n8 _ _)
theorem Rd {w w':World} {aj:Array Value} {ty:TypeId} (hb:RowKit.Below (w.alloc (.cells aj ty (0,0))).drew.heap.size (w.alloc (.cells aj ty (0,0))).drew w'):w'.heap[w.heap.size]?=some (.cells aj ty (0,0)):=
 (hb.block _ (by rw[World.size_drew,World.size_alloc];exact Nat.lt_succ_self _)).trans (n8 _ _)
theorem dR.dv {aD w w':World} {lo b:Nat} {a:AV} {v:Value} (h:dR w (eD aD w) a v) (CA:lo≤aD.heap.size) (hs:w.heap.size≤w'.heap.size) (hb:aD.heap.size≤b→w.heap.size≤b) (hk: ∀c,c<w.heap.size→c≠b→w'.heap[c]?=w.heap[c]?):dR w' (fun c=>l2 w' lo w'.heap.size c∧c≠b) a v:=by
 have bN: ∀c,eD aD w c→c≠b:=fun c hc e=>by
  subst e
  have h1:=hc.1
  have h2:=hc.2.1
  have:=hb h1
  omega
 refine h.cM (fun c hc=>hk c hc.2.1 (bN c hc)) fun c hc=> ?_
 have h1:=hc.1
 have h2:=hc.2.1
 exact⟨⟨by omega,by omega,hc.2.2.same (hk c hc.2.1 (bN c hc))⟩,bN c hc⟩
theorem JO {w:World} {b o:Nat} {aj:Array Value} {ty:TypeId} {v:Value} (h:w.heap[b]?=some (.cells aj ty (0,0))):(w.setCell ⟨b,o,none⟩ v).heap[b]?=some (.cells (aj.setIfInBounds o v) ty (0,0)):=by
 simp[World.setCell,Array.getElem?_modify,h]
theorem xL {w:World} {b:Nat} {a0 J a2 v0 v1 v2:Value} {ty:TypeId} (h:w.heap[b]?=some (.cells #[a0,J,a2] ty (0,0))):(((w.setCell ⟨b,0,none⟩ v0).setCell ⟨b,1,none⟩ v1).setCell ⟨b,2,none⟩ v2).heap[b]?=some (.cells #[v0,v1,v2] ty (0,0)):=
 JO (JO (JO h))
theorem aZ.aec {P:Program} {f:FuncId} {args:List AV} (fj:s3 P f=true)
  (h: ∀(w:World) (vs:List Value),az (V2 (Env.wd w)) args vs→Calls P f vs.toArray w fun e w'=>e= .returned (.bool true)∧RowKit.Below w.heap.size w w'):aZ P f args (.bool true):=by
 refine⟨fj,fun E vs bB an ap=>(h E.w vs (ap.mono fun _ _ k=>k.wd an bB)).mono ?_⟩
 rintro e w' ⟨rfl,hb⟩
 have hk: ∀c,E.PA c→w'.heap[c]?=E.w.heap[c]?:=fun c hc=>hb.block c (an.du c hc)
 have hm:=fun b=>an.fresh b (Nat.zero_le _)
 refine⟨.bool true,.bool true,[],{E with w:=w'},rfl,.inr (.inr (.bool true)),rfl,bB,{an with
  heap:=fun b c NG=>by rw[(hm b).1] at NG;cases NG
  du:=fun c hc=>Nat.lt_of_lt_of_le (an.du c hc) hb.size
  fm:=fun c hc=>Nat.lt_of_lt_of_le (an.fm c hc) hb.size
  gb:=fun c hc=>Nat.lt_of_lt_of_le (an.gb c hc) hb.size
  fg:=fun c hc=>(an.fg c hc).same (hk c (an.dm c hc))},aL.bool true,?_⟩
 exact⟨⟨fun _ h=>h,fun _ h=>h,hk,fun c hc=>hk c (an.dm c hc),fun _=>Nat.le_refl _,fun _ _ h _=>⟨h,rfl,rfl⟩,fun _ _ h=>h⟩,hb.os,hb.tape,hb.output,hb.size,fun c hc _ _=>hb.block c hc,fun _ _ h=> .inl h,fun _ h=> .inl h,fun _ h=> .inl h,fun _ h=> .inl h⟩
def cH:List (Nat×aH):=[(22,.int),(23,.eg),(24,(.l .bool)),(27,.bool),(28,.ep),(29,.held),(37,.eg),(41,.ep),(42,.held),(53,.mQ),(55,.done),(57,.mQ),(120,.bG),(126,.bG),(129,(.l .bG)),(162,(.l .int))]
end Go.Proofs.YtejmihecgodhnaaGreat.Fw
set_option linter.unusedVariables false
set_option maxRecDepth 100000
set_option maxHeartbeats 4000000
set_option linter.unusedSimpArgs false
namespace Go.Proofs.YtejmihecgodhnaaGreat.Fw
open Go
attribute [local irreducible] evS evSD WpS Weak Oper.looksAt
section
variable (a0:(List Int)) (J aa:Int)
def Qe:Prop:=
 a0.length≤4611686018427387904→((decide ((IntKind.i64.wrap (J - (a0.length:Int)))<0))=true→(-1)=aa)∧((!(decide ((IntKind.i64.wrap (J - (a0.length:Int)))<0)))=true→(IntKind.i64.wrap (J - (a0.length:Int)))=aa)
theorem acv (ab:fE a0 J):aZ Tryz.prog 34 [bC cs a0,aE J] (aE (dG a0 J)):=(fun(h:Qe a0 J (dG a0 J))=>aZ.run (ps:=[(.l .int),.int]) (rs:=[.int]) (x:=(a0,J,())) (r:=((dG a0 J),())) ⟨12,cH,[]⟩ ⟨[],[],[],[],[]⟩ .nil Tryz.func34 h) (by
 unfold Qe
 exact fun ad=>El ab ad)
def Qf:cQ Tryz.prog:=⟨34,[(.l .int),.int],[.int],some fun x=>fE x.1 x.2.1,fun x=>((dG x.1 x.2.1),()),fun x h=>acv x.1 x.2.1 h⟩
end
section
variable (a0:(List cR)) (J aa:Int)
def Qg:Prop:=
 a0.length≤4611686018427387904→((decide ((IntKind.i64.wrap (J - (a0.length:Int)))<0))=true→(-1)=aa)∧((!(decide ((IntKind.i64.wrap (J - (a0.length:Int)))<0)))=true→(IntKind.i64.wrap (J - (a0.length:Int)))=aa)
theorem acw (ab:fE a0 J):aZ Tryz.prog 115 [bC dE a0,aE J] (aE (dG a0 J)):=(fun(h:Qg a0 J (dG a0 J))=>aZ.run (ps:=[(.l .bG),.int]) (rs:=[.int]) (x:=(a0,J,())) (r:=((dG a0 J),())) ⟨12,cH,[]⟩ ⟨[],[],[],[],[]⟩ .nil Tryz.func115 h) (by
 unfold Qg
 exact fun ad=>El ab ad)
def acx:cQ Tryz.prog:=⟨115,[(.l .bG),.int],[.int],some fun x=>fE x.1 x.2.1,fun x=>((dG x.1 x.2.1),()),fun x h=>acw x.1 x.2.1 h⟩
end
section
variable (a0:Way) (J aa:Int)
abbrev zT:=dG a0.cv (dG a0.bp (dG a0.ah J))
abbrev uJ:=dG a0.cK (zT a0 J)
def Qn:Prop:=
  ((decide ((uJ a0 J)<0))=true→(-1)=aa)∧((!(decide ((uJ a0 J)<0)))=true→(fE a0.eS (uJ a0 J))∧(((decide ((dG a0.eS (uJ a0 J))<0))=true→(-1)=aa)∧((!(decide ((dG a0.eS (uJ a0 J))<0)))=true→(dG a0.eS (uJ a0 J))=aa)))
def Qo:Prop:=
  ((decide ((dG a0.bp (dG a0.ah J))<0))=true→(-1)=aa)∧((!(decide ((dG a0.bp (dG a0.ah J))<0)))=true→(fE a0.cv (dG a0.bp (dG a0.ah J)))∧(((decide ((zT a0 J)<0))=true→(-1)=aa)∧((!(decide ((zT a0 J)<0)))=true→(fE a0.cK (zT a0 J))∧(Qn a0 J aa))))
def Qm:Prop:=
 (fE a0.ah J)∧(((decide ((dG a0.ah J)<0))=true→(-1)=aa)∧((!(decide ((dG a0.ah J)<0)))=true→(fE a0.bp (dG a0.ah J))∧(Qo a0 J aa)))
theorem acD (ab:fE a0 J):aZ Tryz.prog 85 [.agg (ej false a0),aE J] (aE (qD a0 J)):=(fun(h:Qm a0 J (qD a0 J))=>aZ.run (ps:=[.eg,.int]) (rs:=[.int]) (x:=(a0,J,())) (r:=((qD a0 J),())) ⟨36,cH,[Qf,acx]⟩ ⟨[],[],[],[],[]⟩ .nil Tryz.func85 h) (by
 unfold Qm Qo Qn uJ zT qD r8 dG
 have ab:0≤J∧J≤1048576:=ab
 refine⟨ab,oI (m:=a0.bp.length+a0.cv.length+a0.cK.length+a0.eS.length) ab (by omega) fun c k=>⟨k,?_⟩⟩
 rw[rH ab.1 c]
 refine oI (m:=a0.cv.length+a0.cK.length+a0.eS.length) ab (by omega) fun c k=>⟨k,?_⟩
 rw[rH ab.1 c]
 refine oI (m:=a0.cK.length+a0.eS.length) ab (by omega) fun c k=>⟨k,?_⟩
 rw[rH ab.1 c]
 refine oI (m:=a0.eS.length) ab (by omega) fun c k=>⟨k,?_⟩
 rw[rH ab.1 c]
 exact oI (m:=0) ab (by omega) fun c k=>rfl)
def acE:cQ Tryz.prog:=⟨85,[.eg,.int],[.int],some fun x=>fE x.1 x.2.1,fun x=>((qD x.1 x.2.1),()),fun x h=>acD x.1 x.2.1 h⟩
end
section
variable (ae:Int→Int→Prop) (ag:Int→Int→Nat) (a0:(List Way)) (J aa:Int)
def Ql:Prop:=
  ae (IntKind.i64.wrap (J - (a0.length:Int))) 0∧ ∀(v1:Int) (v5:Int),ae v1 v5→(((decide (v5<(a0.length:Int)))=false→v1=aa)∧((decide (v5<(a0.length:Int)))=true→(((0≤v5∧v5.toNat<a0.length)∧(fE (nth a0 v5) v1))∧((decide ((qD (nth a0 v5) v1)<0))=true→(-1)=aa))∧((!(decide ((qD (nth a0 v5) v1)<0)))=true→ae (qD (nth a0 v5) v1) (IntKind.i64.wrap (v5+1))∧ag (qD (nth a0 v5) v1) (IntKind.i64.wrap (v5+1))<ag v1 v5)))
def Qk (a0:(List Way)) (J:Int) (aa:Int) (ae:Int→Int→Prop) (ag:Int→Int→Nat):Prop:=
 a0.length≤4611686018427387904→((decide ((IntKind.i64.wrap (J - (a0.length:Int)))<0))=true→(-1)=aa)∧((!(decide ((IntKind.i64.wrap (J - (a0.length:Int)))<0)))=true→Ql ae ag a0 J aa)
theorem acB (ab:fE a0 J):aZ Tryz.prog 35 [bC (ej false) a0,aE J] (aE (x9 a0 J)):=(fun(ae:Int→Int→Prop) (ag:Int→Int→Nat) (h:Qk a0 J (x9 a0 J) ae ag)=>aZ.run (ps:=[(.l .eg),.int]) (rs:=[.int]) (x:=(a0,J,())) (r:=((x9 a0 J),())) ⟨27,cH,[acE]⟩ ⟨[14],[],[],[],[]⟩ (.lp [] [0] [] [.int,.int] [1,5] (fun aD=>[(1,.i .i64 aD.1),(5,.i .i64 aD.2.1)]) (fun aD=>ae aD.1 aD.2.1) (fun aD=>ag aD.1 aD.2.1) fun _=> .nil) Tryz.func35 h) (x6 a0 r8 J) (x7 a0) (by
 unfold Qk Ql
 exact fun ad=>K0 (g:=qD) (fun _ _=>rfl) ab ad)
def acC:cQ Tryz.prog:=⟨35,[(.l .eg),.int],[.int],some fun x=>fE x.1 x.2.1,fun x=>((x9 x.1 x.2.1),()),fun x h=>acB x.1 x.2.1 h⟩
end
section
variable (a0:(List Bool)) (J aa:Int)
def P9:Prop:=
 a0.length≤4611686018427387904→((decide ((IntKind.i64.wrap (J - (a0.length:Int)))<0))=true→(-1)=aa)∧((!(decide ((IntKind.i64.wrap (J - (a0.length:Int)))<0)))=true→(IntKind.i64.wrap (J - (a0.length:Int)))=aa)
theorem aco (ab:fE a0 J):aZ Tryz.prog 37 [bC aX a0,aE J] (aE (dG a0 J)):=(fun(h:P9 a0 J (dG a0 J))=>aZ.run (ps:=[(.l .bool),.int]) (rs:=[.int]) (x:=(a0,J,())) (r:=((dG a0 J),())) ⟨12,cH,[]⟩ ⟨[],[],[],[],[]⟩ .nil Tryz.func37 h) (by
 unfold P9
 exact fun ad=>El ab ad)
def IC:cQ Tryz.prog:=⟨37,[(.l .bool),.int],[.int],some fun x=>fE x.1 x.2.1,fun x=>((dG x.1 x.2.1),()),fun x h=>aco x.1 x.2.1 h⟩
end
section
variable (ae:Int→Int→Prop) (ag:Int→Int→Nat) (a0:(List (List Bool))) (J aa:Int)
def P8:Prop:=
  ae (IntKind.i64.wrap (J - (a0.length:Int))) 0∧ ∀(v1:Int) (v5:Int),ae v1 v5→(((decide (v5<(a0.length:Int)))=false→v1=aa)∧((decide (v5<(a0.length:Int)))=true→(((0≤v5∧v5.toNat<a0.length)∧(fE (nth a0 v5) v1))∧((decide ((dG (nth a0 v5) v1)<0))=true→(-1)=aa))∧((!(decide ((dG (nth a0 v5) v1)<0)))=true→ae (dG (nth a0 v5) v1) (IntKind.i64.wrap (v5+1))∧ag (dG (nth a0 v5) v1) (IntKind.i64.wrap (v5+1))<ag v1 v5)))
def P7 (a0:(List (List Bool))) (J:Int) (aa:Int) (ae:Int→Int→Prop) (ag:Int→Int→Nat):Prop:=
 a0.length≤4611686018427387904→((decide ((IntKind.i64.wrap (J - (a0.length:Int)))<0))=true→(-1)=aa)∧((!(decide ((IntKind.i64.wrap (J - (a0.length:Int)))<0)))=true→P8 ae ag a0 J aa)
theorem acm (ab:fE a0 J):aZ Tryz.prog 36 [bC (fM aX false) a0,aE J] (aE (tm a0 J)):=(fun(ae:Int→Int→Prop) (ag:Int→Int→Nat) (h:P7 a0 J (tm a0 J) ae ag)=>aZ.run (ps:=[(.l (.l .bool)),.int]) (rs:=[.int]) (x:=(a0,J,())) (r:=((tm a0 J),())) ⟨27,cH,[IC]⟩ ⟨[14],[],[],[],[]⟩ (.lp [] [0] [] [.int,.int] [1,5] (fun aD=>[(1,.i .i64 aD.1),(5,.i .i64 aD.2.1)]) (fun aD=>ae aD.1 aD.2.1) (fun aD=>ag aD.1 aD.2.1) fun _=> .nil) Tryz.func36 h) (x6 a0 List.length J) (x7 a0) (by
 unfold P7 P8
 exact fun ad=>K0 (g:=dG) (fun _ _=>rfl) ab ad)
def acn:cQ Tryz.prog:=⟨36,[(.l (.l .bool)),.int],[.int],some fun x=>fE x.1 x.2.1,fun x=>((tm x.1 x.2.1),()),fun x h=>acm x.1 x.2.1 h⟩
end
section
variable (a0:aV) (J aa:Int)
abbrev uI:=x9 a0.O (dG a0.bf J)
def Qi:Prop:=
  ((decide ((uI a0 J)<0))=true→(-1)=aa)∧((!(decide ((uI a0 J)<0)))=true→(fE a0.bk (uI a0 J))∧(((decide ((tm a0.bk (uI a0 J))<0))=true→(-1)=aa)∧((!(decide ((tm a0.bk (uI a0 J))<0)))=true→(tm a0.bk (uI a0 J))=aa)))
def Qh:Prop:=
 (fE a0.bf J)∧(((decide ((dG a0.bf J)<0))=true→(-1)=aa)∧((!(decide ((dG a0.bf J)<0)))=true→(fE a0.O (dG a0.bf J))∧(Qi a0 J aa)))
theorem acy (ab:fE a0 J):aZ Tryz.prog 6 [.agg (bV false a0),aE J] (aE (pI a0 J)):=(fun(h:Qh a0 J (pI a0 J))=>aZ.run (ps:=[.ef,.int]) (rs:=[.int]) (x:=(a0,J,())) (r:=((pI a0 J),())) ⟨24,cH,[Qf,acC,acn]⟩ ⟨[],[],[],[],[]⟩ .nil Tryz.func6 h) (by
 unfold Qh Qi uI pI kw dG x9 tm
 have ab:0≤J∧J≤1048576:=ab
 refine⟨ab,oI (m:=yo a0.O+tI a0.bk) ab (by omega) fun c k=>⟨k,?_⟩⟩
 rw[rH ab.1 c]
 refine oI (m:=tI a0.bk) ab (by omega) fun c k=>⟨k,?_⟩
 rw[rH ab.1 c]
 exact oI (m:=0) ab (by omega) fun c k=>rfl)
end
section
variable (a0 J a2:Int) (aa:Bool)
def agE:Prop:=
 ((decide (a0 ≥ J))&&(decide (a0≤a2)))=aa
theorem Kc:aZ Tryz.prog 41 [aE a0,aE J,aE a2] (aF (cc a0 J a2)):=(fun(h:agE a0 J a2 (cc a0 J a2))=>aZ.run (ps:=[.int,.int,.int]) (rs:=[.bool]) (x:=(a0,J,a2,())) (r:=((cc a0 J a2),())) ⟨15,cH,[]⟩ ⟨[],[],[],[],[]⟩ .nil Tryz.func41 h) (by
 rfl)
def AO:cQ Tryz.prog:=⟨41,[.int,.int,.int],[.bool],none,fun x=>((cc x.1 x.2.1 x.2.2.1),()),fun x h=>Kc x.1 x.2.1 x.2.2.1⟩
end
section
variable (ae:Int→Prop) (ag:Int→Nat) (a7:Int→Int→Prop) (aW:Int→Int→Nat) (a0 J:(List Int)) (aa:Bool) (v11:Int)
def Tl:Prop:=
  a7 v11 0∧ ∀(iu:Int),a7 v11 iu→(((decide (iu<(J.length:Int)))=false→ae (IntKind.i64.wrap (v11+1))∧ag (IntKind.i64.wrap (v11+1))<ag v11)∧((decide (iu<(J.length:Int)))=true→((0≤iu∧iu.toNat<J.length)∧(((nth a0 v11)==(nth J iu))=true→true=aa))∧((!((nth a0 v11)==(nth J iu)))=true→a7 v11 (IntKind.i64.wrap (iu+1))∧aW v11 (IntKind.i64.wrap (iu+1))<aW v11 iu)))
def Tk (a0:(List Int)) (J:(List Int)) (aa:Bool) (ae:Int→Prop) (ag:Int→Nat) (a7:Int→Int→Prop) (aW:Int→Int→Nat):Prop:=
 a0.length≤4611686018427387904→ae 0∧ ∀(v11:Int),ae v11→(((decide (v11<(a0.length:Int)))=false→false=aa)∧((decide (v11<(a0.length:Int)))=true→(0≤v11∧v11.toNat<a0.length)∧(J.length≤4611686018427387904→Tl ae ag a7 aW a0 J aa v11)))
theorem agL:aZ Tryz.prog 89 [bC cs a0,bC cs J] (aF (meets a0 J)):=(fun(ae:Int→Prop) (ag:Int→Nat) (a7:Int→Int→Prop) (aW:Int→Int→Nat) (h:Tk a0 J (meets a0 J) ae ag a7 aW)=>aZ.run (ps:=[(.l .int),(.l .int)]) (rs:=[.bool]) (x:=(a0,J,())) (r:=((meets a0 J),())) ⟨26,cH,[]⟩ ⟨[],[],[],[],[]⟩ (dZ [1,9,10] [] 11 ae ag fun aD=>(dZ [1,6,9,10,11,15,16] [] 17 (a7 aD) (aW aD) fun _=> .nil)) Tryz.func89 h) (cj a0.length (fun j=>fZ J (nth a0 j))) (cB a0.length) (fun v=>cj J.length (fun k=>nth a0 v==nth J k)) (fun v=>cB J.length) (by
 unfold Tk Tl
 intro ad
 refine⟨dp (c9 _),fun v aR=>⟨fun hv=> ?_,fun hv=>⟨cy aR hv,fun hm=>⟨dp (c9 _),fun k hK=>⟨fun hk=> ?_,fun hk=>⟨⟨cy hK hk,fun ab=> ?_⟩,fun ab=>df (c2 hm) hK hk (not_eq ab)⟩⟩⟩⟩⟩⟩
 ·exact(A4 (q:=fun x=>fZ J x) aR hv).symm
 ·exact df (c2 ad) aR hv (YL (gp hK hk))
 ·exact(Eu (q:=fun x=>fZ J x) aR hv (YN (cy hK hk).2 ab)).symm)
def Ke:cQ Tryz.prog:=⟨89,[(.l .int),(.l .int)],[.bool],none,fun x=>((meets x.1 x.2.1),()),fun x h=>agL x.1 x.2.1⟩
end
section
variable (ae:(List Int)→Int→Prop) (ag:(List Int)→Int→Nat) (a0 aa:(List Int))
def Qy:Prop:=
  ae (List.replicate (a0.length:Int).toNat (0:Int)) 0∧ ∀(aA:(List Int)) (v4:Int),ae aA v4→(((decide (v4<(a0.length:Int)))=false→aA.length≤4611686018427387904∧aA=aa)∧((decide (v4<(a0.length:Int)))=true→((0≤v4∧v4.toNat<a0.length)∧((0≤v4∧v4.toNat<aA.length)∧(v4.toNat<aA.length)))∧(ae (aA.set v4.toNat (nth a0 v4)) (IntKind.i64.wrap (v4+1))∧ag (aA.set v4.toNat (nth a0 v4)) (IntKind.i64.wrap (v4+1))<ag aA v4)))
def Qx (a0:(List Int)) (aa:(List Int)) (ae:(List Int)→Int→Prop) (ag:(List Int)→Int→Nat):Prop:=
 (a0.length≤4611686018427387904→0≤(a0.length:Int)∧8*(a0.length:Int)≤140737488355328∧(a0.length:Int)≤4611686018427387904)∧(a0.length≤4611686018427387904→Qy ae ag a0 aa)
theorem acO (ab:small a0):aZ Tryz.prog 43 [bC cs a0] (oT cs (aI a0)):=(fun(ae:(List Int)→Int→Prop) (ag:(List Int)→Int→Nat) (h:Qx a0 (aI a0) ae ag)=>aZ.run (ps:=[(.l .int)]) (rs:=[(.l .int)]) (x:=(a0,())) (r:=((aI a0),())) ⟨22,cH,[]⟩ ⟨[10],[],[],[],[]⟩ (.lp [] [0] [] [(.l .int),.int] [br 0,4] (fun aD=>[(3,.ref 0 0 aD.1.length false),(4,.i .i64 aD.2.1),(br 0,.blk 0 .int aD.1 _ rfl)]) (fun aD=>ae aD.1 aD.2.1) (fun aD=>ag aD.1 aD.2.1) fun _=> .nil) Tryz.func43 h) (nu a0 (fun x=>x) (0:Int)) (od a0) (by
 unfold Qx Qy
 have ab:a0.length≤1048576:=ab
 exact⟨fun ad=>⟨c9 _,by omega,by omega⟩,fun ad=>B8 (f:=fun x=>x) ad (by simp[aI])⟩)
def Qz:cQ Tryz.prog:=⟨43,[(.l .int)],[(.l .int)],some fun x=>small x.1,fun x=>((aI x.1),()),fun x h=>acO x.1 h⟩
end
section
variable (a0 aa:cR)
def acR:Prop:=
 (a0.bd=aa.bd)∧(a0.bG=aa.bG)
theorem acS:aZ Tryz.prog 131 [.agg (dE a0)] (.agg (dE (aI a0))):=(fun(h:acR a0 (aI a0))=>aZ.run (ps:=[.bG]) (rs:=[.bG]) (x:=(a0,())) (r:=((aI a0),())) ⟨11,cH,[]⟩ ⟨[],[],[],[],[]⟩ .nil Tryz.func131 h) (by
 exact⟨rfl,rfl⟩)
def acT:cQ Tryz.prog:=⟨131,[.bG],[.bG],none,fun x=>((aI x.1),()),fun x h=>acS x.1⟩
end
section
variable (ae:(List cR)→Int→Prop) (ag:(List cR)→Int→Nat) (a0 aa:(List cR))
def QB:Prop:=
  ae (List.replicate (a0.length:Int).toNat ({bd:=(0:Int),bG:=(0:Int)}:cR)) 0∧ ∀(aA:(List cR)) (v4:Int),ae aA v4→(((decide (v4<(a0.length:Int)))=false→aA.length≤4611686018427387904∧aA=aa)∧((decide (v4<(a0.length:Int)))=true→((0≤v4∧v4.toNat<a0.length)∧((0≤v4∧v4.toNat<aA.length)∧(v4.toNat<aA.length)))∧(ae (aA.set v4.toNat (aI (nth a0 v4))) (IntKind.i64.wrap (v4+1))∧ag (aA.set v4.toNat (aI (nth a0 v4))) (IntKind.i64.wrap (v4+1))<ag aA v4)))
def QA (a0:(List cR)) (aa:(List cR)) (ae:(List cR)→Int→Prop) (ag:(List cR)→Int→Nat):Prop:=
 (a0.length≤4611686018427387904→0≤(a0.length:Int)∧16*(a0.length:Int)≤140737488355328∧(a0.length:Int)≤4611686018427387904)∧(a0.length≤4611686018427387904→QB ae ag a0 aa)
theorem acP (ab:small a0):aZ Tryz.prog 116 [bC dE a0] (oT dE (aI a0)):=(fun(ae:(List cR)→Int→Prop) (ag:(List cR)→Int→Nat) (h:QA a0 (aI a0) ae ag)=>aZ.run (ps:=[(.l .bG)]) (rs:=[(.l .bG)]) (x:=(a0,())) (r:=((aI a0),())) ⟨23,cH,[acT]⟩ ⟨[10],[],[],[],[]⟩ (.lp [] [0] [] [(.l .bG),.int] [br 0,4] (fun aD=>[(3,.ref 0 0 aD.1.length false),(4,.i .i64 aD.2.1),(br 0,.blk 0 .bG aD.1 _ rfl)]) (fun aD=>ae aD.1 aD.2.1) (fun aD=>ag aD.1 aD.2.1) fun _=> .nil) Tryz.func116 h) (nu a0 (aI) ({bd:=(0:Int),bG:=(0:Int)}:cR)) (od a0) (by
 unfold QA QB
 have ab:a0.length≤1048576:=ab
 exact⟨fun ad=>⟨c9 _,by omega,by omega⟩,fun ad=>B8 (f:=aI) ad (z1 _)⟩)
def acQ:cQ Tryz.prog:=⟨116,[(.l .bG)],[(.l .bG)],some fun x=>small x.1,fun x=>((aI x.1),()),fun x h=>acP x.1 h⟩
end
section
variable (a0 aa:Way)
def QI:Prop:=
 (small a0.ah)∧((small a0.bp)∧((small a0.cv)∧((small a0.cK)∧((small a0.eS)∧(((aI a0.ah)=aa.ah)∧((aI a0.bp)=aa.bp)∧((aI a0.cv)=aa.cv)∧((aI a0.cK)=aa.cK)∧((aI a0.eS)=aa.eS))))))
theorem ac2 (ab:AN a0):aZ Tryz.prog 90 [.agg (ej false a0)] (.agg (ej true (aI a0))):=(fun(h:QI a0 (aI a0))=>aZ.run (ps:=[.eg]) (rs:=[.eg]) (x:=(a0,())) (r:=((aI a0),())) ⟨25,cH,[Qz,acQ]⟩ ⟨[],[],[],[],[]⟩ .nil Tryz.func90 h) (by
 have ab:a0.ah.length+a0.bp.length+a0.cv.length+a0.cK.length+a0.eS.length≤1048576:=ab
 unfold QI small
 exact⟨by omega,by omega,by omega,by omega,by omega,rfl,rfl,rfl,rfl,rfl⟩)
def ac3:cQ Tryz.prog:=⟨90,[.eg],[.eg],some fun x=>AN x.1,fun x=>((aI x.1),()),fun x h=>ac2 x.1 h⟩
end
section
variable (ae:(List Way)→Int→Prop) (ag:(List Way)→Int→Nat) (a0 aa aA:(List Way)) (v4:Int)
def QG:Prop:=
  ((decide (v4<(a0.length:Int)))=false→aA.length≤4611686018427387904∧aA=aa)∧((decide (v4<(a0.length:Int)))=true→((0≤v4∧v4.toNat<a0.length)∧((AN (nth a0 v4))∧((0≤v4∧v4.toNat<aA.length)∧(v4.toNat<aA.length))))∧(ae (aA.set v4.toNat (aI (nth a0 v4))) (IntKind.i64.wrap (v4+1))∧ag (aA.set v4.toNat (aI (nth a0 v4))) (IntKind.i64.wrap (v4+1))<ag aA v4))
def QH:Prop:=
  (a0.length≤4611686018427387904→0≤(a0.length:Int)∧120*(a0.length:Int)≤140737488355328∧(a0.length:Int)≤4611686018427387904)∧(a0.length≤4611686018427387904→ae (List.replicate (a0.length:Int).toNat ({ah:=([]:(List Int)),bp:=([]:(List cR)),cv:=([]:(List cR)),cK:=([]:(List Int)),eS:=([]:(List Int))}:Way)) 0∧ ∀(aA:(List Way)) (v4:Int),ae aA v4→(QG ae ag a0 aa aA v4))
def QF (a0:(List Way)) (aa:(List Way)) (ae:(List Way)→Int→Prop) (ag:(List Way)→Int→Nat):Prop:=
 QH ae ag a0 aa
theorem ac0 (ab:D4 a0):aZ Tryz.prog 44 [bC (ej false) a0] (oT (ej false) (aI a0)):=(fun(ae:(List Way)→Int→Prop) (ag:(List Way)→Int→Nat) (h:QF a0 (aI a0) ae ag)=>aZ.run (ps:=[(.l .eg)]) (rs:=[(.l .eg)]) (x:=(a0,())) (r:=((aI a0),())) ⟨23,cH,[ac3]⟩ ⟨[10],[],[],[],[]⟩ (.lp [] [0] [] [(.l .eg),.int] [br 0,4] (fun aD=>[(3,.ref 0 0 aD.1.length false),(4,.i .i64 aD.2.1),(br 0,.blk 0 .eg aD.1 _ rfl)]) (fun aD=>ae aD.1 aD.2.1) (fun aD=>ag aD.1 aD.2.1) fun _=> .nil) Tryz.func44 h) (nu a0 aI ({ah:=([]:(List Int)),bp:=([]:(List cR)),cv:=([]:(List cR)),cK:=([]:(List Int)),eS:=([]:(List Int))}:Way)) (od a0) (by
 unfold QF QH QG
 have ab:a0.length+(a0.map r8).sum≤1048576:=ab
 refine⟨fun ad=>⟨c9 _,by omega,by omega⟩,fun ad=>B7 (f:=aI) (φ:=fun v=>AN (nth a0 v)) ad (z1 _) fun v _ hv=> ?_⟩
 have:=z7 r8 (eP hv)
 unfold AN;omega)
def ac1:cQ Tryz.prog:=⟨44,[(.l .eg)],[(.l .eg)],some fun x=>D4 x.1,fun x=>((aI x.1),()),fun x h=>ac0 x.1 h⟩
end
section
variable (ae:(List Bool)→Int→Prop) (ag:(List Bool)→Int→Nat) (a0 aa:(List Bool))
def Qs:Prop:=
  ae (List.replicate (a0.length:Int).toNat false) 0∧ ∀(aA:(List Bool)) (v4:Int),ae aA v4→(((decide (v4<(a0.length:Int)))=false→aA.length≤4611686018427387904∧aA=aa)∧((decide (v4<(a0.length:Int)))=true→((0≤v4∧v4.toNat<a0.length)∧((0≤v4∧v4.toNat<aA.length)∧(v4.toNat<aA.length)))∧(ae (aA.set v4.toNat (nth a0 v4)) (IntKind.i64.wrap (v4+1))∧ag (aA.set v4.toNat (nth a0 v4)) (IntKind.i64.wrap (v4+1))<ag aA v4)))
def Qr (a0:(List Bool)) (aa:(List Bool)) (ae:(List Bool)→Int→Prop) (ag:(List Bool)→Int→Nat):Prop:=
 (a0.length≤4611686018427387904→0≤(a0.length:Int)∧1*(a0.length:Int)≤140737488355328∧(a0.length:Int)≤4611686018427387904)∧(a0.length≤4611686018427387904→Qs ae ag a0 aa)
theorem acH (ab:small a0):aZ Tryz.prog 46 [bC aX a0] (oT aX (aI a0)):=(fun(ae:(List Bool)→Int→Prop) (ag:(List Bool)→Int→Nat) (h:Qr a0 (aI a0) ae ag)=>aZ.run (ps:=[(.l .bool)]) (rs:=[(.l .bool)]) (x:=(a0,())) (r:=((aI a0),())) ⟨22,cH,[]⟩ ⟨[10],[],[],[],[]⟩ (.lp [] [0] [] [(.l .bool),.int] [br 0,4] (fun aD=>[(3,.ref 0 0 aD.1.length false),(4,.i .i64 aD.2.1),(br 0,.blk 0 .bool aD.1 _ rfl)]) (fun aD=>ae aD.1 aD.2.1) (fun aD=>ag aD.1 aD.2.1) fun _=> .nil) Tryz.func46 h) (nu a0 (fun x=>x) false) (od a0) (by
 unfold Qr Qs
 have ab:a0.length≤1048576:=ab
 exact⟨fun ad=>⟨c9 _,by omega,by omega⟩,fun ad=>B8 (f:=fun x=>x) ad (by simp[aI])⟩)
def ID:cQ Tryz.prog:=⟨46,[(.l .bool)],[(.l .bool)],some fun x=>small x.1,fun x=>((aI x.1),()),fun x h=>acH x.1 h⟩
end
section
variable (ae:(List (List Bool))→Int→Prop) (ag:(List (List Bool))→Int→Nat) (a0 aa aA:(List (List Bool))) (v4:Int)
def Qq:Prop:=
  ((decide (v4<(a0.length:Int)))=false→aA.length≤4611686018427387904∧aA=aa)∧((decide (v4<(a0.length:Int)))=true→((0≤v4∧v4.toNat<a0.length)∧((small (nth a0 v4))∧((0≤v4∧v4.toNat<aA.length)∧(v4.toNat<aA.length))))∧(ae (aA.set v4.toNat (aI (nth a0 v4))) (IntKind.i64.wrap (v4+1))∧ag (aA.set v4.toNat (aI (nth a0 v4))) (IntKind.i64.wrap (v4+1))<ag aA v4))
def Qp (a0:(List (List Bool))) (aa:(List (List Bool))) (ae:(List (List Bool))→Int→Prop) (ag:(List (List Bool))→Int→Nat):Prop:=
 (a0.length≤4611686018427387904→0≤(a0.length:Int)∧24*(a0.length:Int)≤140737488355328∧(a0.length:Int)≤4611686018427387904)∧(a0.length≤4611686018427387904→ae (List.replicate (a0.length:Int).toNat ([]:(List Bool))) 0∧ ∀(aA:(List (List Bool))) (v4:Int),ae aA v4→(Qq ae ag a0 aa aA v4))
theorem acF (ab:D1 a0):aZ Tryz.prog 45 [bC (fM aX false) a0] (oT (fM aX false) (aI a0)):=(fun(ae:(List (List Bool))→Int→Prop) (ag:(List (List Bool))→Int→Nat) (h:Qp a0 (aI a0) ae ag)=>aZ.run (ps:=[(.l (.l .bool))]) (rs:=[(.l (.l .bool))]) (x:=(a0,())) (r:=((aI a0),())) ⟨23,cH,[ID]⟩ ⟨[10],[],[],[],[]⟩ (.lp [] [0] [] [(.l (.l .bool)),.int] [br 0,4] (fun aD=>[(3,.ref 0 0 aD.1.length false),(4,.i .i64 aD.2.1),(br 0,.blk 0 (.l .bool) aD.1 _ rfl)]) (fun aD=>ae aD.1 aD.2.1) (fun aD=>ag aD.1 aD.2.1) fun _=> .nil) Tryz.func45 h) (nu a0 aI ([]:(List Bool))) (od a0) (by
 unfold Qp Qq
 have ab:a0.length+(a0.map List.length).sum≤1048576:=ab
 refine⟨fun ad=>⟨c9 _,by omega,by omega⟩,fun ad=>B7 (f:=aI) (φ:=fun v=>small (nth a0 v)) ad (z1 _) fun v _ hv=> ?_⟩
 have:=z7 List.length (eP hv)
 unfold small;omega)
def acG:cQ Tryz.prog:=⟨45,[(.l (.l .bool))],[(.l (.l .bool))],some fun x=>D1 x.1,fun x=>((aI x.1),()),fun x h=>acF x.1 h⟩
end
section
variable (a0 aa:aV)
def QC:Prop:=
 (small a0.bf)∧((D4 a0.O)∧((D1 a0.bk)∧((a0.ah=aa.ah)∧((aI a0.bf)=aa.bf)∧((aI a0.O)=aa.O)∧((aI a0.bk)=aa.bk)∧(a0.cY=aa.cY))))
theorem acU (ab:JZ a0):aZ Tryz.prog 9 [.agg (bV false a0)] (.agg (bV true (aI a0))):=(fun(h:QC a0 (aI a0))=>aZ.run (ps:=[.ef]) (rs:=[.ef]) (x:=(a0,())) (r:=((aI a0),())) ⟨23,cH,[Qz,ac1,acG]⟩ ⟨[],[],[],[],[]⟩ .nil Tryz.func9 h) (by
 have ab:a0.bf.length+yo a0.O+tI a0.bk≤1048576:=ab
 unfold QC small D4 D1
 exact⟨by omega,by omega,by omega,rfl,rfl,rfl,rfl,rfl⟩)
end
section
variable (a0:(List Int)) (J aa:Int) (ae:Int→Prop) (ag:Int→Nat)
def SV:Prop:=
 a0.length≤4611686018427387904→ae 0∧ ∀(dH:Int),ae dH→(((decide (dH<(a0.length:Int)))=false→(-1)=aa)∧((decide (dH<(a0.length:Int)))=true→((0≤dH∧dH.toNat<a0.length)∧((J==(nth a0 dH))=true→dH=aa))∧((!(J==(nth a0 dH)))=true→ae (IntKind.i64.wrap (dH+1))∧ag (IntKind.i64.wrap (dH+1))<ag dH)))
theorem agn:aZ Tryz.prog 123 [bC cs a0,aE J] (aE (mV a0 J)):=(fun(ae:Int→Prop) (ag:Int→Nat) (h:SV a0 J (mV a0 J) ae ag)=>aZ.run (ps:=[(.l .int),.int]) (rs:=[.int]) (x:=(a0,J,())) (r:=((mV a0 J),())) ⟨19,cH,[]⟩ ⟨[],[],[],[],[]⟩ (dZ [0,1,7] [] 8 ae ag fun _=> .nil) Tryz.func123 h) (cj a0.length (fun j=>J==nth a0 j)) (cB a0.length) (by
 unfold SV
 intro ad
 refine⟨dp (c9 _),fun v aR=>⟨fun hv=> ?_,fun hv=>⟨⟨cy aR hv,fun ab=> ?_⟩,fun ab=>df (c2 ad) aR hv (not_eq ab)⟩⟩⟩
 ·unfold mV;rw[pL (q:=fun x=>J==x) aR hv];rfl
 ·unfold mV;rw[pK (q:=fun x=>J==x) aR hv ab]
  have:=aR.1
  show v=(v.toNat:Int)
  omega)
def SW:cQ Tryz.prog:=⟨123,[(.l .int),.int],[.int],none,fun x=>((mV x.1 x.2.1),()),fun x h=>agn x.1 x.2.1⟩
end
section
variable (a0:(List Int)) (J:Int) (aa:Bool)
def SK:Prop:=
 (decide ((mV a0 J) ≥ 0))=aa
theorem af9:aZ Tryz.prog 97 [bC cs a0,aE J] (aF (fZ a0 J)):=(fun(h:SK a0 J (fZ a0 J))=>aZ.run (ps:=[(.l .int),.int]) (rs:=[.bool]) (x:=(a0,J,())) (r:=((fZ a0 J),())) ⟨9,cH,[SW]⟩ ⟨[],[],[],[],[]⟩ .nil Tryz.func97 h) (by
 unfold SK
 exact aag a0 J)
def D0:cQ Tryz.prog:=⟨97,[(.l .int),.int],[.bool],none,fun x=>((fZ x.1 x.2.1),()),fun x h=>af9 x.1 x.2.1⟩
end
section
variable (a0 J:(List Int)) (aa:Bool) (ae:Int→Prop) (ag:Int→Nat)
def OY:Prop:=
 a0.length≤4611686018427387904→ae 0∧ ∀(v9:Int),ae v9→(((decide (v9<(a0.length:Int)))=false→false=aa)∧((decide (v9<(a0.length:Int)))=true→((0≤v9∧v9.toNat<a0.length)∧((fZ J (nth a0 v9))=true→true=aa))∧((!(fZ J (nth a0 v9)))=true→ae (IntKind.i64.wrap (v9+1))∧ag (IntKind.i64.wrap (v9+1))<ag v9)))
theorem aaN:aZ Tryz.prog 96 [bC cs a0,bC cs J] (aF (meets a0 J)):=(fun(ae:Int→Prop) (ag:Int→Nat) (h:OY a0 J (meets a0 J) ae ag)=>aZ.run (ps:=[(.l .int),(.l .int)]) (rs:=[.bool]) (x:=(a0,J,())) (r:=((meets a0 J),())) ⟨17,cH,[D0]⟩ ⟨[],[],[],[],[]⟩ (dZ [1,7,8] [] 9 ae ag fun _=> .nil) Tryz.func96 h) (cj a0.length (fun j=>fZ J (nth a0 j))) (cB a0.length) (by
 unfold OY
 intro ad
 refine⟨dp (c9 _),fun v aR=>⟨fun hv=> ?_,fun hv=>⟨⟨cy aR hv,fun ab=> ?_⟩,fun ab=>df (c2 ad) aR hv (not_eq ab)⟩⟩⟩
 ·exact(A4 (q:=fun x=>fZ J x) aR hv).symm
 ·exact(Eu (q:=fun x=>fZ J x) aR hv ab).symm)
def HZ:cQ Tryz.prog:=⟨96,[(.l .int),(.l .int)],[.bool],none,fun x=>((meets x.1 x.2.1),()),fun x h=>aaN x.1 x.2.1⟩
end
section
variable (a0 aa:(List cR))
abbrev JT:=a0.length*16≤140737488355328∧a0.length≤4611686018427387904
noncomputable def afX:Code:=j2 Tryz.f124
def JS:Prop:=
 (a0≠[]→(JT a0)∧(a0=aa))∧(a0=[]→ ∀b2:Bool,(b2=true→[]=aa)∧(b2=false→(JT a0)∧(a0=aa)))
theorem afY (h:JS a0 aa):dg Tryz.prog 124 [bC dE a0] [] (fun r H=>r=aU 0 0 aa.length∧H=[⟨0,2,List.map dE aa⟩]):=by
 refine dg.toOwn ?_
 unfold JS at h
 refine dg.go (fn:=Tryz.f124) [(0,bC dE a0)] Tryz.func124 (fun _ _=> ?_)
 show WpS _ (bJ afX 1) _ ⟨bu 8 [(0,bC dE a0)],[],[]⟩
 refine jo [] 0 [(2,ds)] [] [1] ?_
 refine ko ?_
 refine ko ?_
 refine cr [] 1 ?_
 refine JH 2 (some 4) [(3,bC dE a0)] dE a0 (fun hx=> ?_) (fun hx b2=> ?_)
 ·
  replace h:=h.1 hx
  refine gG [] ?_
  refine eE.normal ?_
  refine sl (.tmp 4) false (fun q3=> ?_) (fun q3=> ?_)
  ·
   cases q3
  ·
   refine gj ?_
   refine eE.normal ?_
   obtain⟨cF,h⟩:=h
   refine lz ⟨(bu 8 [(2,aU 0 0 a0.length)]),[],[⟨0,2,List.map dE a0⟩]⟩ (True) ?_ (fun q4=> ?_)
   ·
    replace h:=cF
    refine cr [] 3 ?_
    have cP:=h
    refine td 3 (some 7) [(6,bC dE a0),(5,ds)] dE a0 (lO false (List.map dE a0)) 0 2 16 (fun r=>[⟨0,2,r⟩]) rfl cP ?_
    exact c_ [(2,aU 0 0 a0.length)] trivial
   refine j3 ?_
   refine m6 (aU 0 0 a0.length) [aU 0 0 a0.length] ?_
   exact⟨oD [some 0],qq [some 0] rfl (by decide) ⟨rfl,(nU (b:=0) (g:=0) (sz:=2) (xs:=a0) (ys:=aa) rfl Rn h),trivial⟩,(.inr (uX (by simp) rfl rfl (by have:=congrArg List.length h;simpa using this)))⟩
 ·
  replace h:=h.2 hx b2
  refine gG [] ?_
  refine eE.normal ?_
  refine sl (.tmp 4) b2 (fun hS=> ?_) (fun hS=> ?_)
  ·
   replace h:=h.1 hS
   refine lz ⟨(bu 8 [(2,ds)]),[],[]⟩ (True) ?_ (fun ky=> ?_)
   ·
    refine cr [] 2 ?_
    exact c_ [(2,ds)] trivial
   refine j3 ?_
   refine eE.ret ?_
   refine m6 (ds) [ds] ?_
   exact⟨oD [none],qq [none] rfl (by decide) ⟨rfl,trivial,trivial⟩,(.inr (I7 (by simp) rfl rfl (by rw[←h];rfl)))⟩
  ·
   replace h:=h.2 hS
   refine gj ?_
   refine eE.normal ?_
   obtain⟨lM,h⟩:=h
   refine lz ⟨(bu 8 [(2,aU 0 0 a0.length)]),[],[⟨0,2,List.map dE a0⟩]⟩ (True) ?_ (fun lN=> ?_)
   ·
    replace h:=lM
    refine cr [] 3 ?_
    have iq:=h
    refine td 3 (some 7) [(6,bC dE a0),(5,ds)] dE a0 (lO false (List.map dE a0)) 0 2 16 (fun r=>[⟨0,2,r⟩]) rfl iq ?_
    exact c_ [(2,aU 0 0 a0.length)] trivial
   refine j3 ?_
   refine m6 (aU 0 0 a0.length) [aU 0 0 a0.length] ?_
   exact⟨oD [some 0],qq [some 0] rfl (by decide) ⟨rfl,(nU (b:=0) (g:=0) (sz:=2) (xs:=a0) (ys:=aa) rfl Rn h),trivial⟩,(.inr (uX (by simp) rfl rfl (by have:=congrArg List.length h;simpa using this)))⟩
theorem afW (ab:small a0):dg Tryz.prog 124 [bC dE a0] [] (fun r H=>r=aU 0 0 (aI a0).length∧H=[⟨0,2,List.map dE (aI a0)⟩]):=afY a0 (aI a0) (by
 have ab:a0.length≤1048576:=ab
 unfold JS JT
 refine⟨fun h=>⟨⟨by omega,by omega⟩,rfl⟩,fun h b=>⟨fun _=> ?_,fun _=>⟨⟨by omega,by omega⟩,rfl⟩⟩⟩
 exact h.symm)
end
section
variable (a0:Way) (aa:(List cR))
abbrev ux:=(aI a0.bp)++a0.cv
noncomputable def OZ:Code:=j2 Tryz.f98
def aaP:List Item:=[dd 0,dd 1,dd 3,dd 4,⟨2,true,false,[3,4]⟩,⟨5,true,false,[]⟩,dd 6]
def aaQ:List (List Nat):=[[],[0],[0,1],[],[3],rg 0 5,rg 0 6]
def H0:Prop:=
 ((small a0.bp)∧(((aI a0.bp).length+a0.cv.length)*16≤140737488355328∧(aI a0.bp).length+a0.cv.length≤4611686018427387904))∧((ux a0).length≤4611686018427387904∧(ux a0)=aa)
theorem aaR (h:H0 a0 aa):aZ Tryz.prog 98 [.agg (ej false a0)] (oT dE aa):=by
 unfold H0 at h
 refine dg.go (fn:=Tryz.f98) [(0,.agg (ej false a0))] Tryz.func98 (fun _ _=> ?_)
 show WpS _ (bJ OZ 1) _ ⟨bu 9 [(0,.agg (ej false a0))],[],[]⟩
 refine v_ [] 0 [(2,ds),(1,bz 1 0)] [0,1,1] [] [(1,(ej false a0))] [] ?_
 obtain⟨cP,h⟩:=h
 refine ih [(2,aU 0 1 (ux a0).length)] [] id (fun _=>[⟨1,2,List.map dE (ux a0)⟩]) (True) ?_ (fun q2=> ?_)
 ·
  replace h:=cP
  refine ta [] 1 aaP aaQ [] ?_
  obtain⟨q3,h⟩:=h
  refine K6 5 (some 5) [(7,bC dE a0.cv),(6,bz 1 2),(4,bC dE a0.bp),(3,bz 1 1)] [bC dE a0.bp] (fun L H=>wu Tryz.prog (kh OZ 6) [3,4] [(7,bC dE a0.cv),(6,bz 1 2),(4,bC dE a0.bp),(3,bz 1 1),(1,bz 1 0)] L H) (aU 0 0 (aI a0.bp).length) [⟨0,2,List.map dE (aI a0.bp)⟩] (afW a0.bp q3) (az.cons (ew.jS gm) az.nil) (uY (fun _=>rfl) rfl) (xO (vi (fun _=>rfl) rfl) (by kernel_rfl)) (I5 (ψ:=((true=true∧true=true∧((bz 1 2:AV)=bz 1 2))∧((true=true∧true=true∧((bC dE a0.cv:AV)=bC dE a0.cv))∧True))) (by kernel_rfl) ⟨⟨rfl,rfl,rfl⟩,⟨⟨rfl,rfl,rfl⟩,trivial⟩⟩) ?_
  have q4:=h
  refine ahM 1 (some 8) [] dE (aI a0.bp) a0.cv (lO false (List.map dE a0.cv)) 0 0 2 16 (fun _=>True) (fun r=>[⟨1,2,r⟩]) rfl q4 trivial ?_
  exact lR [(2,aU 0 1 (ux a0).length)] trivial
 exact j3 (xG (aU 0 1 (ux a0).length) (j0.jS (Ef (sz:=2) (by simp) rfl (L8) h)))
theorem aaO (ab:Am a0):aZ Tryz.prog 98 [.agg (ej false a0)] (oT dE (bS a0)):=aaR a0 (bS a0) (by
 obtain⟨h1,h2⟩:=ab
 unfold H0 ux aI small
 exact⟨⟨h1,by omega,by omega⟩,by rw[List.length_append];omega,rfl⟩)
def H2:cQ Tryz.prog:=⟨98,[.eg],[(.l .bG)],some fun x=>Am x.1,fun x=>((bS x.1),()),fun x h=>aaO x.1 h⟩
end
section
variable (ae:Int→Prop) (ag:Int→Nat) (a0:(List Int)) (aa:Bool)
def abk:List Item:=(List.range 8).map dd
def abl:List (List Nat):=[[],[],[0,1],[],[],[3,4],[3,4,5],rg 0 7]
def Pk:Prop:=
  a0.length≤4611686018427387904→ae 0∧ ∀(v6:Int),ae v6→(((decide (v6<(a0.length:Int)))=false→false=aa)∧((decide (v6<(a0.length:Int)))=true→(((0≤v6∧v6≤(a0.length:Int))∧(0≤v6∧v6.toNat<a0.length))∧((fZ (a0.take v6.toNat) (nth a0 v6))=true→true=aa))∧((!(fZ (a0.take v6.toNat) (nth a0 v6)))=true→ae (IntKind.i64.wrap (v6+1))∧ag (IntKind.i64.wrap (v6+1))<ag v6)))
def Pj (a0:(List Int)) (aa:Bool) (ae:Int→Prop) (ag:Int→Nat):Prop:=
 Pk ae ag a0 aa
theorem abi:aZ Tryz.prog 137 [bC cs a0] (aF (dup a0)):=(fun(ae:Int→Prop) (ag:Int→Nat) (h:Pj a0 (dup a0) ae ag)=>aZ.run (ps:=[(.l .int)]) (rs:=[.bool]) (x:=(a0,())) (r:=((dup a0),())) ⟨18,cH,[D0]⟩ ⟨[],[(4,abk,abl)],[],[],[]⟩ (dZ [0,5] [] 6 ae ag fun _=> .nil) Tryz.func137 h) (cj a0.length (fun j=>fZ (a0.take j.toNat) (nth a0 j))) (cB a0.length) (by
 unfold Pj Pk
 intro ad
 refine⟨dp (c9 _),fun v aR=>⟨fun hv=> ?_,fun hv=>⟨⟨⟨⟨aR.1,aR.2.1⟩,cy aR hv⟩,fun ab=> ?_⟩,fun ab=>df (c2 ad) aR hv (not_eq ab)⟩⟩⟩
 ·exact(Mx (gp aR hv)).symm
 ·exact(WU (cy aR hv).1 (cy aR hv).2 ab).symm)
def abj:cQ Tryz.prog:=⟨137,[(.l .int)],[.bool],none,fun x=>((dup x.1),()),fun x h=>abi x.1⟩

end
section
variable (ae:Int→Prop) (ag:Int→Nat) (a0 J:(List Int)) (aa:Bool)
def abZ:List Item:=(List.range 9).map dd
def ab0:List (List Nat):=[[],[],[0,1],[0,1,2],[],[],[4,5],[4,5,6],rg 0 8]
def PT:Prop:=
  ((a0.length≤4611686018427387904)∧(J.length≤4611686018427387904)→((a0.length:Int) !=(J.length:Int))=true→false=aa)∧((a0.length≤4611686018427387904)∧(J.length≤4611686018427387904)∧((!((a0.length:Int) !=(J.length:Int)))=true)→ae 0∧ ∀(v5:Int),ae v5→(((decide (v5<(a0.length:Int)))=false→true=aa)∧((decide (v5<(a0.length:Int)))=true→(((0≤v5∧v5.toNat<a0.length)∧(0≤v5∧v5.toNat<J.length))∧(((nth a0 v5) !=(nth J v5))=true→false=aa))∧((!((nth a0 v5) !=(nth J v5)))=true→ae (IntKind.i64.wrap (v5+1))∧ag (IntKind.i64.wrap (v5+1))<ag v5))))
def PS (a0:(List Int)) (J:(List Int)) (aa:Bool) (ae:Int→Prop) (ag:Int→Nat):Prop:=
 PT ae ag a0 J aa
theorem abY:aZ Tryz.prog 52 [bC cs a0,bC cs J] (aF (eqv a0 J)):=(fun(ae:Int→Prop) (ag:Int→Nat) (h:PS a0 J (eqv a0 J) ae ag)=>aZ.run (ps:=[(.l .int),(.l .int)]) (rs:=[.bool]) (x:=(a0,J,())) (r:=((eqv a0 J),())) ⟨26,cH,[]⟩ ⟨[13],[(6,abZ,ab0)],[],[],[]⟩ (dZ [0,1] [] 5 ae ag fun _=> .nil) Tryz.func52 h) (cj a0.length (fun v=>nth a0 v !=nth J v)) (cB a0.length) (by
 unfold PS PT
 exact p0 (ne:=fun v=>nth a0 v !=nth J v) (fun v=>by simp[eqv]))
def IB:cQ Tryz.prog:=⟨52,[(.l .int),(.l .int)],[.bool],none,fun x=>((eqv x.1 x.2.1),()),fun x h=>abY x.1 x.2.1⟩
end
section
variable (a0 J:cR) (aa:Bool)
def PW:Prop:=
 ((a0.bd !=J.bd)=true→false=aa)∧((!(a0.bd !=J.bd))=true→((a0.bG !=J.bG)=true→false=aa)∧((!(a0.bG !=J.bG))=true→true=aa))
theorem ab5:aZ Tryz.prog 134 [.agg (dE a0),.agg (dE J)] (aF (eqv a0 J)):=(fun(h:PW a0 J (eqv a0 J))=>aZ.run (ps:=[.bG,.bG]) (rs:=[.bool]) (x:=(a0,J,())) (r:=((eqv a0 J),())) ⟨15,cH,[]⟩ ⟨[],[],[],[],[]⟩ .nil Tryz.func134 h) (by
 unfold PW
 obtain⟨c,p⟩:=a0
 obtain⟨b8,xq⟩:=J
 simp[eqv]
 intros
 simp_all)
def ab6:cQ Tryz.prog:=⟨134,[.bG,.bG],[.bool],none,fun x=>((eqv x.1 x.2.1),()),fun x h=>ab5 x.1 x.2.1⟩
end
section
variable (ae:Int→Prop) (ag:Int→Nat) (a0 J:(List cR)) (aa:Bool)
def ab3:List Item:=(List.range 10).map dd
def ab4:List (List Nat):=[[],[],[0,1],[0,1,2],[],[],[4,5],[4,5,6],rg 0 8,rg 0 9]
def PV:Prop:=
  ((a0.length≤4611686018427387904)∧(J.length≤4611686018427387904)→((a0.length:Int) !=(J.length:Int))=true→false=aa)∧((a0.length≤4611686018427387904)∧(J.length≤4611686018427387904)∧((!((a0.length:Int) !=(J.length:Int)))=true)→ae 0∧ ∀(v5:Int),ae v5→(((decide (v5<(a0.length:Int)))=false→true=aa)∧((decide (v5<(a0.length:Int)))=true→(((0≤v5∧v5.toNat<a0.length)∧(0≤v5∧v5.toNat<J.length))∧((!(eqv (nth a0 v5) (nth J v5)))=true→false=aa))∧((!(!(eqv (nth a0 v5) (nth J v5))))=true→ae (IntKind.i64.wrap (v5+1))∧ag (IntKind.i64.wrap (v5+1))<ag v5))))
def PU (a0:(List cR)) (J:(List cR)) (aa:Bool) (ae:Int→Prop) (ag:Int→Nat):Prop:=
 PV ae ag a0 J aa
theorem ab1:aZ Tryz.prog 127 [bC dE a0,bC dE J] (aF (eqv a0 J)):=(fun(ae:Int→Prop) (ag:Int→Nat) (h:PU a0 J (eqv a0 J) ae ag)=>aZ.run (ps:=[(.l .bG),(.l .bG)]) (rs:=[.bool]) (x:=(a0,J,())) (r:=((eqv a0 J),())) ⟨27,cH,[ab6]⟩ ⟨[13],[(6,ab3,ab4)],[],[],[]⟩ (dZ [0,1] [] 5 ae ag fun _=> .nil) Tryz.func127 h) (cj a0.length (fun v=> !(eqv (nth a0 v) (nth J v)))) (cB a0.length) (by
 unfold PU PV
 exact p0 (ne:=fun v=> !(eqv (nth a0 v) (nth J v))) (fun v=>by simp[eqv]))
def ab2:cQ Tryz.prog:=⟨127,[(.l .bG),(.l .bG)],[.bool],none,fun x=>((eqv x.1 x.2.1),()),fun x h=>ab1 x.1 x.2.1⟩
end
section
variable (a0 J:Way) (aa:Bool)
def P6:Prop:=
  ((!(eqv a0.ah J.ah))=true→false=aa)∧((!(!(eqv a0.ah J.ah)))=true→((!(eqv a0.bp J.bp))=true→false=aa)∧((!(!(eqv a0.bp J.bp)))=true→((!(eqv a0.cv J.cv))=true→false=aa)∧((!(!(eqv a0.cv J.cv)))=true→((!(eqv a0.cK J.cK))=true→false=aa)∧((!(!(eqv a0.cK J.cK)))=true→((!(eqv a0.eS J.eS))=true→false=aa)∧((!(!(eqv a0.eS J.eS)))=true→true=aa)))))
def P5:Prop:=
 P6 a0 J aa
theorem acj:aZ Tryz.prog 100 [.agg (ej false a0),.agg (ej false J)] (aF (eqv a0 J)):=(fun(h:P5 a0 J (eqv a0 J))=>aZ.run (ps:=[.eg,.eg]) (rs:=[.bool]) (x:=(a0,J,())) (r:=((eqv a0 J),())) ⟨35,cH,[IB,ab2]⟩ ⟨[],[],[],[],[]⟩ .nil Tryz.func100 h) (by
 unfold P5 P6
 obtain⟨a,b,c,d,e⟩:=a0
 obtain⟨gi,bH,b8,y0,bT⟩:=J
 simp[eqv]
 refine⟨fun h h1=>absurd h1 h,fun h=>⟨fun k _ dr=>absurd dr k,?_⟩⟩
 intros
 simp_all)
def ack:cQ Tryz.prog:=⟨100,[.eg,.eg],[.bool],none,fun x=>((eqv x.1 x.2.1),()),fun x h=>acj x.1 x.2.1⟩
end
section
variable (ae:Int→Prop) (ag:Int→Nat) (a0 J:(List Way)) (aa:Bool)
def ach:List Item:=(List.range 10).map dd
def aci:List (List Nat):=[[],[],[0,1],[0,1,2],[],[],[4,5],[4,5,6],rg 0 8,rg 0 9]
def P4:Prop:=
  ((a0.length≤4611686018427387904)∧(J.length≤4611686018427387904)→((a0.length:Int) !=(J.length:Int))=true→false=aa)∧((a0.length≤4611686018427387904)∧(J.length≤4611686018427387904)∧((!((a0.length:Int) !=(J.length:Int)))=true)→ae 0∧ ∀(v5:Int),ae v5→(((decide (v5<(a0.length:Int)))=false→true=aa)∧((decide (v5<(a0.length:Int)))=true→(((0≤v5∧v5.toNat<a0.length)∧(0≤v5∧v5.toNat<J.length))∧((!(eqv (nth a0 v5) (nth J v5)))=true→false=aa))∧((!(!(eqv (nth a0 v5) (nth J v5))))=true→ae (IntKind.i64.wrap (v5+1))∧ag (IntKind.i64.wrap (v5+1))<ag v5))))
def P3 (a0:(List Way)) (J:(List Way)) (aa:Bool) (ae:Int→Prop) (ag:Int→Nat):Prop:=
 P4 ae ag a0 J aa
theorem acf:aZ Tryz.prog 53 [bC (ej false) a0,bC (ej false) J] (aF (eqv a0 J)):=(fun(ae:Int→Prop) (ag:Int→Nat) (h:P3 a0 J (eqv a0 J) ae ag)=>aZ.run (ps:=[(.l .eg),(.l .eg)]) (rs:=[.bool]) (x:=(a0,J,())) (r:=((eqv a0 J),())) ⟨27,cH,[ack]⟩ ⟨[13],[(6,ach,aci)],[],[],[]⟩ (dZ [0,1] [] 5 ae ag fun _=> .nil) Tryz.func53 h) (cj a0.length (fun v=> !(eqv (nth a0 v) (nth J v)))) (cB a0.length) (by
 unfold P3 P4
 exact p0 (ne:=fun v=> !(eqv (nth a0 v) (nth J v))) (fun v=>by simp[eqv]))
def acg:cQ Tryz.prog:=⟨53,[(.l .eg),(.l .eg)],[.bool],none,fun x=>((eqv x.1 x.2.1),()),fun x h=>acf x.1 x.2.1⟩
end
section
variable (ae:Int→Prop) (ag:Int→Nat) (a0 J:(List Bool)) (aa:Bool)
def abP:List Item:=(List.range 9).map dd
def abQ:List (List Nat):=[[],[],[0,1],[0,1,2],[],[],[4,5],[4,5,6],rg 0 8]
def PM:Prop:=
  ((a0.length≤4611686018427387904)∧(J.length≤4611686018427387904)→((a0.length:Int) !=(J.length:Int))=true→false=aa)∧((a0.length≤4611686018427387904)∧(J.length≤4611686018427387904)∧((!((a0.length:Int) !=(J.length:Int)))=true)→ae 0∧ ∀(v5:Int),ae v5→(((decide (v5<(a0.length:Int)))=false→true=aa)∧((decide (v5<(a0.length:Int)))=true→(((0≤v5∧v5.toNat<a0.length)∧(0≤v5∧v5.toNat<J.length))∧(((nth a0 v5) !=(nth J v5))=true→false=aa))∧((!((nth a0 v5) !=(nth J v5)))=true→ae (IntKind.i64.wrap (v5+1))∧ag (IntKind.i64.wrap (v5+1))<ag v5))))
def PL (a0:(List Bool)) (J:(List Bool)) (aa:Bool) (ae:Int→Prop) (ag:Int→Nat):Prop:=
 PM ae ag a0 J aa
theorem abO:aZ Tryz.prog 55 [bC aX a0,bC aX J] (aF (eqv a0 J)):=(fun(ae:Int→Prop) (ag:Int→Nat) (h:PL a0 J (eqv a0 J) ae ag)=>aZ.run (ps:=[(.l .bool),(.l .bool)]) (rs:=[.bool]) (x:=(a0,J,())) (r:=((eqv a0 J),())) ⟨26,cH,[]⟩ ⟨[13],[(6,abP,abQ)],[],[],[]⟩ (dZ [0,1] [] 5 ae ag fun _=> .nil) Tryz.func55 h) (cj a0.length (fun v=>nth a0 v !=nth J v)) (cB a0.length) (by
 unfold PL PM
 exact p0 (ne:=fun v=>nth a0 v !=nth J v) (fun v=>by simp[eqv]))
def IA:cQ Tryz.prog:=⟨55,[(.l .bool),(.l .bool)],[.bool],none,fun x=>((eqv x.1 x.2.1),()),fun x h=>abO x.1 x.2.1⟩
end
section
variable (ae:Int→Prop) (ag:Int→Nat) (a0 J:(List (List Bool))) (aa:Bool)
def abM:List Item:=(List.range 10).map dd
def abN:List (List Nat):=[[],[],[0,1],[0,1,2],[],[],[4,5],[4,5,6],rg 0 8,rg 0 9]
def PK:Prop:=
  ((a0.length≤4611686018427387904)∧(J.length≤4611686018427387904)→((a0.length:Int) !=(J.length:Int))=true→false=aa)∧((a0.length≤4611686018427387904)∧(J.length≤4611686018427387904)∧((!((a0.length:Int) !=(J.length:Int)))=true)→ae 0∧ ∀(v5:Int),ae v5→(((decide (v5<(a0.length:Int)))=false→true=aa)∧((decide (v5<(a0.length:Int)))=true→(((0≤v5∧v5.toNat<a0.length)∧(0≤v5∧v5.toNat<J.length))∧((!(eqv (nth a0 v5) (nth J v5)))=true→false=aa))∧((!(!(eqv (nth a0 v5) (nth J v5))))=true→ae (IntKind.i64.wrap (v5+1))∧ag (IntKind.i64.wrap (v5+1))<ag v5))))
def PJ (a0:(List (List Bool))) (J:(List (List Bool))) (aa:Bool) (ae:Int→Prop) (ag:Int→Nat):Prop:=
 PK ae ag a0 J aa
theorem abK:aZ Tryz.prog 54 [bC (fM aX false) a0,bC (fM aX false) J] (aF (eqv a0 J)):=(fun(ae:Int→Prop) (ag:Int→Nat) (h:PJ a0 J (eqv a0 J) ae ag)=>aZ.run (ps:=[(.l (.l .bool)),(.l (.l .bool))]) (rs:=[.bool]) (x:=(a0,J,())) (r:=((eqv a0 J),())) ⟨27,cH,[IA]⟩ ⟨[13],[(6,abM,abN)],[],[],[]⟩ (dZ [0,1] [] 5 ae ag fun _=> .nil) Tryz.func54 h) (cj a0.length (fun v=> !(eqv (nth a0 v) (nth J v)))) (cB a0.length) (by
 unfold PJ PK
 exact p0 (ne:=fun v=> !(eqv (nth a0 v) (nth J v))) (fun v=>by simp[eqv]))
def abL:cQ Tryz.prog:=⟨54,[(.l (.l .bool)),(.l (.l .bool))],[.bool],none,fun x=>((eqv x.1 x.2.1),()),fun x h=>abK x.1 x.2.1⟩
end
section
variable (a0 J:aV) (aa:Bool)
def PY:Prop:=
  ((a0.ah !=J.ah)=true→false=aa)∧((!(a0.ah !=J.ah))=true→((!(eqv a0.bf J.bf))=true→false=aa)∧((!(!(eqv a0.bf J.bf)))=true→((!(eqv a0.O J.O))=true→false=aa)∧((!(!(eqv a0.O J.O)))=true→((!(eqv a0.bk J.bk))=true→false=aa)∧((!(!(eqv a0.bk J.bk)))=true→((a0.cY !=J.cY)=true→false=aa)∧((!(a0.cY !=J.cY))=true→true=aa)))))
def PX:Prop:=
 PY a0 J aa
theorem ab7:aZ Tryz.prog 13 [.agg (bV false a0),.agg (bV false J)] (aF (eqv a0 J)):=(fun(h:PX a0 J (eqv a0 J))=>aZ.run (ps:=[.ef,.ef]) (rs:=[.bool]) (x:=(a0,J,())) (r:=((eqv a0 J),())) ⟨33,cH,[IB,acg,abL]⟩ ⟨[],[],[],[],[]⟩ .nil Tryz.func13 h) (by
 unfold PX PY
 obtain⟨a,b,c,d,e⟩:=a0
 obtain⟨gi,bH,b8,y0,bT⟩:=J
 simp[eqv]
 refine⟨fun h h1=>absurd h1 h,fun h=>⟨fun k _ dr=>absurd dr k,?_⟩⟩
 intros
 simp_all)
end
end Go.Proofs.YtejmihecgodhnaaGreat.Fw
set_option linter.unusedVariables false
namespace Go.Proofs.YtejmihecgodhnaaGreat.Fw
open Go
theorem qU {α:Type} {xs:List α} {q:α→Bool} (h:first xs q=none): ∀x∈xs,q x=false:=by
 unfold first at h;rwa [List.findIdx?_eq_none_iff] at h
theorem Ak {p:aV} (h:gY p=true):kv p=true∧(∀s∈p.bf,cc s 0 (p.ah - 1)=true)∧(∀w∈p.O,hy p w=true)∧p.bk.length=p.O.length∧
  (∀b∈p.bk,b.length=p.O.length)∧ ∀i k:Nat,i<p.O.length→k<p.O.length→oU p i k=false:=by
 have hb:=aeF h
 have au:ho p=⟨0,0⟩:=by simpa[gY] using h
 rw[Jb hb] at au
 unfold xt at au
 split at au
 ·cases au
 rename_i h1
 unfold xu at au
 split at au
 ·cases au
 rename_i h2
 unfold oz at au
 split at au
 ·rename_i ay
  split at au
  ·cases au
  rename_i bg
  split at au
  ·cases au
  rename_i cW
  refine⟨hb,fun s hs=>by simpa using qU h1 s hs,fun w hw=>by simpa using qU h2 w hw,ay,fun b U=>by simpa using qU bg b U,fun i k hi hk=> ?_⟩
  have:=qU cW i (List.mem_range.2 hi)
  rw[List.any_eq_false] at this
  simpa using this k (List.mem_range.2 hk)
 ·cases au
def l4 (p:aV) (i k:Int):Bool:=nth (nth p.bk i) k
structure LB (p:aV):Prop where
 len:p.bk.length=p.O.length
 row: ∀i:Int,0≤i→i<p.O.length→(nth p.bk i).length=p.O.length
 sym: ∀i k:Int,0≤i→i<p.O.length→0≤k→k<p.O.length→l4 p i k=l4 p k i
 aiV: ∀i k:Int,0≤i→i<p.O.length→0≤k→k<p.O.length→i≠k→meets (nth p.O i).ah (nth p.O k).ah=true→l4 p i k=true
theorem CX {x n:Int} (h:cc x 0 (n - 1)=true):0≤x∧x<n:=by have:=zP.1 h;omega
theorem IK {l:List Int} {n:Int} (h:hC l n=true):l.length≤30∧ ∀x∈l,0≤x∧x<n:=by
 have:=uM.1 h
 exact⟨this.1,fun x hx=>CX (this.2.1 x hx)⟩
theorem Dx {p:aV} (h:gY p=true):vK p:=by
 obtain⟨h1,h2,ay,bg,cW,e1⟩:=Ak h
 have hb:=u4.1 h1
 have hw: ∀w∈p.O,_:=fun w hw=>oQ.1 (ay w hw)
 refine⟨by omega,hb.2.2.2,hb.2.2.1,fun w m=>⟨(hw w m).1,IK (hw w m).2.1⟩,fun w m=>IK (hw w m).2.2.1,fun w m=>IK (hw w m).2.2.2.1,fun w m=> ?_,fun x hx=>CX (h2 x hx)⟩
 have ao:=mY.1 (hw w m).2.2.2.2.1
 have hf:=mY.1 (hw w m).2.2.2.2.2.1
 refine⟨ao.1,hf.1,fun x hx=> ?_⟩
 rcases List.mem_append.1 hx with hx | hx
 ·have:=ao.2.1 x hx
  rw[Bool.and_eq_true] at this;exact CX this.1
 ·have:=hf.2.1 x hx
  rw[Bool.and_eq_true] at this;exact CX this.1
theorem Dw {p:aV} (h:gY p=true):LB p:=by
 obtain⟨h1,h2,ay,bg,cW,e1⟩:=Ak h
 have key: ∀i k:Int,0≤i→i<p.O.length→0≤k→k<p.O.length→l4 p i k=l4 p k i∧(i≠k→meets (nth p.O i).ah (nth p.O k).ah=true→l4 p i k=true):=fun i k i0 i1 aY dr=>by
  have:=e1 i.toNat k.toNat (by omega) (by omega)
  unfold oU sh at this
  rw[ov i0,ov aY,ov i0,ov aY,ov i0,ov aY] at this
  rw[Bool.or_eq_false_iff] at this
  refine⟨by unfold l4;simpa using this.1,fun bN hm=> ?_⟩
  have h2:=this.2
  rw[hm,Bool.and_true] at h2
  have aO:decide (i.toNat≠k.toNat)=true:=by simpa using(show i.toNat≠k.toNat by omega)
  rw[aO] at h2
  unfold l4
  simpa using h2
 exact⟨bg,fun i i0 i1=>cW _ (eP (by omega)),fun i k i0 i1 aY dr=>(key i k i0 i1 aY dr).1,fun i k i0 i1 aY dr=>(key i k i0 i1 aY dr).2⟩
def su (p:aV) (f:Frame) (i:Int):Bool:= !((decide ((nth f.O i).aK<0)) || ((decide ((nth f.O i).aK>4)) || ((((nth f.O i).ak.length:Int) !=((nth p.O i).ah.length:Int)) || ((decide ((nth f.O i).a1<0)) || (decide ((nth f.O i).a1 ≥ ((nth p.O i).ah.length:Int)))))))
def ua (f:Frame) (i:Int):Bool:=bif ((nth f.O i).aK !=4) then(!(((nth f.O i).a1 !=0) || (j6 (nth f.O i).ak true))) else(!(j6 ((nth f.O i).ak.take (nth f.O i).a1.toNat) false))
def ub (p:aV) (f:Frame) (i:Int):Bool:=bif ((nth f.O i).aK==3) then(!((decide ((nth f.O i).cx<1)) || (decide ((nth f.O i).cx>p.cY)))) else(!((nth f.O i).cx !=0))
def uc (f:Frame) (i:Int):Bool:=bif ((nth f.O i).aK==0) then(!(nth f.O i).cn) else(!(bif ((nth f.O i).aK==2) then((nth f.O i).aK==2) else((nth f.O i).aK==3)) || (!(!(nth f.O i).cn)))
theorem Cl (p:aV) (f:Frame) (i:Int):gT p f i=(su p f i&&(ua f i&&(ub p f i&&uc f i))):=by
 unfold gT su ua ub uc
 simp only
 generalize nth f.O i=h
 generalize (nth p.O i).ah.length=n
 rcases h with⟨s,g,b,d,t⟩
 have ax:b.all (fun x=> !x)= !j6 b true:=by
  cases h:j6 b true with
  | true=>
   rw[List.all_eq_false.2 ⟨true,wC.1 h,by simp⟩];rfl
  | false=>
   rw[List.all_eq_true.2 fun x hx=>by
    cases x with
    | false=>rfl
    | true=>rw[wC.2 hx] at h;cases h];rfl
 have e2:(b.take g.toNat).all (fun x=>x)= !j6 (b.take g.toNat) false:=by
  cases h:j6 (b.take g.toNat) false with
  | true=>
   rw[List.all_eq_false.2 ⟨false,wC.1 h,by simp⟩];rfl
  | false=>
   rw[List.all_eq_true.2 fun x hx=>by
    cases x with
    | true=>rfl
    | false=>rw[wC.2 hx] at h;cases h];rfl
 simp only
 rw[ax,e2]
 have cN:cc s 0 4= !((decide (s<0)) || (decide (s>4))):=by unfold cc;rw[Bool.eq_iff_iff];simp
 have c5:decide (b.length=n)= !((b.length:Int) !=(n:Int)):=by rw[Bool.eq_iff_iff];simp;omega
 have fs:cc g 0 ((n:Int) - 1)= !((decide (g<0)) || (decide (g ≥ (n:Int)))):=by unfold cc;rw[Bool.eq_iff_iff];simp;omega
 have nT:cc t 1 p.cY= !((decide (t<1)) || (decide (t>p.cY))):=by unfold cc;rw[Bool.eq_iff_iff];simp
 rw[cN,c5,fs,nT]
 generalize j6 b true=B
 have aB:g=0→j6 (b.take g.toNat) false=false:=fun h=>by subst h;rfl
 generalize j6 (b.take g.toNat) false=C at aB
 generalize (decide (s<0))=bt
 generalize (decide (s>4))=bP
 generalize ((b.length:Int) !=(n:Int))=UG
 generalize (decide (g<0))=ajd
 generalize (decide (g ≥ (n:Int)))=aje
 generalize (decide (t<1))=ajf
 generalize (decide (t>p.cY))=ajg
 have hs:s=0∨s=2∨s=3∨s=4∨(s≠0∧s≠2∧s≠3∧s≠4):=by omega
 have aO:decide (t=0)= !(t !=0):=by rw[Bool.eq_iff_iff];simp
 have q8:decide (g=0)= !(g !=0):=by rw[Bool.eq_iff_iff];simp
 rw[aO,q8]
 cases NQ:(g !=0) with
 | false=>
  have:C=false:=aB (by simpa using NQ)
  subst this
  generalize (t !=0)=aif
  rcases hs with rfl | rfl | rfl | rfl | ⟨au,h2,ay,bg⟩
  ·cases B<;>cases d<;>simp[Bool.and_assoc]
  ·cases B<;>cases d<;>simp[Bool.and_assoc]
  ·cases B<;>cases d<;>simp[Bool.and_assoc]
  ·cases B<;>cases d<;>simp[Bool.and_assoc]
  ·have z0:(s==0)=false:=by simpa using au
   have z2:(s==2)=false:=by simpa using h2
   have z3:(s==3)=false:=by simpa using ay
   have z4:(s !=4)=true:=by simpa using bg
   rw[z0,z2,z3,z4]
   simp only[au,h2,ay,bg,if_false,decide_false,decide_true,ne_eq,not_false_eq_true]
   cases B<;>cases d<;>simp[Bool.and_assoc]
 | true=>
  clear aB NQ
  generalize (t !=0)=aif
  rcases hs with rfl | rfl | rfl | rfl | ⟨au,h2,ay,bg⟩
  ·cases B<;>cases C<;>cases d<;>simp[Bool.and_assoc]
  ·cases B<;>cases C<;>cases d<;>simp[Bool.and_assoc]
  ·cases B<;>cases C<;>cases d<;>simp[Bool.and_assoc]
  ·cases B<;>cases C<;>cases d<;>simp[Bool.and_assoc]
  ·have z0:(s==0)=false:=by simpa using au
   have z2:(s==2)=false:=by simpa using h2
   have z3:(s==3)=false:=by simpa using ay
   have z4:(s !=4)=true:=by simpa using bg
   rw[z0,z2,z3,z4]
   simp only[au,h2,ay,bg,if_false,decide_false,decide_true,ne_eq,not_false_eq_true]
   cases B<;>cases C<;>cases d<;>simp[Bool.and_assoc]
def nN (x:dy):Bool:=cc x.cJ 1 2&&cc x.bp 0 2
def k6 (p:aV) (f:Frame) (i k:Int):Bool:=(i !=k)&&(l4 p i k&&(((nth f.O i).aK !=0)&&((nth f.O k).aK !=0)))
def sp (p:aV) (f:Frame):Bool:= !((!(gY p)) || ((!f.ok) || (((f.aG.length:Int) !=p.ah) || (((f.aq.length:Int) !=(p.bf.length:Int)) || ((f.O.length:Int) !=(p.O.length:Int))))))
theorem y6 {p:aV} {f:Frame}:sp p f=true↔gY p=true∧f.ok=true∧(f.aG.length:Int)=p.ah∧f.aq.length=p.bf.length∧f.O.length=p.O.length:=by
 unfold sp
 simp only[Bool.not_eq_true',Bool.or_eq_false_iff,Bool.not_eq_false',bne_eq_false_iff_eq]
 constructor
 ·rintro⟨a,b,c,d,e⟩;exact⟨a,b,c,by omega,by omega⟩
 ·rintro⟨a,b,c,d,e⟩;exact⟨a,b,c,by omega,by omega⟩
theorem VA {p:aV} {f:Frame}:E2 p f=true↔ ∀i k:Int,0≤i→i<f.O.length→0≤k→k<f.O.length→k6 p f i k=false:=by
 unfold E2
 rw[List.all_eq_true]
 have key: ∀i k:Nat,(decide (i=k) || !sh p i k || decide ((nth f.O i).aK=0) || decide ((nth f.O k).aK=0))= !k6 p f i k:=fun i k=>by
  unfold k6 l4 sh
  have ax:decide (i=k)= !((i:Int) !=(k:Int)):=by rw[Bool.eq_iff_iff];simp;omega
  have e2: ∀x:Int,decide (x=0)= !(x !=0):=fun x=>by rw[Bool.eq_iff_iff];simp
  rw[ax,e2,e2]
  cases((i:Int) !=(k:Int))<;>cases nth (nth p.bk (i:Int)) (k:Int)<;>cases((nth f.O (i:Int)).aK !=0)<;>cases((nth f.O (k:Int)).aK !=0)<;>rfl
 constructor
 ·intro h i k i0 i1 aY dr
  have h1:=h i.toNat (List.mem_range.2 (by omega))
  rw[List.all_eq_true] at h1
  have h2:=h1 k.toNat (List.mem_range.2 (by omega))
  rw[key,Int.toNat_of_nonneg i0,Int.toNat_of_nonneg aY] at h2
  simpa using h2
 ·intro h i hi
  rw[List.all_eq_true]
  intro k hk
  rw[key,h i k (by omega) (by have:=List.mem_range.1 hi;omega) (by omega) (by have:=List.mem_range.1 hk;omega)];rfl
theorem y7 {p:aV} {f:Frame}:hN p f=true↔sp p f=true∧(∀x∈f.aq,nN x=true)∧(∀i:Int,0≤i→i<f.O.length→gT p f i=true)∧
  (∀i k:Int,0≤i→i<f.O.length→0≤k→k<f.O.length→k6 p f i k=false)∧f.O=(ir p f).O:=by
 unfold hN nV
 rw[y6,←VA]
 simp only[Bool.and_eq_true,decide_eq_true_eq,List.all_eq_true,List.mem_range]
 constructor
 ·rintro⟨⟨⟨⟨⟨⟨⟨⟨a,b⟩,c⟩,d⟩,e⟩,g⟩,h⟩,i⟩,j⟩
  refine⟨⟨a,b,c,d,e⟩,fun x hx=>by unfold nN;rw[Bool.and_eq_true];exact g x hx,fun q bU q1=> ?_,i,j⟩
  have:=h q.toNat (by omega)
  rwa [Int.toNat_of_nonneg bU] at this
 ·rintro⟨⟨a,b,c,d,e⟩,g,h,i,j⟩
  exact⟨⟨⟨⟨⟨⟨⟨⟨a,b⟩,c⟩,d⟩,e⟩,fun x hx=>by have:=g x hx;unfold nN at this;rwa [Bool.and_eq_true] at this⟩,fun q U=>h q (by omega) (by omega)⟩,i⟩,j⟩
theorem Gp {p:aV} {f:Frame} (hb:sp p f=true) (bm: ∀i:Int,0≤i→i<f.O.length→su p f i=true):kZ p f:=by
 obtain⟨h1,h2,ay,bg,cW⟩:=y6.1 hb
 have key: ∀i:Nat,i<f.O.length→((nth f.O i).ak.length:Int)=((nth p.O i).ah.length:Int)∧0≤(nth f.O i).a1∧(nth f.O i).a1<((nth p.O i).ah.length:Int):=fun i hi=>by
  have:=bm i (by omega) (by omega)
  unfold su at this
  simp only[Bool.not_eq_true',Bool.or_eq_false_iff,bne_eq_false_iff_eq,decide_eq_false_iff_not] at this
  exact⟨this.2.2.1,by omega,by omega⟩
 refine⟨ay,bg,cW,fun i h w ax e2=> ?_,fun h hm=> ?_⟩
 ·have hi:=(List.getElem?_eq_some_iff.1 ax).1
  have af:=(List.getElem?_eq_some_iff.1 e2).1
  have:=(key i hi).1
  rw[jt hi,jt af,(List.getElem?_eq_some_iff.1 ax).2,(List.getElem?_eq_some_iff.1 e2).2] at this
  omega
 ·obtain⟨i,hi,rfl⟩:=List.mem_iff_getElem.1 hm
  have:=key i hi
  rw[jt hi] at this
  omega
theorem Vz {p:aV} {f:Frame} {i k:Int} (cX:LB p) (ao:f.O.length=p.O.length) (i0:0≤i) (i1:i<f.O.length) (aY:0≤k) (dr:k<f.O.length):k6 p f i k=k6 p f k i:=by
 unfold k6
 rw[cX.sym i k i0 (by omega) aY (by omega),show(i !=k)=(k !=i) by rw[Bool.eq_iff_iff];simp;omega,Bool.and_comm ((nth f.O i).aK !=0)]
def xF (p:aV) (f:Frame) (n:Nat) (i:Int):Bool:=(List.range n).any fun k=>k6 p f i k
theorem aeJ (x:dy):(bif (x.cJ !=1) then((x.cJ !=2) || ((decide (x.bp<0)) || (decide (x.bp>2)))) else((decide (x.bp<0)) || (decide (x.bp>2))))= !nN x:=by
 unfold nN cc
 by_cases h:x.cJ=1
 ·rw[h,Bool.eq_iff_iff];simp
 ·have:(x.cJ !=1)=true:=by simpa using h
  rw[this,Bool.eq_iff_iff];simp;omega
def AM (h:aC):Prop:=h.ak.length≤1048576
def D3 (w:List aC):Prop:=ud w≤1048576
def D2 (f:Frame):Prop:=o3 f≤1048576
theorem SZ {f:Frame} (h:D2 f):nW f:=by
 have h:f.aG.length+f.aq.length+(f.O.length+(f.O.map fun h=>h.ak.length).sum)≤1048576:=h
 refine⟨by omega,by omega,by omega,fun x hx=> ?_⟩
 have:=z7 (fun h:aC=>h.ak.length) hx
 omega
end Go.Proofs.YtejmihecgodhnaaGreat.Fw
set_option linter.unusedVariables false
set_option maxRecDepth 100000
set_option maxHeartbeats 4000000
set_option linter.unusedSimpArgs false
namespace Go.Proofs.YtejmihecgodhnaaGreat.Fw
open Go
attribute [local irreducible] evS evSD WpS Weak Oper.looksAt
section
variable (a0 J:dy) (aa:Bool)
def P1:Prop:=
 ((a0.cJ !=J.cJ)=true→false=aa)∧((!(a0.cJ !=J.cJ))=true→((a0.bp !=J.bp)=true→false=aa)∧((!(a0.bp !=J.bp))=true→true=aa))
theorem acb:aZ Tryz.prog 101 [.agg (bE a0),.agg (bE J)] (aF (eqv a0 J)):=(fun(h:P1 a0 J (eqv a0 J))=>aZ.run (ps:=[.ep,.ep]) (rs:=[.bool]) (x:=(a0,J,())) (r:=((eqv a0 J),())) ⟨15,cH,[]⟩ ⟨[],[],[],[],[]⟩ .nil Tryz.func101 h) (by
 unfold P1
 obtain⟨c,p⟩:=a0
 obtain⟨b8,xq⟩:=J
 simp[eqv]
 intros
 simp_all)
def acd:cQ Tryz.prog:=⟨101,[.ep,.ep],[.bool],none,fun x=>((eqv x.1 x.2.1),()),fun x h=>acb x.1 x.2.1⟩
end
section
variable (ae:Int→Prop) (ag:Int→Nat) (a0 J:(List dy)) (aa:Bool)
def ab_:List Item:=(List.range 10).map dd
def aca:List (List Nat):=[[],[],[0,1],[0,1,2],[],[],[4,5],[4,5,6],rg 0 8,rg 0 9]
def P0:Prop:=
  ((a0.length≤4611686018427387904)∧(J.length≤4611686018427387904)→((a0.length:Int) !=(J.length:Int))=true→false=aa)∧((a0.length≤4611686018427387904)∧(J.length≤4611686018427387904)∧((!((a0.length:Int) !=(J.length:Int)))=true)→ae 0∧ ∀(v5:Int),ae v5→(((decide (v5<(a0.length:Int)))=false→true=aa)∧((decide (v5<(a0.length:Int)))=true→(((0≤v5∧v5.toNat<a0.length)∧(0≤v5∧v5.toNat<J.length))∧((!(eqv (nth a0 v5) (nth J v5)))=true→false=aa))∧((!(!(eqv (nth a0 v5) (nth J v5))))=true→ae (IntKind.i64.wrap (v5+1))∧ag (IntKind.i64.wrap (v5+1))<ag v5))))
def PZ (a0:(List dy)) (J:(List dy)) (aa:Bool) (ae:Int→Prop) (ag:Int→Nat):Prop:=
 P0 ae ag a0 J aa
theorem ab8:aZ Tryz.prog 56 [bC bE a0,bC bE J] (aF (eqv a0 J)):=(fun(ae:Int→Prop) (ag:Int→Nat) (h:PZ a0 J (eqv a0 J) ae ag)=>aZ.run (ps:=[(.l .ep),(.l .ep)]) (rs:=[.bool]) (x:=(a0,J,())) (r:=((eqv a0 J),())) ⟨27,cH,[acd]⟩ ⟨[13],[(6,ab_,aca)],[],[],[]⟩ (dZ [0,1] [] 5 ae ag fun _=> .nil) Tryz.func56 h) (cj a0.length (fun v=> !(eqv (nth a0 v) (nth J v)))) (cB a0.length) (by
 unfold PZ P0
 exact p0 (ne:=fun v=> !(eqv (nth a0 v) (nth J v))) (fun v=>by simp[eqv]))
def ab9:cQ Tryz.prog:=⟨56,[(.l .ep),(.l .ep)],[.bool],none,fun x=>((eqv x.1 x.2.1),()),fun x h=>ab8 x.1 x.2.1⟩
end
section
variable (a0 J:aC) (aa:Bool)
def PR:Prop:=
  ((a0.aK !=J.aK)=true→false=aa)∧((!(a0.aK !=J.aK))=true→((a0.a1 !=J.a1)=true→false=aa)∧((!(a0.a1 !=J.a1))=true→((!(eqv a0.ak J.ak))=true→false=aa)∧((!(!(eqv a0.ak J.ak)))=true→((a0.cn !=J.cn)=true→false=aa)∧((!(a0.cn !=J.cn))=true→((a0.cx !=J.cx)=true→false=aa)∧((!(a0.cx !=J.cx))=true→true=aa)))))
def PQ:Prop:=
 PR a0 J aa
theorem abW:aZ Tryz.prog 102 [.agg (ec false a0),.agg (ec false J)] (aF (eqv a0 J)):=(fun(h:PQ a0 J (eqv a0 J))=>aZ.run (ps:=[.held,.held]) (rs:=[.bool]) (x:=(a0,J,())) (r:=((eqv a0 J),())) ⟨31,cH,[IA]⟩ ⟨[],[],[],[],[]⟩ .nil Tryz.func102 h) (by
 unfold PQ PR
 obtain⟨a,b,c,d,e⟩:=a0
 obtain⟨gi,bH,b8,y0,bT⟩:=J
 simp[eqv]
 refine⟨fun h h1=>absurd h1 h,fun h=>⟨fun k _ dr=>absurd dr k,?_⟩⟩
 intros
 simp_all)
def abX:cQ Tryz.prog:=⟨102,[.held,.held],[.bool],none,fun x=>((eqv x.1 x.2.1),()),fun x h=>abW x.1 x.2.1⟩
end
section
variable (ae:Int→Prop) (ag:Int→Nat) (a0 J:(List aC)) (aa:Bool)
def abU:List Item:=(List.range 10).map dd
def abV:List (List Nat):=[[],[],[0,1],[0,1,2],[],[],[4,5],[4,5,6],rg 0 8,rg 0 9]
def PP:Prop:=
  ((a0.length≤4611686018427387904)∧(J.length≤4611686018427387904)→((a0.length:Int) !=(J.length:Int))=true→false=aa)∧((a0.length≤4611686018427387904)∧(J.length≤4611686018427387904)∧((!((a0.length:Int) !=(J.length:Int)))=true)→ae 0∧ ∀(v5:Int),ae v5→(((decide (v5<(a0.length:Int)))=false→true=aa)∧((decide (v5<(a0.length:Int)))=true→(((0≤v5∧v5.toNat<a0.length)∧(0≤v5∧v5.toNat<J.length))∧((!(eqv (nth a0 v5) (nth J v5)))=true→false=aa))∧((!(!(eqv (nth a0 v5) (nth J v5))))=true→ae (IntKind.i64.wrap (v5+1))∧ag (IntKind.i64.wrap (v5+1))<ag v5))))
def PO (a0:(List aC)) (J:(List aC)) (aa:Bool) (ae:Int→Prop) (ag:Int→Nat):Prop:=
 PP ae ag a0 J aa
theorem abS:aZ Tryz.prog 57 [bC (ec false) a0,bC (ec false) J] (aF (eqv a0 J)):=(fun(ae:Int→Prop) (ag:Int→Nat) (h:PO a0 J (eqv a0 J) ae ag)=>aZ.run (ps:=[(.l .held),(.l .held)]) (rs:=[.bool]) (x:=(a0,J,())) (r:=((eqv a0 J),())) ⟨27,cH,[abX]⟩ ⟨[13],[(6,abU,abV)],[],[],[]⟩ (dZ [0,1] [] 5 ae ag fun _=> .nil) Tryz.func57 h) (cj a0.length (fun v=> !(eqv (nth a0 v) (nth J v)))) (cB a0.length) (by
 unfold PO PP
 exact p0 (ne:=fun v=> !(eqv (nth a0 v) (nth J v))) (fun v=>by simp[eqv]))
def abT:cQ Tryz.prog:=⟨57,[(.l .held),(.l .held)],[.bool],none,fun x=>((eqv x.1 x.2.1),()),fun x h=>abS x.1 x.2.1⟩
end
section
variable (a0 J:Frame) (aa:Bool)
def PN:Prop:=
 ((a0.ok !=J.ok)=true→false=aa)∧((!(a0.ok !=J.ok))=true→((!(eqv a0.aG J.aG))=true→false=aa)∧((!(!(eqv a0.aG J.aG)))=true→((!(eqv a0.aq J.aq))=true→false=aa)∧((!(!(eqv a0.aq J.aq)))=true→((!(eqv a0.O J.O))=true→false=aa)∧((!(!(eqv a0.O J.O)))=true→true=aa))))
theorem abR:aZ Tryz.prog 14 [.agg (cg false a0),.agg (cg false J)] (aF (eqv a0 J)):=(fun(h:PN a0 J (eqv a0 J))=>aZ.run (ps:=[.frame,.frame]) (rs:=[.bool]) (x:=(a0,J,())) (r:=((eqv a0 J),())) ⟨28,cH,[IA,ab9,abT]⟩ ⟨[],[],[],[],[]⟩ .nil Tryz.func14 h) (by
 unfold PN
 obtain⟨a,b,c,d⟩:=a0
 obtain⟨gi,bH,b8,y0⟩:=J
 simp[eqv]
 refine⟨fun h h1=>absurd h1 h,fun h=>⟨fun k _ dr=>absurd dr k,?_⟩⟩
 intros
 simp_all)
end
section
variable (a0:(List dy)) (J aa:Int)
def Qj:Prop:=
 a0.length≤4611686018427387904→((decide ((IntKind.i64.wrap (J - (a0.length:Int)))<0))=true→(-1)=aa)∧((!(decide ((IntKind.i64.wrap (J - (a0.length:Int)))<0)))=true→(IntKind.i64.wrap (J - (a0.length:Int)))=aa)
theorem acz (ab:fE a0 J):aZ Tryz.prog 38 [bC bE a0,aE J] (aE (dG a0 J)):=(fun(h:Qj a0 J (dG a0 J))=>aZ.run (ps:=[(.l .ep),.int]) (rs:=[.int]) (x:=(a0,J,())) (r:=((dG a0 J),())) ⟨12,cH,[]⟩ ⟨[],[],[],[],[]⟩ .nil Tryz.func38 h) (by
 unfold Qj
 exact fun ad=>El ab ad)
def acA:cQ Tryz.prog:=⟨38,[(.l .ep),.int],[.int],some fun x=>fE x.1 x.2.1,fun x=>((dG x.1 x.2.1),()),fun x h=>acz x.1 x.2.1 h⟩
end
section
variable (a0:aC) (J aa:Int)
def Qd:Prop:=
 (fE a0.ak J)∧(((decide ((dG a0.ak J)<0))=true→(-1)=aa)∧((!(decide ((dG a0.ak J)<0)))=true→(dG a0.ak J)=aa))
theorem acs (ab:fE a0 J):aZ Tryz.prog 86 [.agg (ec false a0),aE J] (aE (qC a0 J)):=(fun(h:Qd a0 J (qC a0 J))=>aZ.run (ps:=[.held,.int]) (rs:=[.int]) (x:=(a0,J,())) (r:=((qC a0 J),())) ⟨12,cH,[IC]⟩ ⟨[],[],[],[],[]⟩ .nil Tryz.func86 h) (by
 unfold Qd qC dG
 have ab:0≤J∧J≤1048576:=ab
 exact⟨ab,oI (m:=0) ab (by omega) fun c k=>rfl⟩)
def acu:cQ Tryz.prog:=⟨86,[.held,.int],[.int],some fun x=>fE x.1 x.2.1,fun x=>((qC x.1 x.2.1),()),fun x h=>acs x.1 x.2.1 h⟩
end
section
variable (ae:Int→Int→Prop) (ag:Int→Int→Nat) (a0:(List aC)) (aa v1 v5:Int)
def Qc:Prop:=
  ((decide (v5<(a0.length:Int)))=false→v1=aa)∧((decide (v5<(a0.length:Int)))=true→(((0≤v5∧v5.toNat<a0.length)∧(fE (nth a0 v5) v1))∧((decide ((qC (nth a0 v5) v1)<0))=true→(-1)=aa))∧((!(decide ((qC (nth a0 v5) v1)<0)))=true→ae (qC (nth a0 v5) v1) (IntKind.i64.wrap (v5+1))∧ag (qC (nth a0 v5) v1) (IntKind.i64.wrap (v5+1))<ag v1 v5))
def Qb (a0:(List aC)) (J:Int) (aa:Int) (ae:Int→Int→Prop) (ag:Int→Int→Nat):Prop:=
 a0.length≤4611686018427387904→((decide ((IntKind.i64.wrap (J - (a0.length:Int)))<0))=true→(-1)=aa)∧((!(decide ((IntKind.i64.wrap (J - (a0.length:Int)))<0)))=true→ae (IntKind.i64.wrap (J - (a0.length:Int))) 0∧ ∀(v1:Int) (v5:Int),ae v1 v5→(Qc ae ag a0 aa v1 v5))
theorem acq (a0:(List aC)) (J:Int) (ab:fE a0 J):aZ Tryz.prog 39 [bC (ec false) a0,aE J] (aE (tn a0 J)):=(fun(ae:Int→Int→Prop) (ag:Int→Int→Nat) (h:Qb a0 J (tn a0 J) ae ag)=>aZ.run (ps:=[(.l .held),.int]) (rs:=[.int]) (x:=(a0,J,())) (r:=((tn a0 J),())) ⟨27,cH,[acu]⟩ ⟨[14],[],[],[],[]⟩ (.lp [] [0] [] [.int,.int] [1,5] (fun aD=>[(1,.i .i64 aD.1),(5,.i .i64 aD.2.1)]) (fun aD=>ae aD.1 aD.2.1) (fun aD=>ag aD.1 aD.2.1) fun _=> .nil) Tryz.func39 h) (x6 a0 (fun h=>h.ak.length) J) (x7 a0) (by
 unfold Qb Qc
 exact fun ad=>K0 (g:=qC) (fun _ _=>rfl) ab ad)
def acr:cQ Tryz.prog:=⟨39,[(.l .held),.int],[.int],some fun x=>fE x.1 x.2.1,fun x=>((tn x.1 x.2.1),()),fun x h=>acq x.1 x.2.1 h⟩
end
section
variable (a0:Frame) (J aa:Int)
abbrev uH:=dG a0.aq (dG a0.aG J)
def Qa:Prop:=
  ((decide ((uH a0 J)<0))=true→(-1)=aa)∧((!(decide ((uH a0 J)<0)))=true→(fE a0.O (uH a0 J))∧(((decide ((tn a0.O (uH a0 J))<0))=true→(-1)=aa)∧((!(decide ((tn a0.O (uH a0 J))<0)))=true→(tn a0.O (uH a0 J))=aa)))
def P_:Prop:=
 (fE a0.aG J)∧(((decide ((dG a0.aG J)<0))=true→(-1)=aa)∧((!(decide ((dG a0.aG J)<0)))=true→(fE a0.aq (dG a0.aG J))∧(Qa a0 J aa)))
theorem acp (ab:fE a0 J):aZ Tryz.prog 7 [.agg (cg false a0),aE J] (aE (r5 a0 J)):=(fun(h:P_ a0 J (r5 a0 J))=>aZ.run (ps:=[.frame,.int]) (rs:=[.int]) (x:=(a0,J,())) (r:=((r5 a0 J),())) ⟨24,cH,[IC,acA,acr]⟩ ⟨[],[],[],[],[]⟩ .nil Tryz.func7 h) (by
 unfold P_ Qa uH r5 o3 dG tn
 have ab:0≤J∧J≤1048576:=ab
 refine⟨ab,oI (m:=a0.aq.length+ud a0.O) ab (by omega) fun c k=>⟨k,?_⟩⟩
 rw[rH ab.1 c]
 refine oI (m:=ud a0.O) ab (by omega) fun c k=>⟨k,?_⟩
 rw[rH ab.1 c]
 exact oI (m:=0) ab (by omega) fun c k=>rfl)
end
section
variable (a0 aa:dy)
def acX:Prop:=
 (a0.cJ=aa.cJ)∧(a0.bp=aa.bp)
theorem acY:aZ Tryz.prog 91 [.agg (bE a0)] (.agg (bE (aI a0))):=(fun(h:acX a0 (aI a0))=>aZ.run (ps:=[.ep]) (rs:=[.ep]) (x:=(a0,())) (r:=((aI a0),())) ⟨11,cH,[]⟩ ⟨[],[],[],[],[]⟩ .nil Tryz.func91 h) (by
 exact⟨rfl,rfl⟩)
def acZ:cQ Tryz.prog:=⟨91,[.ep],[.ep],none,fun x=>((aI x.1),()),fun x h=>acY x.1⟩
end
section
variable (ae:(List dy)→Int→Prop) (ag:(List dy)→Int→Nat) (a0 aa:(List dy))
def QE:Prop:=
  ae (List.replicate (a0.length:Int).toNat ({cJ:=(0:Int),bp:=(0:Int)}:dy)) 0∧ ∀(aA:(List dy)) (v4:Int),ae aA v4→(((decide (v4<(a0.length:Int)))=false→aA.length≤4611686018427387904∧aA=aa)∧((decide (v4<(a0.length:Int)))=true→((0≤v4∧v4.toNat<a0.length)∧((0≤v4∧v4.toNat<aA.length)∧(v4.toNat<aA.length)))∧(ae (aA.set v4.toNat (aI (nth a0 v4))) (IntKind.i64.wrap (v4+1))∧ag (aA.set v4.toNat (aI (nth a0 v4))) (IntKind.i64.wrap (v4+1))<ag aA v4)))
def QD (a0:(List dy)) (aa:(List dy)) (ae:(List dy)→Int→Prop) (ag:(List dy)→Int→Nat):Prop:=
 (a0.length≤4611686018427387904→0≤(a0.length:Int)∧16*(a0.length:Int)≤140737488355328∧(a0.length:Int)≤4611686018427387904)∧(a0.length≤4611686018427387904→QE ae ag a0 aa)
theorem acV (ab:small a0):aZ Tryz.prog 47 [bC bE a0] (oT bE (aI a0)):=(fun(ae:(List dy)→Int→Prop) (ag:(List dy)→Int→Nat) (h:QD a0 (aI a0) ae ag)=>aZ.run (ps:=[(.l .ep)]) (rs:=[(.l .ep)]) (x:=(a0,())) (r:=((aI a0),())) ⟨23,cH,[acZ]⟩ ⟨[10],[],[],[],[]⟩ (.lp [] [0] [] [(.l .ep),.int] [br 0,4] (fun aD=>[(3,.ref 0 0 aD.1.length false),(4,.i .i64 aD.2.1),(br 0,.blk 0 .ep aD.1 _ rfl)]) (fun aD=>ae aD.1 aD.2.1) (fun aD=>ag aD.1 aD.2.1) fun _=> .nil) Tryz.func47 h) (nu a0 aI ({cJ:=(0:Int),bp:=(0:Int)}:dy)) (od a0) (by
 unfold QD QE
 have ab:a0.length≤1048576:=ab
 exact⟨fun ad=>⟨c9 _,by omega,by omega⟩,fun ad=>B8 (f:=aI) ad (z1 _)⟩)
def acW:cQ Tryz.prog:=⟨47,[(.l .ep)],[(.l .ep)],some fun x=>small x.1,fun x=>((aI x.1),()),fun x h=>acV x.1 h⟩
end
section
variable (a0 aa:aC)
def acL:Prop:=
 (small a0.ak)∧((a0.aK=aa.aK)∧(a0.a1=aa.a1)∧((aI a0.ak)=aa.ak)∧(a0.cn=aa.cn)∧(a0.cx=aa.cx))
theorem acM (ab:AM a0):aZ Tryz.prog 92 [.agg (ec false a0)] (.agg (ec true (aI a0))):=(fun(h:acL a0 (aI a0))=>aZ.run (ps:=[.held]) (rs:=[.held]) (x:=(a0,())) (r:=((aI a0),())) ⟨21,cH,[ID]⟩ ⟨[],[],[],[],[]⟩ .nil Tryz.func92 h) (by
 exact⟨ab,rfl,rfl,rfl,rfl,rfl⟩)
def acN:cQ Tryz.prog:=⟨92,[.held],[.held],some fun x=>AM x.1,fun x=>((aI x.1),()),fun x h=>acM x.1 h⟩
end
section
variable (ae:(List aC)→Int→Prop) (ag:(List aC)→Int→Nat) (a0 aa aA:(List aC)) (v4:Int)
def Qv:Prop:=
  ((decide (v4<(a0.length:Int)))=false→aA.length≤4611686018427387904∧aA=aa)∧((decide (v4<(a0.length:Int)))=true→((0≤v4∧v4.toNat<a0.length)∧((AM (nth a0 v4))∧((0≤v4∧v4.toNat<aA.length)∧(v4.toNat<aA.length))))∧(ae (aA.set v4.toNat (aI (nth a0 v4))) (IntKind.i64.wrap (v4+1))∧ag (aA.set v4.toNat (aI (nth a0 v4))) (IntKind.i64.wrap (v4+1))<ag aA v4))
def Qw:Prop:=
  (a0.length≤4611686018427387904→0≤(a0.length:Int)∧56*(a0.length:Int)≤140737488355328∧(a0.length:Int)≤4611686018427387904)∧(a0.length≤4611686018427387904→ae (List.replicate (a0.length:Int).toNat ({aK:=(0:Int),a1:=(0:Int),ak:=([]:(List Bool)),cn:=false,cx:=(0:Int)}:aC)) 0∧ ∀(aA:(List aC)) (v4:Int),ae aA v4→(Qv ae ag a0 aa aA v4))
def Qu (a0:(List aC)) (aa:(List aC)) (ae:(List aC)→Int→Prop) (ag:(List aC)→Int→Nat):Prop:=
 Qw ae ag a0 aa
theorem acJ (ab:D3 a0):aZ Tryz.prog 48 [bC (ec false) a0] (oT (ec false) (aI a0)):=(fun(ae:(List aC)→Int→Prop) (ag:(List aC)→Int→Nat) (h:Qu a0 (aI a0) ae ag)=>aZ.run (ps:=[(.l .held)]) (rs:=[(.l .held)]) (x:=(a0,())) (r:=((aI a0),())) ⟨23,cH,[acN]⟩ ⟨[10],[],[],[],[]⟩ (.lp [] [0] [] [(.l .held),.int] [br 0,4] (fun aD=>[(3,.ref 0 0 aD.1.length false),(4,.i .i64 aD.2.1),(br 0,.blk 0 .held aD.1 _ rfl)]) (fun aD=>ae aD.1 aD.2.1) (fun aD=>ag aD.1 aD.2.1) fun _=> .nil) Tryz.func48 h) (nu a0 aI ({aK:=(0:Int),a1:=(0:Int),ak:=([]:(List Bool)),cn:=false,cx:=(0:Int)}:aC)) (od a0) (by
 unfold Qu Qw Qv
 have ab:a0.length+(a0.map fun h=>h.ak.length).sum≤1048576:=ab
 refine⟨fun ad=>⟨c9 _,by omega,by omega⟩,fun ad=>B7 (f:=aI) (φ:=fun v=>AM (nth a0 v)) ad (z1 _) fun v _ hv=> ?_⟩
 have:=z7 (fun h:aC=>h.ak.length) (eP hv)
 unfold AM;omega)
def acK:cQ Tryz.prog:=⟨48,[(.l .held)],[(.l .held)],some fun x=>D3 x.1,fun x=>((aI x.1),()),fun x h=>acJ x.1 h⟩
end
section
variable (a0 aa:Frame)
def Qt:Prop:=
 (small a0.aG)∧((small a0.aq)∧((D3 a0.O)∧((a0.ok=aa.ok)∧((aI a0.aG)=aa.aG)∧((aI a0.aq)=aa.aq)∧((aI a0.O)=aa.O))))
theorem acI (ab:D2 a0):aZ Tryz.prog 10 [.agg (cg false a0)] (.agg (cg true (aI a0))):=(fun(h:Qt a0 (aI a0))=>aZ.run (ps:=[.frame]) (rs:=[.frame]) (x:=(a0,())) (r:=((aI a0),())) ⟨20,cH,[ID,acW,acK]⟩ ⟨[],[],[],[],[]⟩ .nil Tryz.func10 h) (by
 have ab:a0.aG.length+a0.aq.length+ud a0.O≤1048576:=ab
 unfold Qt small D3
 exact⟨by omega,by omega,by omega,rfl,rfl,rfl,rfl⟩)
end
end Go.Proofs.YtejmihecgodhnaaGreat.Fw
set_option linter.unusedVariables false
namespace Go.Proofs.YtejmihecgodhnaaGreat.Fw
open Go
def lJ (a n:Int):Bool:=decide (0≤a)&&decide (a<n)
theorem Ir {a n:Int}:lJ a n=true↔0≤a∧a<n:=by unfold lJ;simp
theorem abt {a n:Int}:cc a 0 (n - 1)=lJ a n:=by unfold lJ cc;rw[Bool.eq_iff_iff];simp;omega
structure Fit (p:aV) (f:Frame):Prop where
 nx:gY p=true
 fr:kZ p f
theorem Ce {p:aV} {f:Frame} (h:hN p f=true):Fit p f:=by
 obtain⟨h1,h2,ay,bg,cW⟩:=y7.1 h
 refine⟨(y6.1 h1).1,Gp h1 fun i i0 i1=> ?_⟩
 have:=ay i i0 i1
 rw[Cl,Bool.and_eq_true] at this;exact this.1
theorem Fit.in {p:aV} {f:Frame} (h:Fit p f):vK p:=Dx h.nx
def Gn (p:aV) (f:Frame) (i:Int):Prop:=nW f
def iX (p:aV) (f:Frame) (i s:Int):Bool:=((nth f.O i).aK !=0)&&((nth p.O i).ah.drop (nth f.O i).a1.toNat).contains s
def wP (p:aV) (f:Frame) (i s:Int):Prop:=Fit p f∧0≤i∧i<p.O.length
theorem afI {p:aV} (h:gY p=true) {w:Way} (hw:w∈p.O):w.ah.Nodup:=(uM.1 (oQ.1 ((Ak h).2.2.1 w hw)).2.1).2.2
theorem BS {l:List Int} {g:Nat} {s:Int}:(l.drop g).contains s=true↔ ∃k,g≤k∧ ∃h:k<l.length,l[k]=s:=by
 rw[List.contains_iff_mem,List.mem_iff_getElem]
 constructor
 ·rintro⟨i,hi,he⟩
  rw[List.length_drop] at hi
  rw[List.getElem_drop] at he
  exact⟨g+i,by omega,by omega,he⟩
 ·rintro⟨k,aB,hk,he⟩
  refine⟨k - g,by rw[List.length_drop];omega,?_⟩
  rw[List.getElem_drop]
  simp only[show g+(k - g)=k by omega];exact he
theorem has_eq {l:List Int} (ad:l.Nodup) {g s:Int} (au:0≤g):(decide (mV l s ≥ g)&&decide (mV l s ≥ 0))=(l.drop g.toNat).contains s:=by
 unfold mV
 cases h:first l (fun x=>s==x) with
 | none=>
  have:(l.drop g.toNat).contains s=false:=by
   rw[←Bool.not_eq_true,BS]
   rintro⟨k,_,hk,he⟩
   have:=qU h _ (List.getElem_mem hk)
   rw[he] at this;simp at this
  rw[this];simp[Dq]
 | some i=>
  unfold first at h
  rw[List.findIdx?_eq_some_iff_getElem] at h
  obtain⟨hi,hx,_⟩:=h
  have hx:s=l[i]:=by simpa using hx
  have hx:=hx.symm
  rw[Bool.eq_iff_iff,BS]
  show(decide ((i:Int) ≥ g)&&decide ((i:Int) ≥ 0))=true↔_
  simp only[Bool.and_eq_true,decide_eq_true_eq]
  constructor
  ·intro h;exact⟨i,by omega,hi,hx⟩
  ·rintro⟨k,aB,hk,he⟩
   have:k=i:=by
    exact(List.getElem_inj ad).1 (he.trans hx.symm)
   omega
def dz (q:Int→Bool) (v:Int):List Int:=((List.range v.toNat).filter fun i=>q (i:Nat)).map fun i=>((i:Nat):Int)
theorem Xl (q:Int→Bool):dz q 0=[]:=rfl
theorem y4 {q:Int→Bool} {v:Int} (h:0≤v):dz q (v+1)=if q v=true then dz q v++[v] else dz q v:=by
 unfold dz
 rw[show(v+1).toNat=v.toNat+1 by omega,List.range_succ,List.filter_append,List.map_append]
 have hv:((v.toNat:Nat):Int)=v:=by omega
 cases U:q v with
 | true=>simp[hv,U]
 | false=>simp[hv,U]
theorem o0 (q:Int→Bool) (v:Int):(dz q v).length≤v.toNat:=by
 unfold dz
 rw[List.length_map]
 exact Nat.le_trans (List.length_filter_le _ _) (by simp)
def uK (x:cR) (k:Int):Bool:=x.bd==k
def rv (l:List cR) (k:Int):Int:=Dq (first l (fun x=>x.bd==k))
def kS (l:List cR) (k:Int):Bool:=l.any fun x=>x.bd==k
theorem aah (l:List cR) (k:Int):(decide (rv l k ≥ 0))=kS l k:=by
 unfold rv kS
 cases h:first l (fun x=>x.bd==k) with
 | none=>
  rw[List.any_eq_false.2 fun x hx=>by rw[qU h x hx];simp];rfl
 | some i=>
  unfold first at h
  rw[List.findIdx?_eq_some_iff_getElem] at h
  obtain⟨hi,hx,_⟩:=h
  rw[List.any_eq_true.2 ⟨_,List.getElem_mem hi,hx⟩]
  show decide ((i:Int) ≥ 0)=true
  simp
def lX (p:aV) (f:Frame) (i k:Int):Bool:=((nth f.O i).aK !=0)&&(kS (nth p.O i).cv k || (kS (nth p.O i).bp k&&iX p f i (nth p.bf k)))
def lL (p:aV) (f:Frame) (k:Int):List Int:=dz (fun i=>lX p f i k) p.O.length
def xv (p:aV) (f:Frame) (k:Int):Prop:=Fit p f∧0≤k∧k<p.bf.length
def oP (p:aV) (f:Frame) (i k:Int):Int:=if(nth f.O i).aK=0 then 0 else match first (nth p.O i).cv (fun x=>x.bd==k) with
 | some j=>(nth (nth p.O i).cv j).bG
 | none=>match first (nth p.O i).bp (fun x=>x.bd==k&&iX p f i (nth p.bf k)) with
  | some j=>(nth (nth p.O i).bp j).bG
  | none=>0
def Ll (p:aV) (f:Frame) (i k:Int):Prop:=Fit p f∧0≤i∧i<p.O.length∧0≤k∧k<p.bf.length
theorem II {p:aV} (h:gY p=true) {w:Way} (hw:w∈p.O) {l:cR} (ao:l∈bS w):l.bG=1∨l.bG=2:=by
 have aB:=oQ.1 ((Ak h).2.2.1 w hw)
 have key: ∀{rI:List cR},lK p rI=true→ ∀x∈rI,x.bG=1∨x.bG=2:=fun h x hx=>by
  have:=(mY.1 h).2.1 x hx
  rw[Bool.and_eq_true] at this
  have:=zP.1 this.2
  omega
 rcases List.mem_append.1 ao with ao | ao
 ·exact key aB.2.2.2.2.1 l ao
 ·exact key aB.2.2.2.2.2.1 l ao
theorem Gh {α:Type} [Inhabited α] {xs:List α} {q:α→Bool} {j:Nat} (h:first xs q=some j):nth xs j∈xs∧q (nth xs j)=true:=by
 unfold first at h
 rw[List.findIdx?_eq_some_iff_getElem] at h
 obtain⟨hi,hx,_⟩:=h
 rw[jt hi]
 exact⟨List.getElem_mem hi,hx⟩
theorem ah9 {p:aV} {f:Frame} {i k:Int} (h:gY p=true) (hi:i.toNat<p.O.length):decide (oP p f i k>0)=lX p f i k:=by
 unfold oP lX kS
 by_cases hs:(nth f.O i).aK=0
 ·rw[if_pos hs,show((nth f.O i).aK !=0)=false by simpa using hs];rfl
 ·rw[if_neg hs,show((nth f.O i).aK !=0)=true by simpa using hs,Bool.true_and]
  have hm:=eP hi
  cases h1:first (nth p.O i).cv (fun x=>x.bd==k) with
  | some j=>
   have:=Gh h1
   rw[List.any_eq_true.2 ⟨_,this⟩,Bool.true_or]
   have:=II h hm (List.mem_append_right _ this.1)
   simp only[decide_eq_true_eq];omega
  | none=>
   rw[List.any_eq_false.2 fun x hx=>by rw[qU h1 x hx];simp,Bool.false_or]
   cases h2:first (nth p.O i).bp (fun x=>x.bd==k&&iX p f i (nth p.bf k)) with
   | some j=>
    have:=Gh h2
    have ay:=this.2
    rw[Bool.and_eq_true] at ay
    rw[List.any_eq_true.2 ⟨_,this.1,ay.1⟩,ay.2,Bool.true_and]
    have:=II h hm (List.mem_append_left _ this.1)
    simp only[decide_eq_true_eq];omega
   | none=>
    have:((nth p.O i).bp.any (fun x=>x.bd==k)&&iX p f i (nth p.bf k))=false:=by
     rw[Bool.and_eq_false_iff]
     cases bm:iX p f i (nth p.bf k) with
     | false=>exact .inr rfl
     | true=>
      refine .inl (List.any_eq_false.2 fun x hx=> ?_)
      have:=qU h2 x hx
      rw[bm,Bool.and_true] at this
      rw[this];simp
    rw[this];rfl
def kN (p:aV) (f:Frame) (w k:Int):Bool:=(k !=w)&&(((nth f.O k).aK !=0)&&(l4 p w k || (meets (nth p.O w).ah (nth p.O k).cK || meets (nth p.O w).cK (nth p.O k).ah)))
def mc (p:aV) (f:Frame) (w s:Int):Bool:=nth f.aG s&&(fZ (nth p.O w).ah s || fZ (nth p.O w).cK s)
def kg (p:aV) (f:Frame) (w k:Int):Bool:=(bS (nth p.O w)).any fun l=>l.bd==k&& !((nth f.aq k).cJ==l.bG)
def ot (p:aV) (f:Frame) (k:Int):Bool:=decide (((lL p f k).length:Int)>0)
def ow (p:aV) (f:Frame) (k:Int):Bool:=nth f.aG (nth p.bf k)
def j9 (p:aV) (f:Frame) (w k:Int):Bool:=kg p f w k&&(ot p f k || ow p f k)
def g_ (p:aV) (f:Frame) (w:Int):gB:=⟨dz (kN p f w) p.O.length,dz (mc p f w) p.ah,dz (j9 p f w) p.bf.length⟩
def Gi (p:aV) (f:Frame) (w:Int):Bool:= !(dz (fun k=>kg p f w k&&ot p f k) p.bf.length).isEmpty
def JQ (p:aV) (f:Frame) (w:Int):Bool:= !(dz (fun k=>kg p f w k&&ow p f k) p.bf.length).isEmpty
def tJ (p:aV) (f:Frame) (w:Int):gB×Bool×Bool:=(g_ p f w,Gi p f w,JQ p f w)
def codeF (p:aV) (f:Frame) (w:Int):Int:=if(g_ p f w).O≠[] then 3 else if(g_ p f w).ah≠[] then 4 else if Gi p f w=true then 5 else if JQ p f w=true then 6 else 0
def qB (p:aV) (f:Frame) (w:Int):gB×Int:=(g_ p f w,codeF p f w)
def yq (p:aV) (f:Frame) (w:Int):Prop:=Fit p f∧0≤w∧w<p.O.length
theorem p3 {q:Int→Bool} {N v:Int} (ad:N≤4611686018427387904) (aR:cj N (fun _=>false) v) (hv:decide (v<N)=true):
  (q v=true→dz q v++[v]=dz q (IntKind.i64.wrap (v+1)))∧(q v=false→dz q v=dz q (IntKind.i64.wrap (v+1)))∧(!(dz q (IntKind.i64.wrap (v+1))).isEmpty)=(!(dz q v).isEmpty || q v):=by
 rw[nh ad aR.1 (by simpa using hv),y4 aR.1]
 refine⟨fun h=>by rw[if_pos h],fun h=>by rw[if_neg (by rw[h];simp)],?_⟩
 cases h:q v with
 | true=>simp
 | false=>simp
theorem wo {q:Int→Bool} {N v:Int} (aR:cj N (fun _=>false) v) (hv:decide (v<N)=false):dz q v=dz q N:=by
 have: ¬v<N:=by simpa using hv
 have h1:=aR.2.1
 rw[show v=N by omega]
def mZ (p:aV) (f:Frame) (w k:Int) (j:Nat):Bool:=((bS (nth p.O w)).take j).any fun l=>l.bd==k&& !((nth f.aq k).cJ==l.bG)
theorem afJ (p:aV) (f:Frame) (w k:Int) {j:Nat} (h:(bS (nth p.O w)).length≤j):mZ p f w k j=kg p f w k:=by
 unfold mZ kg;rw[List.take_of_length_le h]
theorem afL {p:aV} {f:Frame} {w k:Int} {j:Nat} (h:j<(bS (nth p.O w)).length):mZ p f w k (j+1)=(mZ p f w k j || ((bS (nth p.O w))[j].bd==k&& !((nth f.aq k).cJ==(bS (nth p.O w))[j].bG))):=by
 unfold mZ;rw[List.take_succ_eq_append_getElem h,List.any_append];simp
theorem I0 {p:aV} (h:gY p=true) {w:Way} (hw:w∈p.O):((bS w).map (·.bd)).Nodup:=(oQ.1 ((Ak h).2.2.1 w hw)).2.2.2.2.2.2.1
theorem afK {p:aV} {f:Frame} {w k:Int} {j:Nat} (ad:((bS (nth p.O w)).map (·.bd)).Nodup) (h:j<(bS (nth p.O w)).length) (hk:((bS (nth p.O w))[j].bd==k)=true):mZ p f w k j=false:=by
 unfold mZ
 rw[List.any_eq_false]
 intro l ao
 obtain⟨i,hi,rfl⟩:=List.mem_take_iff_getElem.1 ao
 have f_:i<(bS (nth p.O w)).length:=by omega
 intro hc
 rw[Bool.and_eq_true] at hc
 have ax:(bS (nth p.O w))[i].bd=k:=by simpa using hc.1
 have e2:(bS (nth p.O w))[j].bd=k:=by simpa using hk
 have:=(List.getElem_inj (xs:=(bS (nth p.O w)).map (·.bd)) (i:=i) (j:=j) (h₀:=by simpa using f_) (h₁:=by simpa using h) ad).1 (by simp[ax,e2])
 omega
def VJ (p:aV) (f:Frame) (w k:Int) (x:List Int) (a b:Bool) (kW:List Int) (j:Int) (gi bH:Bool):Prop:=
 cj (bS (nth p.O w)).length (fun _=>false) j∧kW=(if(mZ p f w k j.toNat&&(ot p f k || ow p f k))=true then x++[k] else x)∧gi=(a || (mZ p f w k j.toNat&&ot p f k))∧bH=(b || (mZ p f w k j.toNat&&ow p f k))
def wq (p:aV) (f:Frame) (w v:Int):Bool:= !(dz (fun k=>kg p f w k&&ot p f k) v).isEmpty
def AL (p:aV) (f:Frame) (w v:Int):Bool:= !(dz (fun k=>kg p f w k&&ow p f k) v).isEmpty
def wF (p:aV) (f:Frame) (w v:Int):Int:=if wq p f w v=true then 5 else if AL p f w v=true then 6 else 0
def qm (a:Int) (l:List cR) (k:Int):Int:=l.foldl (fun a x=>bif x.bd==k then x.bG else a) a
theorem QN {l:List cR} {k:Int} (h: ∀x∈l,(x.bd==k)=false): ∀a,qm a l k=a:=by
 induction l with
 | nil=>intro a;rfl
 | cons x l bn=>
  intro a
  show qm (bif x.bd==k then x.bG else a) l k=a
  rw[h x List.mem_cons_self]
  exact bn (fun y aS=>h y (List.mem_cons_of_mem _ aS)) a
theorem IH {l:List cR} {k:Int} (ad:(l.map (·.bd)).Nodup) {x:cR} (hx:x∈l) (hk:(x.bd==k)=true): ∀a,qm a l k=x.bG:=by
 induction l with
 | nil=>cases hx
 | cons y l bn=>
  intro a
  show qm (bif y.bd==k then y.bG else a) l k=x.bG
  rw[List.map_cons,List.nodup_cons] at ad
  rcases List.mem_cons.1 hx with rfl | hx
  ·rw[hk]
   refine QN (fun z av=> ?_) _
   have hk:x.bd=k:=by simpa using hk
   rw[←hk,beq_eq_false_iff_ne]
   intro e
   exact ad.1 (List.mem_map.2 ⟨z,av,e⟩)
  ·exact bn ad.2 hx _
theorem adj {p:aV} {f:Frame} {w k:Int} (h:gY p=true) (hw:w.toNat<p.O.length):((qm 0 (bS (nth p.O w)) k==0) || (qm 0 (bS (nth p.O w)) k==(nth f.aq k).cJ))= !kg p f w k:=by
 have hm:=eP hw
 have ad:=I0 h hm
 cases hf:first (bS (nth p.O w)) (fun x=>x.bd==k) with
 | none=>
  have dU:=qU hf
  rw[QN dU,show kg p f w k=false from List.any_eq_false.2 fun x hx=>by rw[dU x hx];simp];rfl
 | some j=>
  obtain⟨h1,h2⟩:=Gh hf
  have ao:=II h hm h1
  rw[IH ad h1 h2]
  have z:((nth (bS (nth p.O w)) (j:Int)).bG==0)=false:=by rw[beq_eq_false_iff_ne];omega
  rw[z,Bool.false_or]
  have ar:kg p f w k= !((nth f.aq k).cJ==(nth (bS (nth p.O w)) (j:Int)).bG):=by
   cases hb:((nth f.aq k).cJ==(nth (bS (nth p.O w)) (j:Int)).bG) with
   | false=>exact List.any_eq_true.2 ⟨_,h1,by rw[h2,hb];rfl⟩
   | true=>
    refine List.any_eq_false.2 fun x hx hc=> ?_
    rw[Bool.and_eq_true] at hc
    have ax:=IH ad hx hc.1 0
    rw[IH ad h1 h2] at ax
    rw[ax] at hb
    rw[hb] at hc;cases hc.2
  rw[ar,Bool.not_not,Bool.eq_iff_iff,beq_iff_eq,beq_iff_eq]
  exact⟨Eq.symm,Eq.symm⟩
open Go Go.RowKit
theorem Fq {p:aV} {l:Int} (hk:fE p l) {w:World} {v:Value} (h:V2 (Env.at w) (.agg (bV false p)) v):
    Calls Tryz.prog 6 #[v,.int .i64 l] w fun e w'=>e= .returned (.int .i64 (pI p l))∧Below w.heap.size w w':=
  aZ.int (vs:=[v,.int .i64 l]) (acy p l hk) (.cons h (.cons (aL.int _ _) .nil))
theorem Mj {p:Frame} {l:Int} (hk:fE p l) {w:World} {v:Value} (h:V2 (Env.at w) (.agg (cg false p)) v):
    Calls Tryz.prog 7 #[v,.int .i64 l] w fun e w'=>e= .returned (.int .i64 (r5 p l))∧Below w.heap.size w w':=
  aZ.int (vs:=[v,.int .i64 l]) (acp p l hk) (.cons h (.cons (aL.int _ _) .nil))
theorem Eo {p:aV} {w:World} {B:Nat→Prop} {v:Value} (h:dR w B (.agg (bV false p)) v): ∃bD bj bx bc bw a8,v= .agg #[.int .i64 p.ah,.slice bD p.bf.length bj,.slice bx p.O.length bc,.slice bw p.bk.length a8,.int .i64 p.cY]∧
    aL w B (fun _=>False) (.aJ (p.bf.map cs) false false) (.slice bD p.bf.length bj)∧aL w B (fun _=>False) (.aJ (p.O.map (ej false)) false false) (.slice bx p.O.length bc)∧aL w B (fun _=>False) (.aJ (p.bk.map (fM aX false)) false false) (.slice bw p.bk.length a8):=by
  obtain⟨vs,rfl,ab⟩:=(show ∃vs:List Value,v= .agg vs.toArray∧az (bQ (Env.ro w B)) (bV false p) vs from h)
  obtain⟨a,vs,rfl,ap,ab⟩:=ab.cons_inv
  obtain⟨b,vs,rfl,hb,ab⟩:=ab.cons_inv
  obtain⟨c,vs,rfl,hc,ab⟩:=ab.cons_inv
  obtain⟨d,vs,rfl,aO,ab⟩:=ab.cons_inv
  obtain⟨e,vs,rfl,he,ab⟩:=ab.cons_inv
  obtain rfl:=ab.mj
  have ap:aL w _ _ (.int .i64 p.ah) a:=ap
  have he:aL w _ _ (.int .i64 p.cY) e:=he
  cases ap;cases he
  obtain⟨bD,bj,rfl,eA⟩:=r6 (jD hb)
  obtain⟨bx,bc,rfl,cN⟩:=r6 (jD hc)
  obtain⟨bw,a8,rfl,c5⟩:=r6 (jD aO)
  rw[List.length_map] at eA cN c5
  exact⟨bD,bj,bx,bc,bw,a8,by simp,eA,cN,c5⟩
theorem En {p:Frame} {w:World} {B:Nat→Prop} {v:Value} (h:dR w B (.agg (cg false p)) v): ∃bD bj bx bc bw a8,v= .agg #[.bool p.ok,.slice bD p.aG.length bj,.slice bx p.aq.length bc,.slice bw p.O.length a8]∧
    aL w B (fun _=>False) (.aJ (p.aG.map aX) false false) (.slice bD p.aG.length bj)∧aL w B (fun _=>False) (.aJ (p.aq.map bE) false false) (.slice bx p.aq.length bc)∧aL w B (fun _=>False) (.aJ (p.O.map (ec false)) false false) (.slice bw p.O.length a8):=by
  obtain⟨vs,rfl,ab⟩:=(show ∃vs:List Value,v= .agg vs.toArray∧az (bQ (Env.ro w B)) (cg false p) vs from h)
  obtain⟨a,vs,rfl,ap,ab⟩:=ab.cons_inv
  obtain⟨b,vs,rfl,hb,ab⟩:=ab.cons_inv
  obtain⟨c,vs,rfl,hc,ab⟩:=ab.cons_inv
  obtain⟨d,vs,rfl,aO,ab⟩:=ab.cons_inv
  obtain rfl:=ab.mj
  have ap:aL w _ _ (.bool p.ok) a:=ap
  cases ap
  obtain⟨bD,bj,rfl,eA⟩:=r6 (jD hb)
  obtain⟨bx,bc,rfl,cN⟩:=r6 (jD hc)
  obtain⟨bw,a8,rfl,c5⟩:=r6 (jD aO)
  rw[List.length_map] at eA cN c5
  exact⟨bD,bj,bx,bc,bw,a8,by simp,eA,cN,c5⟩
theorem BL {p:aV} (ab:JZ p) {w:World} {v:Value} (h:V2 (Env.at w) (.agg (bV false p)) v):
    Calls Tryz.prog 9 #[v] w fun e w'=> ∃bD bj bx bc bw a8,e= .returned (.agg #[.int .i64 p.ah,.slice bD p.bf.length bj,.slice bx p.O.length bc,.slice bw p.bk.length a8,.int .i64 p.cY])∧Below w.heap.size w w'∧
      dR w' (eD w w') (.agg (bV false p)) (.agg #[.int .i64 p.ah,.slice bD p.bf.length bj,.slice bx p.O.length bc,.slice bw p.bk.length a8,.int .i64 p.cY]):=
  (aZ.A1 (e:= .ef) (x:=p) (vs:=[v]) (acU p ab) (.cons h .nil)).mono fun e w' ⟨d_,h1,h2,ay⟩=>by
    obtain⟨bD,bj,bx,bc,bw,a8,rfl,_⟩:=Eo ay
    exact⟨bD,bj,bx,bc,bw,a8,h1,h2,ay⟩
theorem BK {p:Frame} (ab:D2 p) {w:World} {v:Value} (h:V2 (Env.at w) (.agg (cg false p)) v):
    Calls Tryz.prog 10 #[v] w fun e w'=> ∃bD bj bx bc bw a8,e= .returned (.agg #[.bool p.ok,.slice bD p.aG.length bj,.slice bx p.aq.length bc,.slice bw p.O.length a8])∧Below w.heap.size w w'∧
      dR w' (eD w w') (.agg (cg false p)) (.agg #[.bool p.ok,.slice bD p.aG.length bj,.slice bx p.aq.length bc,.slice bw p.O.length a8]):=
  (aZ.A1 (e:= .frame) (x:=p) (vs:=[v]) (acI p ab) (.cons h .nil)).mono fun e w' ⟨d_,h1,h2,ay⟩=>by
    obtain⟨bD,bj,bx,bc,bw,a8,rfl,_⟩:=En ay
    exact⟨bD,bj,bx,bc,bw,a8,h1,h2,ay⟩
theorem Wl {p:aV} {w:World} {v u:Value} (h:V2 (Env.at w) (.agg (bV false p)) v) (k:V2 (Env.at w) (.agg (bV false p)) u):
    Calls Tryz.prog 13 #[v,u] w fun e w'=>e= .returned (.bool true)∧Below w.heap.size w w':=by
  have:=aZ.bool (vs:=[v,u]) (ab7 p p) (.cons h (.cons k .nil))
  unfold eqv at this
  rw[decide_eq_true rfl] at this
  exact this
theorem Wk {p:Frame} {w:World} {v u:Value} (h:V2 (Env.at w) (.agg (cg false p)) v) (k:V2 (Env.at w) (.agg (cg false p)) u):
    Calls Tryz.prog 14 #[v,u] w fun e w'=>e= .returned (.bool true)∧Below w.heap.size w w':=by
  have:=aZ.bool (vs:=[v,u]) (abR p p) (.cons h (.cons k .nil))
  unfold eqv at this
  rw[decide_eq_true rfl] at this
  exact this
def sW (p:aV):Nat:=p.bf.length+(p.O.map uR).sum+(p.bk.map List.length).sum
def sV (f:Frame):Nat:=f.aG.length+f.aq.length*2+(f.O.map uQ).sum
theorem Wo {p:aV} {w:World} {B:Nat→Prop} {v:Value} {k:Int} (h:dR w B (.agg (bV false p)) v) (cX: ∀c,B c→Plain w c) (au:0≤k) (h1:k+sW p≤4611686018427387904):
    Calls Tryz.prog 15 #[v,.int .i64 k] w fun e w'=>e= .returned (.int .i64 (k+(sW p:Nat)))∧dh B w w':=by
  obtain⟨bD,bj,bx,bc,bw,a8,rfl,eA,cN,c5⟩:=Eo h
  have hb: ∀c,B c→B c∧Plain w c:=fun c hc=>⟨hc,cX c hc⟩
  refine(adN w B p.ah p.cY bD bx bw _ _ _ _ _ _ _ _ _ k (C3 eA hb (fun _ h=>h.elim)) (abE cN hb (fun _ h=>h.elim)) (abB c5 hb (fun _ h=>h.elim)) au (by unfold sW at h1;omega)).mono ?_
  rintro e w' ⟨rfl,hk⟩
  exact⟨by congr 2;unfold sW;omega,hk⟩
theorem Wn {p:Frame} {w:World} {B:Nat→Prop} {v:Value} {k:Int} (h:dR w B (.agg (cg false p)) v) (cX: ∀c,B c→Plain w c) (au:0≤k) (h1:k+sV p≤4611686018427387904):
    Calls Tryz.prog 16 #[v,.int .i64 k] w fun e w'=>e= .returned (.int .i64 (k+(sV p:Nat)))∧dh B w w':=by
  obtain⟨bD,bj,bx,bc,bw,a8,rfl,eA,cN,c5⟩:=En h
  have hb: ∀c,B c→B c∧Plain w c:=fun c hc=>⟨hc,cX c hc⟩
  refine(adL w B p.ok bD bx bw _ _ _ _ _ _ _ _ _ k (Iy eA hb (fun _ h=>h.elim)) (abD cN hb (fun _ h=>h.elim)) (abC c5 hb (fun _ h=>h.elim)) au (by unfold sV at h1;omega)).mono ?_
  rintro e w' ⟨rfl,hk⟩
  exact⟨by congr 2;unfold sV;omega,hk⟩
theorem Uf {α:Type} {f g:α→Nat} (c:Nat) (h: ∀x,f x≤c*g x): ∀xs:List α,(xs.map f).sum≤c*(xs.map g).sum
  | []=>by simp
  | x::r=>by
    rw[List.map_cons,List.map_cons,List.sum_cons,List.sum_cons,Nat.mul_add]
    have:=h x
    have:=Uf c h r
    omega
theorem adU (p:aV):sW p≤2*kw p:=by
  unfold sW kw yo tI
  have:=Uf (f:=uR) (g:=r8) 2 (fun x=>by unfold uR r8;omega) p.O
  omega
theorem adT (f:Frame):sV f≤4*o3 f:=by
  unfold sV o3 ud
  have h1:(f.O.map uQ).sum≤4*f.O.length+(f.O.map fun h=>h.ak.length).sum:=by
    generalize f.O=l
    induction l with
    | nil=>simp
    | cons x r bn=>rw[List.map_cons,List.map_cons,List.sum_cons,List.sum_cons,List.length_cons];unfold uQ at bn ⊢;omega
  omega
theorem sk {w:World} {b:Nat} {bj bc a8 hZ:Value} {ty:TypeId} (h:w.heap[b]?=some (.cells #[bj,bc,a8,hZ] ty (0,0))):w.cell? ⟨b,0,none⟩=some bj∧w.cell? ⟨b,1,none⟩=some bc∧w.cell? ⟨b,2,none⟩=some a8∧w.cell? ⟨b,3,none⟩=some hZ:=by
  refine⟨?_,?_,?_,?_⟩<;>simp[World.cell?,h]
theorem qP {w:World} {b:Nat} {bj bc a8 hZ kJ:Value} {ty:TypeId} (h:w.heap[b]?=some (.cells #[bj,bc,a8,hZ,kJ] ty (0,0))):w.cell? ⟨b,0,none⟩=some bj∧w.cell? ⟨b,1,none⟩=some bc∧w.cell? ⟨b,2,none⟩=some a8∧w.cell? ⟨b,3,none⟩=some hZ∧w.cell? ⟨b,4,none⟩=some kJ:=by
  refine⟨?_,?_,?_,?_,?_⟩<;>simp[World.cell?,h]
theorem xl {aD w:World} {a:AV} {v:Value} (h:dR w (eD aD w) a v):V2 (Env.at w) a v:=h.at fun c hc=>hc.2.1
theorem Sy {W w:World} {l:List eQ} (h:b9 W w l) (i j:Nat) {b bH:Nat} {bj bc a8 hZ kJ f0 f1 f2 f3 f4:Value} {t hr:TypeId} (e:l[i]?=some (dC b #[bj,bc,a8,hZ,kJ] t):=by rfl) (bT:l[j]?=some (dC bH #[f0,f1,f2,f3,f4] hr):=by rfl):
    b9 W w l∧w.cell? ⟨b,0,none⟩=some bj∧w.cell? ⟨b,1,none⟩=some bc∧w.cell? ⟨b,2,none⟩=some a8∧w.cell? ⟨b,3,none⟩=some hZ∧w.cell? ⟨b,4,none⟩=some kJ∧w.cell? ⟨bH,0,none⟩=some f0∧w.cell? ⟨bH,1,none⟩=some f1∧w.cell? ⟨bH,2,none⟩=some f2∧w.cell? ⟨bH,3,none⟩=some f3∧w.cell? ⟨bH,4,none⟩=some f4:=by
  obtain⟨a0,J,a2,a3,a4⟩:=qP (h.get i e)
  obtain⟨b0,b1,b2,qN,EZ⟩:=qP (h.get j bT)
  exact⟨h,a0,J,a2,a3,a4,b0,b1,b2,qN,EZ⟩
theorem Sx {W w:World} {l:List eQ} (h:b9 W w l) (i j:Nat) {b bH:Nat} {bj bc a8 hZ f0 f1 f2 f3:Value} {t hr:TypeId} (e:l[i]?=some (dC b #[bj,bc,a8,hZ] t):=by rfl) (bT:l[j]?=some (dC bH #[f0,f1,f2,f3] hr):=by rfl):
    b9 W w l∧w.cell? ⟨b,0,none⟩=some bj∧w.cell? ⟨b,1,none⟩=some bc∧w.cell? ⟨b,2,none⟩=some a8∧w.cell? ⟨b,3,none⟩=some hZ∧w.cell? ⟨bH,0,none⟩=some f0∧w.cell? ⟨bH,1,none⟩=some f1∧w.cell? ⟨bH,2,none⟩=some f2∧w.cell? ⟨bH,3,none⟩=some f3:=by
  obtain⟨a0,J,a2,a3⟩:=sk (h.get i e)
  obtain⟨b0,b1,b2,qN⟩:=sk (h.get j bT)
  exact⟨h,a0,J,a2,a3,b0,b1,b2,qN⟩
theorem DU {W w:World} {l:List eQ} (h:b9 W w l) (i j:Nat) {b bH:Nat} {bj bc a8 hZ kJ f0 f1 f2 f3:Value} {t hr:TypeId} (e:l[i]?=some (dC b #[bj,bc,a8,hZ,kJ] t):=by rfl) (bT:l[j]?=some (dC bH #[f0,f1,f2,f3] hr):=by rfl):
    b9 W w l∧w.cell? ⟨b,0,none⟩=some bj∧w.cell? ⟨b,1,none⟩=some bc∧w.cell? ⟨b,2,none⟩=some a8∧w.cell? ⟨b,3,none⟩=some hZ∧w.cell? ⟨b,4,none⟩=some kJ∧w.cell? ⟨bH,0,none⟩=some f0∧w.cell? ⟨bH,1,none⟩=some f1∧w.cell? ⟨bH,2,none⟩=some f2∧w.cell? ⟨bH,3,none⟩=some f3:=by
  obtain⟨a0,J,a2,a3,a4⟩:=qP (h.get i e)
  obtain⟨b0,b1,b2,qN⟩:=sk (h.get j bT)
  exact⟨h,a0,J,a2,a3,a4,b0,b1,b2,qN⟩
def JP (b0 b1 b2 s:Nat) (ids:List Nat):Nat→Option Nat
 | 0=>some b0
 | 1=>some b1
 | 2=>some b2
 | j+3=>(ids[j]?).map fun id=>id+s
theorem aeq {R:Frame} {ok:Bool} {aG:List Bool} {m3:List dy} {ws:List aC} {ids:List Nat} {bs:List (List Bool)} {H:List Blk} {b0 b1 b2 g0 g1 g2 s bM cb n2:Nat} {f0 f1 f2:Bool} {pre pre':List Int}
  (aY:H[b0]?=some ⟨g0,1,List.map aX aG⟩) (dr:H[b1]?=some ⟨g1,2,List.map bE m3⟩) (gE:H[b2]?=some ⟨g2,5,bh s ws ids⟩) (bN:b0≠b1∧b0≠b2∧b1≠b2∧b0<s∧b1<s∧b2<s)
  (hf: ∀(id:Nat) (k:Blk),(List.map bK bs)[id]?=some k→H[id+s]?=some k) (G:jj ws ids bs)
  (h:pre=pre'∧ok=R.ok∧aG=R.aG∧m3=R.aq∧view ws ids bs=R.O) (au:bM=aG.length) (h1:cb=m3.length) (h2:n2=ws.length):
  ∃cL,sf H
   (⟨0,1,List.map aX R.aG⟩::⟨0,2,List.map bE R.aq⟩::⟨0,5,bh 3 R.O (List.range R.O.length)⟩::List.map bK (List.map aC.ak R.O)) cL∧
   EO H
    (⟨0,1,List.map aX R.aG⟩::⟨0,2,List.map bE R.aq⟩::⟨0,5,bh 3 R.O (List.range R.O.length)⟩::List.map bK (List.map aC.ak R.O)).length cL (.agg (pre.map (AV.int .i64)++[.bool ok,.ref b0 g0 0 bM f0,.ref b1 g1 0 cb f1,.ref b2 g2 0 n2 f2]))
    (.agg (pre'.map (AV.int .i64)++[.bool R.ok,.ref 0 0 0 R.aG.length false,.ref 1 0 0 R.aq.length false,.ref 2 0 0 R.O.length false])):=by
 obtain⟨rfl,rfl,rfl,rfl,hv⟩:=h
 subst au;subst h1;subst h2
 obtain⟨Q6,Q7,Q8,pq,kd,hB⟩:=bN
 have mU:R.O.length=ws.length:=by rw[←hv];exact jz G.ok
 have hlen:(⟨0,1,List.map aX R.aG⟩::⟨0,2,List.map bE R.aq⟩::⟨0,5,bh 3 R.O (List.range R.O.length)⟩::List.map bK (List.map aC.ak R.O):List Blk).length=R.O.length+3:=by simp
 have Od: ∀i,i<ws.length→ ∃x id,ws[i]?=some x∧ids[i]?=some id∧id<bs.length∧R.O[i]?=some {x with ak:=bs.getD id []}∧x.ak.length=(bs.getD id []).length:=fun i hi=>by
  have e2:ids[i]?=some (ids[i]'(by have:=G.ok.len;omega)):=List.getElem?_eq_getElem _
  exact⟨_,_,List.getElem?_eq_getElem hi,e2,G.ok.lt i _ e2,by rw[←hv];exact vw (List.getElem?_eq_getElem hi) e2,G.ok.ak i _ _ (List.getElem?_eq_getElem hi) e2⟩
 have rk: ∀j b,JP b0 b1 b2 s ids (j+3)=some b→ ∃id,ids[j]?=some id∧b=id+s:=fun j b e=>by
  have e:(ids[j]?).map (fun id=>id+s)=some b:=e
  cases q:ids[j]? with
  | none=>rw[q] at e;cases e
  | some id=>rw[q] at e;cases e;exact⟨id,rfl,rfl⟩
 refine⟨JP b0 b1 b2 s ids,⟨fun i j b hi af ax e2=> ?_,fun j k hk=> ?_,fun j b k hk e=> ?_⟩,.inl ⟨_,_,rfl,rfl,?_⟩⟩
 ·match i,j,ax,e2 with
  | 0,0,_,_=>rfl
  | 1,1,_,_=>rfl
  | 2,2,_,_=>rfl
  | 0,1,ax,e2=>cases ax;cases e2;exact absurd rfl Q6
  | 1,0,ax,e2=>cases ax;cases e2;exact absurd rfl Q6
  | 0,2,ax,e2=>cases ax;cases e2;exact absurd rfl Q7
  | 2,0,ax,e2=>cases ax;cases e2;exact absurd rfl Q7
  | 1,2,ax,e2=>cases ax;cases e2;exact absurd rfl Q8
  | 2,1,ax,e2=>cases ax;cases e2;exact absurd rfl Q8
  | 0,j+3,ax,e2=>obtain⟨id,_,h⟩:=rk j b e2;cases ax;omega
  | 1,j+3,ax,e2=>obtain⟨id,_,h⟩:=rk j b e2;cases ax;omega
  | 2,j+3,ax,e2=>obtain⟨id,_,h⟩:=rk j b e2;cases ax;omega
  | i+3,0,ax,e2=>obtain⟨id,_,h⟩:=rk i b ax;cases e2;omega
  | i+3,1,ax,e2=>obtain⟨id,_,h⟩:=rk i b ax;cases e2;omega
  | i+3,2,ax,e2=>obtain⟨id,_,h⟩:=rk i b ax;cases e2;omega
  | i+3,j+3,ax,e2=>
   obtain⟨id,q1,h⟩:=rk i b ax
   obtain⟨fk,q2,h'⟩:=rk j b e2
   obtain rfl:id=fk:=by omega
   rw[G.kt i j id q1 q2]
 ·match j,hk with
  | 0,hk=>simp at hk;subst hk;rfl
  | 1,hk=>simp at hk;subst hk;rfl
  | 2,hk=>simp at hk;subst hk;rfl
  | j+3,hk=>simp at hk;obtain⟨x,_,rfl⟩:=hk;rfl
 ·rw[hlen]
  match j,hk,e with
  | 0,hk,e=>simp at hk;subst hk;cases e;exact nU (b:=b0) aY uV rfl
  | 1,hk,e=>simp at hk;subst hk;cases e;exact nU (b:=b1) dr Dm rfl
  | 2,hk,e=>
   simp at hk;subst hk;cases e
   refine⟨_,gE,rfl,⟨by rw[tS G.ok.len,tS (by simp),mU],fun i ae_ dv ap hb=> ?_⟩⟩
   obtain⟨x,id,hx,aO,rfl⟩:=rX ap
   obtain⟨kW,fk,h4,pa,rfl⟩:=rX hb
   have wH:i<ws.length:=(List.getElem?_eq_some_iff.1 hx).1
   obtain⟨y,aab,h8,lj,Ah,uZ,RA⟩:=Od i wH
   rw[hx] at h8;cases h8
   rw[aO] at lj;cases lj
   rw[uZ] at h4;cases h4
   obtain rfl:i=fk:=by rw[List.getElem?_range (by omega)] at pa;exact Option.some.inj pa
   refine .cons (.int _ _) (.cons (.int _ _) (.cons ?_ (.cons (.bool _) (.cons (.int _ _) .nil))))
   show hY H _ _ (.ref (id+s) 0 0 x.ak.length false) (.ref (i+3) 0 0 (bs.getD id []).length false)
   rw[RA]
   refine hY.ref (blk:=bK (bs.getD id [])) (by omega) ?_ (hf id _ (p1 Ah)) rfl
   show(ids[i]?).map (fun id=>id+s)=_
   rw[aO];rfl
  | j+3,hk,e=>
   obtain⟨id,q1,rfl⟩:=rk j b e
   have hk:(List.map bK (List.map aC.ak R.O))[j]?=some k:=by simpa using hk
   have j_:j<ws.length:=by have:=(List.getElem?_eq_some_iff.1 q1).1;have:=G.ok.len;omega
   obtain⟨y,aab,h8,lj,Ah,uZ,RA⟩:=Od j j_
   rw[q1] at lj;cases lj
   rw[List.getElem?_map,List.getElem?_map,uZ] at hk
   cases hk
   exact nU (b:=id+s) (hf id _ (p1 Ah)) uV rfl
 ·rw[hlen]
  have key: ∀l:List Int,az (hY H (R.O.length+3) (JP b0 b1 b2 s ids)) (l.map (AV.int .i64)++[.bool R.ok,.ref b0 g0 0 R.aG.length f0,.ref b1 g1 0 R.aq.length f1,.ref b2 g2 0 ws.length f2]) (l.map (AV.int .i64)++[.bool R.ok,.ref 0 0 0 R.aG.length false,.ref 1 0 0 R.aq.length false,.ref 2 0 0 R.O.length false]):=fun l=>by
   induction l with
   | nil=>
    rw[mU]
    exact .cons (.bool _) (.cons (.ref (by omega) rfl aY rfl) (.cons (.ref (by omega) rfl dr rfl) (.cons (.ref (by omega) rfl gE rfl) .nil)))
   | cons x r bn=>exact .cons (.int _ _) bn
  exact key pre
def Rw (F:Frame):List Blk:=⟨0,1,List.map aX F.aG⟩::⟨0,2,List.map bE F.aq⟩::⟨0,5,bh 3 F.O (List.range F.O.length)⟩::List.map bK (List.map aC.ak F.O)
theorem aZ.aeb {P:Program} {f:FuncId} {args:List AV} {F:Frame} {l:List Int} (h:dg P f args [] fun r H=>r= .agg (l.map (AV.int .i64)++[.bool F.ok,.ref 0 0 0 F.aG.length false,.ref 1 0 0 F.aq.length false,.ref 2 0 0 F.O.length false])∧H=Rw F)
  (au:F.aG.length≤4611686018427387904) (h1:F.aq.length≤4611686018427387904) (h2:F.O.length≤4611686018427387904) (ay: ∀h∈F.O,h.ak.length≤4611686018427387904):aZ P f args (.agg (l.map (AV.int .i64)++cg true F)):=by
 refine h.mono fun r H ⟨ax,e2⟩=> ?_
 subst ax;subst e2
 obtain⟨cN,c5,fs⟩:=Ga F.O
 have key: ∀l:List Int,az (fi (Rw F)) (l.map (AV.int .i64)++[.bool F.ok,.ref 0 0 0 F.aG.length false,.ref 1 0 0 F.aq.length false,.ref 2 0 0 F.O.length false]) (l.map (AV.int .i64)++cg true F):=fun l=>by
  induction l with
  | nil=>
   refine az.cons (vp rfl) (az.cons (Ef (sz:=1) rfl rfl Fa ⟨au,rfl⟩) (az.cons (Ef (sz:=2) rfl rfl L9 ⟨h1,rfl⟩) (az.cons (ahw (s:=3) (ws:=F.O) (ids:=List.range F.O.length) (bs:=F.O.map aC.ak) rfl rfl (fun id k h=>h) ⟨cN,h2,fun x hx=> ?_,fs⟩) az.nil)))
   obtain⟨q,U,rfl⟩:=List.mem_map.1 hx
   exact ay q U
  | cons x r bn=>exact .cons (KT rfl) bn
 exact j0.agg (key l)
section
variable {E:Env} {H:List Blk} {F:Frame}
theorem mem_row {c o m:Nat} {b:Bool} {x:Nat×Nat×Bool} (h:x∈row c o b m):x.1=c∧o≤x.2.1∧x.2.1<o+m:=by
 obtain⟨i,hi,rfl⟩:=DT.1 h
 exact⟨rfl,Nat.le_add_right _ _,by show o+i<_;omega⟩
theorem De (c o:Nat) (b:Bool): ∀m,kn (row c o b m)
 | 0=>List.Pairwise.nil
 | m+1=>List.pairwise_append.2 ⟨De c o b m,List.pairwise_singleton _ _,fun x hx y aS=>by
   have h1:=mem_row hx
   rw[List.mem_singleton.1 aS]
   intro e
   have h2:x.2.1=o+m:=e.2
   omega⟩
theorem z6 {f:Nat→dO} {x:Nat×Nat×Bool}: ∀{n:Nat},x∈l6 f n→ ∃i,i<n∧x∈f i
 | n+1,h=>by
  rcases List.mem_append.1 h with h | h
  ·obtain⟨i,h1,h2⟩:=z6 h
   exact⟨i,by omega,h2⟩
  ·exact⟨n,by omega,h⟩
end
end Go.Proofs.YtejmihecgodhnaaGreat.Fw
