/- The framework, part Fz: a block that is not written any more is told by its content; blocks at the end that nothing leads to are forgotten. -/
import Derived.Test.YtejmihecgodhnaaGreatDoorM2
set_option linter.unusedVariables false
namespace Go.Proofs.YtejmihecgodhnaaGreatDoor.Fw
open Go
theorem akW {H:List Blk} {b j:Nat} {x y:Blk} (h:(H.set b x)[j]?=some y):(j=b∧y=x)∨(j≠b∧H[j]?=some y):=by
 rw[List.getElem?_set] at h
 split at h
 ·rename_i e;subst e
  split at h
  ·cases h;exact .inl ⟨rfl,rfl⟩
  ·cases h
 ·rename_i e;exact .inr ⟨fun h=>e h.symm,h⟩
theorem Ru [jc:cl] {b_ E:Env} {H:List Blk} {L:List (Nat×List AV)} (g:Good b_ E) (av:SimH E H) (bC:SimL E L) {b nK sz:Nat} {rows:List (List AV)} (hb:H[b]?=some ⟨nK,sz,rows⟩) (fZ:jc.n≤b)
  (hk: ∀row∈rows,∀a∈row,jQ a=true∧pt a=true) (gN:rows.length≤4611686018427387904):
  ∃E',E'.w=E.w∧Good b_ E'∧SimH E' (H.set b ⟨nK+1,sz,[]⟩)∧SimL E' L∧E.gy E'∧E'.mL=E.mL∧ ∀v full,e6 E (.ref b nK 0 rows.length full) v→aY E'.w E'.PA E'.PF (.aX (rows.map fun row=>row.map jL) false true) v:=by
 have ky:E.bf b=nK:=av.eV b _ hb
 have r8:=(List.getElem?_eq_some_iff.1 hb).1
 let E':Env:={E with PA:=fun c=>E.PA c∨E.m b=some (some c),PF:=fun c=>E.PF c∨E.m b=some (some c),m:=fun j=>if j=b then none else E.m j,bf:=fun j=>if j=b then nK+1 else E.bf j}
 have hm: ∀{j:Nat} {x:Option Nat},E'.m j=some x→j≠b∧E.m j=some x:=fun{j x} h=>by
  have h:(if j=b then none else E.m j)=some x:=h
  split at h
  ·cases h
  ·rename_i e;exact⟨e,h⟩
 have ax: ∀{j:Nat},j≠b→E'.bf j=E.bf j:=fun{j} h=>if_neg h
 have hle:E.gy E':=⟨fun _ h=> .inl h,fun _ h=> .inl h,fun _ _=>rfl,fun _ _=>rfl,fun j=>by
   show E.bf j≤(if j=b then nK+1 else E.bf j)
   split
   ·rename_i e;subst e;omega
   ·exact Nat.le_refl _,fun j x hx sc=>by
   have sc:(if j=b then nK+1 else E.bf j)=E.bf j:=sc
   have bU:j≠b:=fun e=>by subst e;rw[if_pos rfl] at sc;omega
   exact⟨by show(if j=b then none else E.m j)=_;rw[if_neg bU];exact hx,rfl,rfl⟩,fun _ _ h=>h⟩
 have ct: ∀c,E.m b=some (some c)→b_.w.heap.size≤c:=fun c hc=>(g.jq b c hc).elim (fun h=>by rw[(g.Da b fZ).1] at h;cases h) id
 have kB:=av.fq
 refine⟨E',rfl,?_,?_,?_,hle,rfl,?_⟩
 ·exact{g with
   le:=g.le.trans hle
   jq:=fun j c h=>g.jq j c (hm h).2
   jX:=g.jX
   fG:=fun c hc=>hc.elim (g.fG c) fun h=> .inr (ct c h)
   fz:=fun c hc=>hc.elim (g.fz c) fun h=> .inr (ct c h)}
 ·exact{av with
   heap:=fun j c h=>by
    obtain⟨bU,h⟩:=hm h
    obtain⟨blk,ay,ty,q1,cH,q2,q3,q4,cs,cD⟩:=av.heap j c h
    refine⟨blk,ay,ty,by rw[List.getElem?_set,if_neg (fun e=>bU e.symm)];exact q1,cH,q2,q3,q4,cs,fun i k row a h1 h2=> ?_⟩
    obtain⟨u,hu,ao⟩:=cD i k row a h1 h2
    exact⟨u,hu,ao.le hle.bL⟩
   eV:=fun j blk h=>by
    rcases akW h with⟨rfl,rfl⟩ | ⟨bU,h⟩
    ·exact if_pos rfl
    ·rw[ax bU];exact av.eV j blk h
   ha:=fun j h=>by
    obtain⟨bU,h⟩:=hm h
    obtain⟨blk,q1,q2⟩:=av.ha j h
    exact⟨blk,by rw[List.getElem?_set,if_neg (fun e=>bU e.symm)];exact q1,q2⟩
   fresh:=fun j h=>by
    rw[List.length_set] at h
    have:=av.fresh j h
    have bU:j≠b:=by omega
    exact⟨by show(if j=b then none else E.m j)=none;rw[if_neg bU];exact this.1,by rw[ax bU];exact this.2⟩
   hC:=fun j k c h1 h2=>av.hC j k c (hm h1).2 (hm h2).2
   gB:=fun j t c h1 h2=>av.gB j t c (hm h1).2 h2
   hF:=fun c hc ⟨j,al⟩=>by
    obtain⟨bU,al⟩:=hm al
    rcases hc with hc | hc
    ·exact av.hF c hc ⟨j,al⟩
    ·exact bU (av.hC j b c al hc)
   ii:=fun c hc ⟨t,a6⟩=>by
    rcases hc with hc | hc
    ·exact av.ii c hc ⟨t,a6⟩
    ·exact av.gB b t c hc a6
   dA:=fun c hc=>hc.elim (fun h=> .inl (av.dA c h)) .inr
   ft:=fun c hc=>hc.elim (av.ft c) fun h=>by
    obtain⟨_,ay,ty,_,_,q,_⟩:=av.heap b c h
    exact⟨ay,ty,q⟩
   dP:=fun c hc=>hc.elim (av.dP c) fun h=>kB c ⟨b,h⟩
   fq:=fun c ⟨j,al⟩=>kB c ⟨j,(hm al).2⟩}
 ·intro t c a6
  obtain⟨cells,ay,ty,q1,q2,q3⟩:=bC t c a6
  exact⟨cells,ay,ty,q1,q2,q3.mono fun _ _ k=>k.le hle.bL⟩
 ·intro v full hv
  rcases hv with⟨bz,_⟩ | ⟨f_,bz⟩
  ·omega
  ·rcases bz with⟨_,_,mq,A,rfl⟩ | ⟨c,cap,kX,rfl,p_,q6,r9⟩
   ·obtain rfl:rows=[]:=List.eq_nil_of_length_eq_zero mq
    exact aY.aX (rows:=[]) (PB:=fun _=>False) (sz:=0) (vs:=fun _ _=>undef) (fun _ h=>h.elim) ⟨Nat.le_refl _,Nat.zero_le _⟩ (fun _=>rfl) (fun i row h=>by simp at h) (fun h=>by simp at h) (fun i j row a h=>by simp at h)
   ·obtain⟨blk,ay,ty,q1,cH,q2,q3,q4,cs,cD⟩:=av.heap b c kX
    rw[hb] at q1
    cases q1
    have key:=aY.aX (w:=E.w) (PA:=E'.PA) (PF:=E'.PF) (PB:=E'.PF) (rows:=rows.map fun row=>row.map jL) (full:=false) (fresh:=true) (A:=some ⟨c,0,none⟩) (cap:=cap) (sz:=E.sz b) (vs:=fun i j=>(ay[i*E.sz b+j]?).getD undef)
     (fun c hc=>by simpa using hc) (by rw[List.length_map];exact⟨p_,gN⟩) (fun h=>by cases h) (fun i row' ao=> ?_) (fun lW=>⟨c,0,rfl,.inr kX,fun i j hi al=> ?_⟩) (fun i j row' ib ao al=> ?_)
    ·rw[List.length_map] at key
     show aY E.w E'.PA E'.PF _ (.slice (some ⟨c,0*E.sz b,none⟩) rows.length cap)
     rw[Nat.zero_mul];exact key
    ·rw[List.getElem?_map] at ao
     cases U:rows[i]? with
     | none=>simp[U] at ao
     | some row=>simp[U] at ao;subst ao;rw[List.length_map];exact cs i row U
    ·rw[List.length_map] at hi
     have ao:=List.getElem?_eq_getElem hi
     have aw:=cs i _ ao
     obtain⟨u,hu,_⟩:=cD i j _ _ ao (List.getElem?_eq_getElem (by rw[aw];exact al))
     rw[Nat.zero_add,cell_of q2 hu,hu];rfl
    ·rw[List.getElem?_map] at ao
     cases U:rows[i]? with
     | none=>simp[U] at ao
     | some row=>
      simp[U] at ao;subst ao
      rw[List.getElem?_map] at al
      cases ll:row[j]? with
      | none=>simp[ll] at al
      | some a=>
       simp[ll] at al;subst al
       obtain⟨u,hu,gP⟩:=cD i j row a U ll
       obtain⟨dk,gb⟩:=hk row (List.mem_of_getElem? U) a (List.mem_of_getElem? ll)
       rw[hu]
       exact(Z5 dk gb (EK dk gP)).mono (fun _ _=>rfl) (fun _ h=>h.elim) (fun c hc=> .inl hc) (fun _ h=>h)
theorem Weak.ad0 [jc:cl] (i:Nat) {T:List AV} {L:List (Nat×List AV)} {H:List Blk} {b nK sz n:Nat} {full:Bool} {rows:List (List AV)} (b7:T.getD i .undef= .ref b nK 0 n full) (ag:n=rows.length) (hb:H[b]?=some ⟨nK,sz,rows⟩) (fZ:jc.n≤b)
  (hk: ∀row∈rows,∀a∈row,jQ a=true∧pt a=true) (gN:rows.length≤4611686018427387904):Weak ⟨T,L,H⟩ ⟨T.set i (.aX (rows.map fun row=>row.map jL) false true),L,H.set b ⟨nK+1,sz,[]⟩⟩:=fun b_ E tmps g s=>by
 subst ag
 obtain⟨E',hw,ax,h1,h2,hle,SD,hv⟩:=Ru g s.h s.l hb fZ hk gN
 refine⟨E',hw,ax,h1,h2,fun t=> ?_,by simpa using s.size⟩
 show V3 E' ((T.set i _).getD t .undef) _
 rw[tm]
 split
 ·rename_i U
  obtain⟨rfl,_⟩:=U
  have az:V3 E (T.getD i .undef) (tmps.getD i undef):=s.iI i
  rw[b7] at az
  exact hv _ full az
 ·exact(s.iI t).le hle
theorem Weak.adZ [jc:cl] (t i:Nat) {T:List AV} {L:List (Nat×List AV)} {H:List Blk} {cells:List AV} {b nK sz n:Nat} {full:Bool} {rows:List (List AV)} (hc:eB L t=some cells) (b7:cells.getD i .undef= .ref b nK 0 n full) (ag:n=rows.length) (hb:H[b]?=some ⟨nK,sz,rows⟩) (fZ:jc.n≤b)
  (hk: ∀row∈rows,∀a∈row,jQ a=true∧pt a=true) (gN:rows.length≤4611686018427387904):Weak ⟨T,L,H⟩ ⟨T,lE L t (cells.set i (.aX (rows.map fun row=>row.map jL) false true)),H.set b ⟨nK+1,sz,[]⟩⟩:=fun b_ E tmps g s=>by
 subst ag
 obtain⟨E',hw,ax,h1,h2,hle,SD,hv⟩:=Ru g s.h s.l hb fZ hk gN
 refine⟨E',hw,ax,h1,fun u c hm=> ?_,fun t=>(s.iI t).le hle,s.size⟩
 rw[SD] at hm
 obtain⟨gL,ay,ty,q1,q2,q3⟩:=s.l u c hm
 show ∃Iv ay ty,eB (lE L t _) u=some Iv∧_
 rw[B_]
 by_cases hu:u=t
 ·subst hu
  rw[if_pos rfl]
  have Dp:eB L u=some gL:=q1
  rw[hc] at Dp
  cases Dp
  refine⟨_,ay,ty,by rw[hc];rfl,by rw[hw];exact q2,by simpa using q3.1,fun j x v hx jW=> ?_⟩
  rw[List.getElem?_set] at hx
  split at hx
  ·rename_i mX
   subst mX
   split at hx
   ·rename_i aQ
    cases hx
    have Sm:=List.getElem?_eq_getElem aQ
    have he:cells.getD i .undef=cells[i]:=by rw[List.getD_eq_getElem?_getD,Sm];rfl
    have kb:=q3.2 i _ v Sm jW
    rw[←he,b7] at kb
    exact aY.v1 (E:=E'.bL) (hv v full kb)
   ·cases hx
  ·exact(q3.2 j x v hx jW).le hle.bL
 ·rw[if_neg hu]
  exact⟨gL,ay,ty,q1,by rw[hw];exact q2,q3.mono fun _ _ k=>k.le hle.bL⟩
def Dx (n:Nat):AV→Bool
 | .ref b _ _ _ _=>Nat.blt b n
 | .ptr b _ _ _=>Nat.blt b n
 | _=>true
def rB (n:Nat):AV→Bool
 | .fn _ caps=>caps.all (Dx n)
 | a=>Dx n a
def AD (n:Nat):AV→Bool
 | .agg l=>l.all (rB n)
 | a=>rB n a
def AE (n:Nat):AV→Bool
 | .tup l=>l.all (AD n)
 | a=>AD n a
def Env.cut (E:Env) (n:Nat):Env:={E with m:=fun j=>if j<n then E.m j else none,bf:=fun j=>if j<n then E.bf j else 0}
section
variable {E:Env} {n:Nat}
theorem B1 {j:Nat} (h:j<n):(E.cut n).m j=E.m j∧(E.cut n).bf j=E.bf j:=⟨if_pos h,if_pos h⟩
theorem e6.cut {a:AV} {v:Value} (h:Dx n a=true) (hv:e6 E a v):e6 (E.cut n) a v:=by
 cases a with
 | ref b g o m f=>
  have hb:b<n:=by rw[←Nat.blt_eq];exact h
  obtain⟨aW,e2⟩:=B1 (E:=E) hb
  have hv:(g<E.bf b∧_)∨(g=E.bf b∧_):=hv
  show(g<(E.cut n).bf b∧_)∨(g=(E.cut n).bf b∧_)
  rw[aW,e2];exact hv
 | ptr b g r c=>
  have hb:b<n:=by rw[←Nat.blt_eq];exact h
  obtain⟨aW,e2⟩:=B1 (E:=E) hb
  have hv:(g<E.bf b∧_)∨(g=E.bf b∧_):=hv
  show(g<(E.cut n).bf b∧_)∨(g=(E.cut n).bf b∧_)
  rw[aW,e2];exact hv
 | _=>exact hv
theorem bZ.cut {a:AV} {v:Value} (h:rB n a=true) (hv:bZ E a v):bZ (E.cut n) a v:=by
 by_cases hf: ∃f caps,a= .fn f caps
 ·obtain⟨f,caps,rfl⟩:=hf
  obtain⟨vs,e,ae⟩:=hv
  exact⟨vs,e,ae.1,fun i x y hx bi=>(ae.2 i x y hx bi).cut (List.all_eq_true.1 (show caps.all (Dx n)=true from h) x (List.mem_of_getElem? hx))⟩
 ·have az:rB n a=Dx n a:=by cases a<;>first | rfl | exact absurd ⟨_,_,rfl⟩ hf
  rw[rQ fun f c e=>hf ⟨f,c,e⟩] at hv ⊢
  exact hv.cut (az▸h)
theorem V2.cut {a:AV} {v:Value} (h:AD n a=true) (hv:V2 E a v):V2 (E.cut n) a v:=by
 by_cases hf: ∃l,a= .agg l
 ·obtain⟨l,rfl⟩:=hf
  obtain⟨vs,e,ae⟩:=hv
  exact⟨vs,e,ae.1,fun i x y hx bi=>(ae.2 i x y hx bi).cut (List.all_eq_true.1 (show l.all (rB n)=true from h) x (List.mem_of_getElem? hx))⟩
 ·have az:AD n a=rB n a:=by cases a<;>first | rfl | exact absurd ⟨_,rfl⟩ hf
  rw[p1 fun l e=>hf ⟨l,e⟩] at hv ⊢
  exact hv.cut (az▸h)
theorem V3.cut {a:AV} {v:Value} (h:AE n a=true) (hv:V3 E a v):V3 (E.cut n) a v:=by
 by_cases hf: ∃l,a= .tup l
 ·obtain⟨l,rfl⟩:=hf
  obtain⟨vs,e,ae⟩:=hv
  exact⟨vs,e,ae.1,fun i x y hx bi=>(ae.2 i x y hx bi).cut (List.all_eq_true.1 (show l.all (AD n)=true from h) x (List.mem_of_getElem? hx))⟩
 ·have az:AE n a=AD n a:=by cases a<;>first | rfl | exact absurd ⟨_,rfl⟩ hf
  rw[p2 fun l e=>hf ⟨l,e⟩] at hv ⊢
  exact hv.cut (az▸h)
end
theorem Weak.cut [jc:cl] (n:Nat) {T:List AV} {L:List (Nat×List AV)} {H:List Blk} (fZ:jc.n≤n) (b7: ∀t,AE n (T.getD t .undef)=true) (bC: ∀t cells,eB L t=some cells→cells.all (rB n)=true) (av: ∀(b:Nat) (blk:Blk),b<n→H[b]?=some blk→ ∀row∈blk.rows,row.all (rB n)=true):
  Weak ⟨T,L,H⟩ ⟨T,L,H.take n⟩:=fun b_ E tmps g s=>by
 have e5:SimH E H:=s.h
 have hm: ∀{j:Nat} {x:Option Nat},(E.cut n).m j=some x→j<n∧E.m j=some x:=fun{j x} h=>by
  have h:(if j<n then E.m j else none)=some x:=h
  split at h
  ·rename_i e;exact⟨e,h⟩
  ·cases h
 have get: ∀{j:Nat},j<n→(H.take n)[j]?=H[j]?:=fun{j} h=>by rw[List.getElem?_take,if_pos h]
 refine⟨E.cut n,rfl,?_,?_,?_,fun t=>(s.iI t).cut (b7 t),s.size⟩
 ·exact{g with
   le:=⟨g.le.fG,g.le.fz,g.le.wl,g.le.wf,fun b=>by
     show b_.bf b≤(if b<n then E.bf b else 0)
     split
     ·exact g.le.bf b
     ·rw[(g.Da b (by omega)).2];exact Nat.le_refl _,fun b x hx sc=>by
     have hb:b<n:=by
      rcases Nat.lt_or_ge b n with h | h
      ·exact h
      ·rw[(g.Da b (by omega)).1] at hx;cases hx
     obtain⟨aW,e2⟩:=B1 (E:=E) hb
     rw[e2] at sc
     rw[aW]
     exact g.le.m b x hx sc,g.le.mL⟩
   jq:=fun b c h=>g.jq b c (hm h).2
   jX:=g.jX}
 ·exact{e5 with
   heap:=fun j c h=>by
    obtain⟨al,h⟩:=hm h
    obtain⟨blk,ay,ty,q1,cH,q2,q3,q4,cs,cD⟩:=e5.heap j c h
    refine⟨blk,ay,ty,by rw[get al];exact q1,cH,q2,q3,q4,cs,fun i k row a h1 h2=> ?_⟩
    obtain⟨u,hu,ao⟩:=cD i k row a h1 h2
    exact⟨u,hu,ao.cut (List.all_eq_true.1 (av j blk al q1 row (List.mem_of_getElem? h1)) a (List.mem_of_getElem? h2))⟩
   eV:=fun j blk h=>by
    have al:j<n:=by
     rcases Nat.lt_or_ge j n with q | q
     ·exact q
     ·rw[List.getElem?_take,if_neg (by omega)] at h;cases h
    rw[(B1 (E:=E) al).2]
    rw[get al] at h;exact e5.eV j blk h
   ha:=fun j h=>by
    obtain⟨al,h⟩:=hm h
    obtain⟨blk,q1,q2⟩:=e5.ha j h
    exact⟨blk,by rw[get al];exact q1,q2⟩
   fresh:=fun j h=>by
    rw[List.length_take] at h
    rcases Nat.lt_or_ge j n with q | q
    ·obtain⟨aW,e2⟩:=B1 (E:=E) q
     rw[aW,e2];exact e5.fresh j (by omega)
    ·exact⟨if_neg (by omega),if_neg (by omega)⟩
   hC:=fun j k c h1 h2=>e5.hC j k c (hm h1).2 (hm h2).2
   gB:=fun j t c h1 h2=>e5.gB j t c (hm h1).2 h2
   hF:=fun c hc ⟨j,al⟩=>e5.hF c hc ⟨j,(hm al).2⟩
   fq:=fun c ⟨j,al⟩=>e5.fq c ⟨j,(hm al).2⟩}
 ·intro t c a6
  obtain⟨cells,ay,ty,q1,q2,q3⟩:=s.l t c a6
  exact⟨cells,ay,ty,q1,q2,q3.1,fun i a u hx hu=>(q3.2 i a u hx hu).cut (List.all_eq_true.1 (bC t cells q1) a (List.mem_of_getElem? hx))⟩
inductive bg where
 | int | u64 | u8 | bool | str | bj | fB | dl | e3 | ij | held | frame | done | fault | stays | fx | unit | nat
 | l (e:bg)
 | ptr (e:bg)
 | jg (f:Nat) (e:bg)
 deriving DecidableEq,Inhabited
@[reducible] def bg.T:bg→Type
 | .int=>Int
 | .u64=>Int
 | .u8=>UInt8
 | .bool=>Bool
 | .str=>ByteArray
 | .bj=>cU
 | .fB=>Way
 | .dl=>aC
 | .e3=>Event
 | .ij=>bx
 | .held=>aq
 | .frame=>Frame
 | .done=>fv
 | .fault=>qJ
 | .stays=>rP
 | .fx=>Ej
 | .unit=>Unit
 | .nat=>Nat
 | .l e=>List e.T
 | .ptr e=>e.T
 | .jg _ e=>e.T
@[reducible] def bg.xy:(e:bg)→Inhabited e.T
 | .int=>inferInstanceAs (Inhabited Int)
 | .u64=>inferInstanceAs (Inhabited Int)
 | .u8=>inferInstanceAs (Inhabited UInt8)
 | .bool=>inferInstanceAs (Inhabited Bool)
 | .str=>inferInstanceAs (Inhabited ByteArray)
 | .bj=>inferInstanceAs (Inhabited cU)
 | .fB=>inferInstanceAs (Inhabited Way)
 | .dl=>inferInstanceAs (Inhabited aC)
 | .e3=>inferInstanceAs (Inhabited Event)
 | .ij=>inferInstanceAs (Inhabited bx)
 | .held=>inferInstanceAs (Inhabited aq)
 | .frame=>inferInstanceAs (Inhabited Frame)
 | .done=>inferInstanceAs (Inhabited fv)
 | .fault=>inferInstanceAs (Inhabited qJ)
 | .stays=>inferInstanceAs (Inhabited rP)
 | .fx=>inferInstanceAs (Inhabited Ej)
 | .unit=>inferInstanceAs (Inhabited Unit)
 | .nat=>inferInstanceAs (Inhabited Nat)
 | .l e=>inferInstanceAs (Inhabited (List e.T))
 | .ptr e=>e.xy
 | .jg _ e=>e.xy
def vw (e:bg) (xs:List e.T) (i:Int):e.T:= @nth e.T e.xy xs i
def ck:List bg→Type
 | []=>Unit
 | e::r=>e.T×ck r
def bg.ew:bg→List bg
 | .bj=>[.int,.int]
 | .fB=>[.l .int,.l .bj,.l .bj,.l .int,.l .int]
 | .dl=>[.int,.l .int,.l .fB,.l (.l .bool),.int]
 | .e3=>[.int,.int,.int]
 | .ij=>[.int,.int]
 | .held=>[.int,.int,.l .bool,.bool,.int]
 | .frame=>[.bool,.l .bool,.l .ij,.l .held]
 | .done=>[.int,.bool,.l .bool,.l .ij,.l .held]
 | .fault=>[.int,.int]
 | .stays=>[.l .int,.l .int,.l .int]
 | .fx=>[.l .u8,.int,.u64]
 | e=>[e]
def bg.isS:bg→Bool
 | .bj | .fB | .dl | .e3 | .ij | .held | .frame | .done | .fault | .stays | .fx=>true
 | _=>false
def bg.mk:(e:bg)→ck e.ew→e.T
 | .bj,(a,b,_)=>⟨a,b⟩
 | .fB,(a,b,c,d,e,_)=>⟨a,b,c,d,e⟩
 | .dl,(a,b,c,d,e,_)=>⟨a,b,c,d,e⟩
 | .e3,(a,b,c,_)=>⟨a,b,c⟩
 | .ij,(a,b,_)=>⟨a,b⟩
 | .held,(a,b,c,d,e,_)=>⟨a,b,c,d,e⟩
 | .frame,(a,b,c,d,_)=>⟨a,b,c,d⟩
 | .done,(a,b,c,d,e,_)=>⟨a,⟨b,c,d,e⟩⟩
 | .fault,(a,b,_)=>⟨a,b⟩
 | .stays,(a,b,c,_)=>⟨a,b,c⟩
 | .fx,(a,b,c,_)=>⟨a,b,c⟩
 | .int,(a,_)=>a
 | .u64,(a,_)=>a
 | .u8,(a,_)=>a
 | .bool,(a,_)=>a
 | .str,(a,_)=>a
 | .unit,(a,_)=>a
 | .nat,(a,_)=>a
 | .l _,(a,_)=>a
 | .ptr _,(a,_)=>a
 | .jg _ _,(a,_)=>a
def bg.un:(e:bg)→e.T→ck e.ew
 | .bj,x=>(x.be,x.bj,())
 | .fB,x=>(x.ak,x.bm,x.cB,x.over,x.ei,())
 | .dl,x=>(x.ak,x.bb,x.O,x.bF,x.ct,())
 | .e3,x=>(x.op,x.aA,x.bj,())
 | .ij,x=>(x.dc,x.bm,())
 | .held,x=>(x.ar,x.a7,x.ah,x.bI,x.bG,())
 | .frame,x=>(x.ok,x.aN,x.aH,x.O,())
 | .done,x=>(x.code,x.frame.ok,x.frame.aN,x.frame.aH,x.frame.O,())
 | .fault,x=>(x.code,x.pos,())
 | .stays,x=>(x.O,x.ak,x.aH,())
 | .fx,x=>(x.code,x.pos,x.XL,())
 | .int,x=>(x,())
 | .u64,x=>(x,())
 | .u8,x=>(x,())
 | .bool,x=>(x,())
 | .str,x=>(x,())
 | .unit,x=>(x,())
 | .nat,x=>(x,())
 | .l _,x=>(x,())
 | .ptr _,x=>(x,())
 | .jg _ _,x=>(x,())
theorem bg.Z3 (e:bg) (x:ck e.ew):e.un (e.mk x)=x:=by cases e<;>rfl
def cu (fr:Bool):(e:bg)→e.T→List AV
 | .int,x=>cd x
 | .u64,x=>[.int .u64 x]
 | .u8,x=>EY x
 | .bool,x=>aP x
 | .str,x=>IZ x
 | .bj,x=>cQ x
 | .fB,x=>da fr x
 | .dl,x=>bA fr x
 | .e3,x=>fJ x
 | .ij,x=>a1 x
 | .held,x=>fR fr x
 | .frame,x=>cG fr x
 | .done,x=>nJ fr x
 | .fault,x=>IX x
 | .stays,x=>EX fr x
 | .fx,x=>acK fr x
 | .l e,x=>[.aX (x.map (cu false e)) false fr]
 | .unit,_ | .nat,_ | .ptr _,_ | .jg _ _,_=>[.undef]
def ks (fr:Bool):(e:bg)→e.T→AV
 | .int,x=> .int .i64 x
 | .u64,x=> .int .u64 x
 | .u8,x=> .int .u8 x.toNat
 | .bool,x=> .bool x
 | .str,x=> .str x
 | .l e,x=> .aX (x.map (cu false e)) false fr
 | _,_=> .undef
def jT (fr:Bool):(es:List bg)→ck es→List AV
 | [],_=>[]
 | e::r,x=>ks fr e x.1::jT fr r x.2
theorem p7 (fr:Bool) (e:bg) (x:e.T):jT fr e.ew (e.un x)=cu fr e x:=by
 cases e<;>first | rfl | (simp only[bg.ew,bg.un,jT,ks,cu];rfl)
def bg.mA:bg→Nat
 | .bj=>2
 | .fB=>5
 | .dl=>5
 | .e3=>3
 | .ij=>2
 | .held=>5
 | .frame=>4
 | .done=>5
 | .fault=>2
 | .stays=>3
 | .fx=>3
 | _=>1
theorem wN (fr:Bool) (e:bg) (x:e.T):(cu fr e x).length=e.mA:=by cases e<;>rfl
def bg.qj:bg→Bool
 | .unit | .nat | .ptr _ | .jg _ _=>false
 | _=>true
theorem acS {fr:Bool} {e:bg} (h:e.qj=true) (x:e.T):(cu fr e x).all jo=true:=by cases e<;>first | rfl | cases h
inductive ek where
 | t | f
 | v (b:Bool)
 | at(i:Nat) (b:Bool)
 | n (x:ek)
 | ca (x y:ek)
 | or (x y:ek)
 | ite (c x y:ek)
 | y9 (x y:ek)
 | ne (x y:ek)
 deriving Inhabited
def ek.den:ek→Bool
 | .t=>true
 | .f=>false
 | .v b=>b
 | .at _ b=>b
 | .n x=> !x.den
 | .ca x y=>x.den&&y.den
 | .or x y=>x.den || y.den
 | .ite c x y=>bif c.den then x.den else y.den
 | .y9 x y=>x.den==y.den
 | .ne x y=>x.den !=y.den
def ek.not:ek→ek
 | .t=> .f
 | .f=> .t
 | x=> .n x
def ek.xP (b x y:ek):ek:=match x with
 | .t=>(match y with
  | .t=> .t
  | .f=>b
  | y=> .or b y)
 | .f=>(match y with
  | .f=> .f
  | .t=> .n b
  | y=> .ca (.n b) y)
 | x=>(match y with
  | .f=> .ca b x
  | .t=> .or (.n b) x
  | y=> .ite b x y)
theorem ek.Di (b x y:ek):(ek.xP b x y).den=bif b.den then x.den else y.den:=by
 cases x<;>cases y<;>simp only[ek.xP,ek.den]<;>cases b.den<;>simp
inductive TV where
 | u
 | i (k:IntKind) (n:Int)
 | b (x:ek)
 | s (x:ByteArray)
 | l (e:bg) (xs:List e.T) (full fr:Bool)
 | nil (full fr:Bool)
 | ref (b g n:Nat) (full:Bool)
 | ptr (b g:Nat) (i:Int) (n col:Nat)
 | lp (t col:Nat)
 | dh (e:bg) (x:e.T) (col:Nat)
 | agg (c:List TV)
 | tup (c:List TV)
 | fn (f:FuncId) (c:List TV)
 | o (a:AV)
 | blk (g:Nat) (e:bg) (xs:List e.T) (n:Nat) (h:xs.length=n)
 | fc (g:Nat) (c:List TV)
 | kO (g m:Nat) (ids:List Nat)
 | gM (V:List aq) (ids:List Nat) (n:Nat) (h:V.length=n)
 | new (id:Nat) (xs:List Bool)
 | zh (w:Int) (ids:List Nat) (m n:Nat)
 | zf (w:Int) (ids:List Nat) (m:Nat) (j:Int)
 | Dc (id m n:Nat)
 deriving Inhabited
class FZ where
 ws:List aq
 bs:List (List Bool)
mutual
def TV.bk:TV→AV
 | .u=> .undef
 | .i k n=> .int k n
 | .b x=> .bool x.den
 | .s x=> .str x
 | .l e xs full fr=> .aX (xs.map (cu false e)) full fr
 | .nil full fr=> .aX [] full fr
 | .ref b g n full=> .ref b g 0 n full
 | .ptr b g i _ c=> .ptr b g i.toNat c
 | .lp t c=> .fp t c
 | .dh e x c=> .dh (cu false e x) c
 | .agg c=> .agg (cz c)
 | .tup c=> .tup (cz c)
 | .fn f c=> .fn f (cz c)
 | .o a=>a
 | .blk _ _ _ _ _=> .undef
 | .fc _ _=> .undef
 | .kO _ _ _=> .undef
 | .gM _ _ _ _=> .undef
 | .new _ _=> .undef
 | .zh w ids m k=> .ref (nth ids w+m) 0 0 k false
 | .zf w ids m j=> .ptr (nth ids w+m) 0 j.toNat 0
 | .Dc id m k=> .ref (id+m) 0 0 k false
def cz:List TV→List AV
 | []=>[]
 | x::r=>x.bk::cz r
end
theorem pi (l:List TV):cz l=l.map TV.bk:=by
 induction l with
 | nil=>rfl
 | cons x r br=>rw[cz,br];rfl
def TV.eh [Z:FZ]:TV→Blk
 | .blk g e xs _ _=>⟨g,e.mA,xs.map (cu true e)⟩
 | .fc g c=>⟨g,c.length,[cz c]⟩
 | .kO g m ids=>⟨g,5,aR m Z.ws ids⟩
 | _=>⟨0,0,[]⟩
def Ea (fr:Bool):(e:bg)→e.T→TV
 | .int,x=> .i .i64 x
 | .u64,x=> .i .u64 x
 | .u8,x=> .i .u8 x.toNat
 | .bool,x=> .b (.v x)
 | .str,x=> .s x
 | .l e,x=> .l e x false fr
 | _,_=> .u
def HU (fr:Bool):(es:List bg)→ck es→List TV
 | [],_=>[]
 | e::r,x=>Ea fr e x.1::HU fr r x.2
theorem Po (fr:Bool) (e:bg) (x:e.T):(Ea fr e x).bk=ks fr e x:=by cases e<;>rfl
theorem ZX (fr:Bool): ∀(es:List bg) (x:ck es),cz (HU fr es x)=jT fr es x
 | [],_=>rfl
 | e::r,x=>by rw[HU,cz,jT,Po,ZX fr r]
def jR (fr:Bool) (e:bg) (x:e.T):List TV:=HU fr e.ew (e.un x)
theorem EM (fr:Bool) (e:bg) (x:e.T):cz (jR fr e x)=cu fr e x:=by rw[jR,ZX,p7]
structure TS where
 T:List (Nat×TV)
 B:List (Nat×TV)
 vs:List (Nat×Nat)
 a_:Nat
 deriving Inhabited
def g_:List (Nat×TV)→Nat→TV→TV
 | [],_,d=>d
 | (k,v)::r,t,d=>match Nat.beq k t with
  | true=>v
  | false=>g_ r t d
def fF (v c:Nat):Nat:=1000010+(1000*v+c)
def dy:Nat:=1000000
def fS:Nat:=1000001
def bw (b:Nat):Nat:=1000000000000+b
def TS.get (s:TS) (k:Nat):TV:=g_ s.T k (g_ s.B k .u)
def TS.put (s:TS) (k:Nat) (v:TV):TS:=⟨(k,v)::s.T,s.B,s.vs,s.a_⟩
def hN (s:TS) (v:Nat):Nat→Nat→List TV
 | _,0=>[]
 | c,m+1=>s.get (fF v c)::hN s v (c+1) m
def TS.tT (n:Nat) (s:TS):List AV:=(List.range n).map fun t=>(s.get t).bk
def TS.b8 (s:TS):List (Nat×List AV):=s.vs.map fun p=>(p.1,cz (hN s p.1 0 p.2))
def ju (s:TS):Bool:=match s.get dy with
 | .gM _ _ _ _=>false
 | _=>true
def hj [Z:FZ] (s:TS):List Blk:=match ju s with
 | true=>[]
 | false=>Z.bs.map bh
def TS.gw [FZ] (s:TS):List Blk:=(List.range s.a_).map fun b=>(s.get (bw b)).eh
def TS.aj [FZ] (n:Nat) (s:TS):St:=⟨s.tT n,s.b8,s.gw++hj s⟩
def Fits [Z:FZ] (s:TS):Prop:=
 (∀V ids n h,s.get dy= .gM V ids n h→fP Z.ws ids Z.bs∧view Z.ws ids Z.bs=V∧ ∀id xs,s.get fS= .new id xs→id<Z.bs.length∧Z.bs.getD id []=xs∧ ∀j:Nat,ids[j]?≠some id)
theorem Fits.congr [FZ] {s s':TS} (h:Fits s) (e: ∀k,1000000≤k→k<1000010→s'.get k=s.get k):Fits s':=fun V ids n h' kx=>by
 rw[e dy (by unfold dy;omega) (by unfold dy;omega)] at kx
 obtain⟨h1,h2,a8⟩:=h V ids n h' kx
 refine⟨h1,h2,fun id xs hi=>a8 id xs ?_⟩
 rw[←hi,e fS (by unfold fS;omega) (by unfold fS;omega)]
theorem Fits.none [FZ] {s:TS} (h:ju s=true):Fits s:=fun V ids n h' kx=>by
 unfold ju at h;rw[kx] at h;cases h
theorem hl (k:Nat) (v:TV) (r:List (Nat×TV)) (t:Nat) (d:TV):g_ ((k,v)::r) t d=if k=t then v else g_ r t d:=by
 show(match Nat.beq k t with
  | true=>v
  | false=>g_ r t d)=_
 by_cases h:k=t
 ·subst h;rw[Nat.beq_refl,if_pos rfl]
 ·rw[if_neg h]
  cases hb:Nat.beq k t with
  | true=>exact absurd (Nat.eq_of_beq_eq_true hb) h
  | false=>rfl
theorem xI (A B:List (Nat×TV)) (t:Nat) (d:TV):g_ (A++B) t d=g_ A t (g_ B t d):=by
 induction A with
 | nil=>rfl
 | cons p r br=>obtain⟨k,v⟩:=p;rw[List.cons_append,hl,hl,br]
theorem vq {A:List (Nat×TV)} {t:Nat} {d:TV} (h: ∀v,(t,v) ∉ A):g_ A t d=d:=by
 induction A with
 | nil=>rfl
 | cons p r br=>
  obtain⟨k,v⟩:=p
  rw[hl,if_neg,br fun w hw=>h w (List.mem_cons_of_mem _ hw)]
  rintro rfl;exact h v (List.mem_cons_self ..)
theorem TS.Jx (s:TS) (k:Nat) (v:TV) (t:Nat):(s.put k v).get t=if k=t then v else s.get t:=hl ..
inductive aI:Type 1 where
 | k5 (ex:Exit) (s:TS)
 | hJ
 | no
 | p (φ:Prop) (t:aI)
 | kd (φ:Prop) (t:aI)
 | jj (b:ek) (s:TS) (x y:aI)
 | two (x y:aI)
 | hD (x:aI) (eA:List Prop) (b:ek) (y:aI)
 | all (α:Type) (f:α→aI)
 | eq {α:Type} (a b:α) (t:aI)
def rZ:List Prop→Prop
 | []=>True
 | φ::r=>match r with
  | []=>φ
  | r=>φ∧rZ r
theorem QB: ∀{l:List Prop},(∀φ∈l,φ)→rZ l
 | [],_=>trivial
 | [φ],h=>h φ (by simp)
 | φ::ψ::r,h=>⟨h φ (by simp),QB (l:=ψ::r) fun x hx=>h x (List.mem_cons_of_mem _ hx)⟩
def zb (eA:List Prop):ek→List Prop
 | .t=>eA
 | b=>eA++[b.den=true]
def B3 (eA:List Prop) (b:ek):Prop:=rZ (zb eA b)
theorem ac4 {eA:List Prop} {b:ek} (h: ∀φ∈eA,φ) (hb:b.den=true):B3 eA b:=by
 unfold B3
 refine QB fun φ eK=> ?_
 unfold zb at eK
 split at eK
 ·exact h φ eK
 ·rcases List.mem_append.1 eK with q | q
  ·exact h φ q
  ·rw[List.mem_singleton.1 q];exact hb
def aI.den:aI→(Exit→TS→Prop)→Prop
 | .k5 ex s,R=>R ex s
 | .hJ,_=>True
 | .no,_=>False
 | .p φ t,R=>φ∧t.den R
 | .kd φ t,R=>φ→t.den R
 | .jj b _ x y,R=>(b.den=true→x.den R)∧(b.den=false→y.den R)
 | .two x y,R=>x.den R∧y.den R
 | .hD x eA b y,R=>x.den R∧(B3 eA b→y.den R)
 | .all _ f,R=> ∀a,(f a).den R
 | .eq a b t,R=>a=b∧t.den R
def aI.bind:aI→(Exit→TS→aI)→aI
 | .k5 ex s,K=>K ex s
 | .hJ,_=> .hJ
 | .no,_=> .no
 | .p φ t,K=> .p φ (t.bind K)
 | .kd φ t,K=> .kd φ (t.bind K)
 | .jj b s x y,K=> .jj b s (x.bind K) (y.bind K)
 | .two x y,K=> .two (x.bind K) (y.bind K)
 | .hD x eA b y,K=> .hD (x.bind K) eA b (y.bind K)
 | .all α f,K=> .all α fun a=>(f a).bind K
 | .eq a b t,K=> .eq a b (t.bind K)
theorem aI.abl (t:aI) (K:Exit→TS→aI) (R:Exit→TS→Prop):(t.bind K).den R=t.den fun ex s=>(K ex s).den R:=by
 induction t with
 | k5 ex s=>rfl
 | hJ=>rfl
 | no=>rfl
 | p φ t br=>simp only[aI.bind,aI.den,br]
 | kd φ t br=>simp only[aI.bind,aI.den,br]
 | jj b s x y hT hA=>simp only[aI.bind,aI.den,hT,hA]
 | two x y hT hA=>simp only[aI.bind,aI.den,hT,hA]
 | hD x eA b y hT hA=>simp only[aI.bind,aI.den,hT,hA]
 | all α f br=>simp only[aI.bind,aI.den,br]
 | eq a b t br=>simp only[aI.bind,aI.den,br]
theorem aI.te {t:aI} {R BJ:Exit→TS→Prop} (h:t.den R) (k: ∀ex s,R ex s→BJ ex s):t.den BJ:=by
 induction t with
 | k5 ex s=>exact k _ _ h
 | hJ=>trivial
 | no=>exact h
 | p φ t br=>exact⟨h.1,br h.2⟩
 | kd φ t br=>exact fun q=>br (h q)
 | jj b s x y hT hA=>exact⟨fun q=>hT (h.1 q),fun q=>hA (h.2 q)⟩
 | two x y hT hA=>exact⟨hT h.1,hA h.2⟩
 | hD x eA b y hT hA=>exact⟨hT h.1,fun q=>hA (h.2 q)⟩
 | all α f br=>exact fun a=>br a (h a)
 | eq a b t br=>exact⟨h.1,br h.2⟩
inductive fO:Type 1 where
 | hJ
 | p (φ:Prop)
 | and (a b:fO)
 | kd (φ:Prop) (c:fO)
 | all (α:Type) (f:α→fO)
def fO.and' (a b:fO):fO:=match a with
 | .hJ=>b
 | a=>match b with
  | .hJ=>a
  | b=> .and a b
def fO.zI (φ:Prop) (c:fO):fO:=match c with
 | .hJ=> .hJ
 | c=> .kd φ c
def fO.den:fO→Prop
 | .hJ=>True
 | .p φ=>φ
 | .and a b=>a.den∧b.den
 | .kd φ c=>φ→c.den
 | .all _ f=> ∀a,(f a).den
theorem fO.Ex (a b:fO):(fO.and' a b).den↔a.den∧b.den:=by
 cases a<;>cases b<;>simp[fO.and',fO.den]
theorem fO.F6 (φ:Prop) (c:fO):(fO.zI φ c).den↔(φ→c.den):=by
 cases c<;>simp[fO.zI,fO.den]
def fO.fact (eA:List Prop) (b:ek) (c:fO):fO:=match zb eA b with
 | []=>c
 | φ::r=> .zI (rZ (φ::r)) c
theorem fO.ac5 (eA:List Prop) (b:ek) (c:fO):(fO.fact eA b c).den↔(B3 eA b→c.den):=by
 unfold fO.fact B3
 split
 ·rename_i h;rw[h];simp[rZ]
 ·rename_i h;rw[h];exact fO.F6 _ _
def aI.pk:aI→fO
 | .k5 _ _=> .hJ
 | .hJ=> .hJ
 | .no=> .p False
 | .p φ t=> .and' (.p φ) t.pk
 | .kd φ t=> .zI φ t.pk
 | .jj b _ x y=> .and' (.zI (b.den=true) x.pk) (.zI (b.den=false) y.pk)
 | .two x y=> .and' x.pk y.pk
 | .hD x eA b y=> .and' x.pk (.fact eA b y.pk)
 | .all α f=> .all α fun a=>(f a).pk
 | .eq _ _ t=>t.pk
inductive s5:Type 1 where
 | u
 | v {α:Type} (a:α) (t:s5)
 | n (a b:s5)
 | f {α:Type} (g:α→s5)
def aI.lhs:aI→s5
 | .k5 _ _ | .hJ | .no=> .u
 | .p _ t | .kd _ t=>t.lhs
 | .jj _ _ x y | .two x y | .hD x _ _ y=> .n x.lhs y.lhs
 | .all _ f=> .f fun a=>(f a).lhs
 | .eq a _ t=> .v a t.lhs
def aI.rhs:aI→s5
 | .k5 _ _ | .hJ | .no=> .u
 | .p _ t | .kd _ t=>t.rhs
 | .jj _ _ x y | .two x y | .hD x _ _ y=> .n x.rhs y.rhs
 | .all _ f=> .f fun a=>(f a).rhs
 | .eq _ b t=> .v b t.rhs
theorem aI.full {t:aI} (h:t.pk.den) (e:t.lhs=t.rhs):t.den fun _ _=>True:=by
 induction t with
 | k5 ex s=>trivial
 | hJ=>trivial
 | no=>exact h
 | p φ t br=>
  have h:=(fO.Ex _ _).1 h
  exact⟨h.1,br h.2 e⟩
 | kd φ t br=>exact fun q=>br ((fO.F6 _ _).1 h q) e
 | jj b s x y hT hA=>
  have h:=(fO.Ex _ _).1 h
  injection e with aW e2
  exact⟨fun q=>hT ((fO.F6 _ _).1 h.1 q) aW,fun q=>hA ((fO.F6 _ _).1 h.2 q) e2⟩
 | two x y hT hA=>
  have h:=(fO.Ex _ _).1 h
  injection e with aW e2
  exact⟨hT h.1 aW,hA h.2 e2⟩
 | hD x eA b y hT hA=>
  have h:=(fO.Ex _ _).1 h
  injection e with aW e2
  exact⟨hT h.1 aW,fun q=>hA ((fO.ac5 _ _ _).1 h.2 q) e2⟩
 | all α f br=>
  injection e with _ e
  exact fun a=>br a (h a) (congrFun e a)
 | eq a b t br=>
  injection e with _ aW e2
  exact⟨aW,br h e2⟩
def xQ (b:ek) (x y:TV):TV:=match x with
 | .i k n=>(match y with
  | .i k2 m=>if k=k2 then .i k (bif b.den then n else m) else .u
  | _=> .u)
 | .b x=>(match y with
  | .b y=> .b (ek.xP b x y)
  | _=> .u)
 | .s x=>(match y with
  | .s y=> .s (bif b.den then x else y)
  | _=> .u)
 | _=> .u
def ek.pE:ek→ek→Bool
 | .at i _,.at j _=>Nat.beq i j
 | .t,.t=>true
 | .f,.f=>true
 | .n x,.n y=>x.pE y
 | .ca x y,.ca z w=>x.pE z&&y.pE w
 | .or x y,.or z w=>x.pE z&&y.pE w
 | .ite c x y,.ite d z w=>c.pE d&&x.pE z&&y.pE w
 | .y9 x y,.y9 z w=>x.pE z&&y.pE w
 | .ne x y,.ne z w=>x.pE z&&y.pE w
 | _,_=>false
def L2 (x y:TV):Bool:=match x with
 | .b x=>(match y with
  | .b y=>x.pE y
  | _=>false)
 | _=>false
def GB (b:ek) (x y:TV):TV:=match L2 x y with
 | true=>x
 | false=>xQ b x y
def xF (s s':TS):List (Nat×TV)→List (List (Nat×TV)×List (Nat×TV))
 | []=>[]
 | p::r=>match L2 (s.get p.1) (s'.get p.1) with
  | true=>([(p.1,s.get p.1)],[(p.1,s'.get p.1)])::xF s s' r
  | false=>xF s s' r
inductive s7 where
 | bad
 | none
 | some (s:TS) (j1:List (List (Nat×TV)×List (Nat×TV)))
def mi {e cA:bg} (h:cA=e) (xs:List cA.T):List e.T:=h▸xs
def Ju:(e:bg)→TV→e.T
 | .int,.i _ m=>m
 | .u64,.i _ m=>m
 | .bool,.b x=>x.den
 | .str,.s x=>x
 | .l e,.l cA xs _ _=>if h:cA=e then mi h xs else[]
 | e,_=>e.xy.default
def qW:(es:List bg)→List TV→ck es
 | [],_=>()
 | e::r,v::vs=>(Ju e v,qW r vs)
 | e::r,[]=>(e.xy.default,qW r [])
def sA (c:List TV):Ej:=bg.mk .fx (qW bg.fx.ew c)
def Gn:TV→Bool
 | .fc _ _=>true
 | _=>false
def Ak (s s':TS):List (Nat×TV)→Bool
 | []=>true
 | (k,_)::r=>match Nat.blt k 1000000 with
  | true=>Ak s s' r
  | false=>match Gn (s.get k)&&Gn (s'.get k)&&Nat.ble 1000010 k with
   | true=>Ak s s' r
   | false=>false
def ajw (b:ek) (x y:TV):TV:=match x with
 | .fc g c=>(match y with
  | .fc _ cn=> .fc g (jR false .fx (bif b.den then sA c else sA cn))
  | _=> .u)
 | _=> .u
def ua (b:ek) (k:Nat) (x y:TV):TV:=match Nat.blt k 1000000 with
 | true=>GB b x y
 | false=>ajw b x y
def aki (x y:TV):List (List (Nat×TV)×List (Nat×TV)):=match x with
 | .fc g c=>(match y with
  | .fc dq cn=>[([(g,.agg c)],[(dq,.agg (jR false .fx (sA c)))]),([(0,.agg cn)],[(0,.agg (jR false .fx (sA cn)))])]
  | _=>[])
 | _=>[]
def xX (s s':TS):List (Nat×TV)→List (List (Nat×TV)×List (Nat×TV))
 | []=>[]
 | p::r=>match Nat.blt p.1 1000000 with
  | true=>xX s s' r
  | false=>aki (s.get p.1) (s'.get p.1)++xX s s' r
def E6:List (Nat×Nat)→List (Nat×Nat)→Bool
 | [],[]=>true
 | (a,b)::r,(c,d)::q=>Nat.beq a c&&Nat.beq b d&&E6 r q
 | _,_=>false
def s7.jj (b:ek) (ej:TS) (x y:s7):s7:=match x with
 | .bad=> .bad
 | .none=>(match y with
  | .bad=> .bad
  | .none=> .none
  | .some s q=> .some ⟨s.T++ej.T,ej.B,s.vs,s.a_⟩ ((s.B,ej.T++ej.B)::q))
 | .some s q=>(match y with
  | .bad=> .bad
  | .none=> .some ⟨s.T++ej.T,ej.B,s.vs,s.a_⟩ ((s.B,ej.T++ej.B)::q)
  | .some s' uc=>match Ak s s' (s.T++s'.T)&&E6 s.vs s'.vs&&Nat.beq s.a_ s'.a_ with
   | true=> .some ⟨(s.T++s'.T).map (fun p=>(p.1,ua b p.1 (s.get p.1) (s'.get p.1)))++ej.T,ej.B,s.vs,s.a_⟩ ((s.B,ej.T++ej.B)::(s'.B,ej.T++ej.B)::(q++(uc++(xF s s' (s.T++s'.T)++xX s s' (s.T++s'.T)))))
   | false=> .bad)
def aI.n1:aI→s7
 | .k5 ex s=>(match ex with
  | .normal=> .some s []
  | _=> .none)
 | .hJ | .no=> .none
 | .p _ t | .kd _ t | .eq _ _ t=>t.n1
 | .jj b s x y=>s7.jj b s x.n1 y.n1
 | .two _ _ | .all _ _=> .bad
 | .hD x _ _ y=>(match x.n1 with
  | .none=>y.n1
  | _=> .bad)
def aI.lT:aI→ek
 | .k5 ex _=>(match ex with
  | .normal=> .t
  | _=> .f)
 | .hJ | .no=> .f
 | .p _ t | .kd _ t | .eq _ _ t=>t.lT
 | .jj b _ x y=>ek.xP b x.lT y.lT
 | .two _ _ | .all _ _=> .t
 | .hD _ _ b y=>(match b with
  | .t=>y.lT
  | b=>ek.xP b y.lT .f)
def aI.facts:aI→List Prop
 | .k5 _ _ | .hJ | .no | .two _ _ | .all _ _=>[]
 | .p _ t | .eq _ _ t=>t.facts
 | .kd φ t=>φ::t.facts
 | .jj _ _ x y=>(match x.lT with
  | .f=>y.facts
  | _=>match y.lT with
   | .f=>x.facts
   | _=>[])
 | .hD _ eA _ y=>eA++y.facts
def PP (x y:TV):Prop:= ∃g c cn,x= .fc g c∧y= .fc g cn∧cz cn=cz c
structure TS.gy (s S:TS):Prop where
 vs:S.vs=s.vs
 a_:S.a_=s.a_
 get: ∀k,S.get k=s.get k∨(k<1000000∧((S.get k).bk=(s.get k).bk∨(S.get k).bk= .undef))∨(1000010≤k∧PP (s.get k) (S.get k))
theorem TS.gy.refl (s:TS):s.gy s:=⟨rfl,rfl,fun _=> .inl rfl⟩
theorem TS.gy.trans {a b c:TS} (h:a.gy b) (k:b.gy c):a.gy c:=⟨k.vs.trans h.vs,k.a_.trans h.a_,fun t=>by
 rcases k.get t with e | ⟨aw,e⟩ | ⟨aw,e⟩
 ·rw[e];exact h.get t
 ·refine .inr (.inl ⟨aw,?_⟩)
  rcases e with e | e
  ·rcases h.get t with q | ⟨_,q⟩ | ⟨hb,_⟩
   ·rw[e,q];exact .inl rfl
   ·rw[e];exact q
   ·omega
  ·exact .inr e
 ·refine .inr (.inr ⟨aw,?_⟩)
  rcases h.get t with q | ⟨hb,_⟩ | ⟨_,q⟩
  ·rw[←q];exact e
  ·omega
  ·obtain⟨g,x,y,aW,e2,cF⟩:=e
   obtain⟨dq,lM,anM,f1,f2,f3⟩:=q
   rw[aW] at f2
   cases f2
   exact⟨g,lM,y,f1,e2,cF.trans f3⟩⟩
theorem ajD {s s':TS} {l:List (Nat×TV)} (h:Ak s s' l=true) {k:Nat} {v:TV} (hm:(k,v)∈l) (hk: ¬k<1000000):1000010≤k∧(∃g c,s.get k= .fc g c)∧ ∃g c,s'.get k= .fc g c:=by
 induction l with
 | nil=>cases hm
 | cons p r br=>
  obtain⟨a,w⟩:=p
  unfold Ak at h
  split at h
  ·rename_i aG
   rcases List.mem_cons.1 hm with e | hm
   ·cases e;exact absurd (by rw[←Nat.blt_eq];exact aG) hk
   ·exact br h hm
  ·split at h
   ·rename_i hc
    rcases List.mem_cons.1 hm with e | hm
    ·cases e
     simp only[Bool.and_eq_true] at hc
     have Xg: ∀x:TV,Gn x=true→ ∃g c,x= .fc g c:=fun x hx=>by
      unfold Gn at hx
      split at hx
      ·exact⟨_,_,rfl⟩
      ·cases hx
     exact⟨Nat.le_of_ble_eq_true hc.2,Xg _ hc.1.1,Xg _ hc.1.2⟩
    ·exact br h hm
   ·cases h
theorem Xe {s s':TS}: ∀{l:List (Nat×TV)},(∀p∈xX s s' l,p.1=p.2)→ ∀k v,(k,v)∈l→ ¬k<1000000→ ∀(g:Nat) (c:List TV) (dq:Nat) (cn:List TV),s.get k= .fc g c→s'.get k= .fc dq cn→g=dq∧c=jR false .fx (sA c)∧cn=jR false .fx (sA cn)
 | [],_,k,v,h,_=>by cases h
 | p::r,U,k,v,h,hk=>fun g c dq cn aW e2=>by
  unfold xX at U
  rcases List.mem_cons.1 h with e | h
  ·cases e
   have hb:Nat.blt k 1000000=false:=by
    cases hb:Nat.blt k 1000000 with
    | true=>rw[Nat.blt_eq] at hb;exact absurd hb hk
    | false=>rfl
   simp only[hb,aW,e2] at U
   have q1:=U _ (List.mem_append_left _ (List.mem_cons_self ..))
   have q2:=U _ (List.mem_append_left _ (List.mem_cons_of_mem _ (List.mem_cons_self ..)))
   injection q1 with J _
   injection q2 with a2 _
   have b1:=(Prod.mk.inj J)
   have b2:=(Prod.mk.inj a2)
   exact⟨b1.1,TV.agg.inj b1.2,TV.agg.inj b2.2⟩
  ·refine Xe (fun q hm=>U q ?_) k v h hk g c dq cn aW e2
   split
   ·exact hm
   ·exact List.mem_append_right _ hm
theorem QW: ∀{l m:List (Nat×Nat)},E6 l m=true→l=m
 | [],[],_=>rfl
 | [],_::_,h=>by cases h
 | _::_,[],h=>by cases h
 | (a,b)::r,(c,d)::q,h=>by
  simp only[E6,Bool.and_eq_true] at h
  rw[Nat.eq_of_beq_eq_true h.1.1,Nat.eq_of_beq_eq_true h.1.2,QW h.2]
theorem ajW {b:ek} {x y:TV} (h:b.den=true):(xQ b x y).bk=x.bk∨(xQ b x y).bk= .undef:=by
 unfold xQ
 split
 ·split
  ·split
   ·left;simp[TV.bk,h]
   ·exact .inr rfl
  ·exact .inr rfl
 ·split
  ·left;simp[TV.bk,ek.Di,h]
  ·exact .inr rfl
 ·split
  ·left;simp[TV.bk,h]
  ·exact .inr rfl
 ·exact .inr rfl
theorem ajV {b:ek} {x y:TV} (h:b.den=false):(xQ b x y).bk=y.bk∨(xQ b x y).bk= .undef:=by
 unfold xQ
 split
 ·split
  ·split
   ·rename_i e;left;subst e;simp[TV.bk,h]
   ·exact .inr rfl
  ·exact .inr rfl
 ·split
  ·left;simp[TV.bk,ek.Di,h]
  ·exact .inr rfl
 ·split
  ·left;simp[TV.bk,h]
  ·exact .inr rfl
 ·exact .inr rfl
theorem akm {s ej:TS} (h:s.B=ej.T++ej.B) (vs:List (Nat×Nat)) (a_ k:Nat):TS.get ⟨s.T++ej.T,ej.B,vs,a_⟩ k=s.get k:=by
 unfold TS.get
 simp only
 rw[h,xI,xI]
theorem ajc {l:List (Nat×TV)} {f:Nat→TV} {k:Nat} {d:TV}:((∃v,(k,v)∈l)∧g_ (l.map fun p=>(p.1,f p.1)) k d=f k)∨((∀v,(k,v) ∉ l)∧g_ (l.map fun p=>(p.1,f p.1)) k d=d):=by
 induction l with
 | nil=>exact .inr ⟨(fun v h=>by cases h),rfl⟩
 | cons p r br=>
  obtain⟨a,w⟩:=p
  rw[List.map_cons,hl]
  by_cases e:a=k
  ·subst e;exact .inl ⟨⟨w,List.mem_cons_self ..⟩,if_pos rfl⟩
  ·rw[if_neg e]
   rcases br with⟨⟨v,q⟩,h⟩ | ⟨q,h⟩
   ·exact .inl ⟨⟨v,List.mem_cons_of_mem _ q⟩,h⟩
   ·refine .inr ⟨fun v hv=> ?_,h⟩
    rcases List.mem_cons.1 hv with hv | hv
    ·cases hv;exact e rfl
    ·exact q v hv
theorem VN {s s':TS}: ∀{l:List (Nat×TV)},(∀p∈xF s s' l,p.1=p.2)→ ∀k v,(k,v)∈l→L2 (s.get k) (s'.get k)=true→s.get k=s'.get k
 | [],_,k,v,h,_=>by cases h
 | p::r,U,k,v,h,aw=>by
  unfold xF at U
  rcases List.mem_cons.1 h with e | h
  ·cases e
   rw[aw] at U
   have:=U _ (List.mem_cons_self ..)
   injection this with aW _
   exact(Prod.mk.inj aW).2
  ·refine VN (fun q hm=>U q ?_) k v h aw
   split
   ·exact List.mem_cons_of_mem _ hm
   ·exact hm
theorem ajn {b:ek} {ej s s':TS} (h1:s.B=ej.T++ej.B) (h2:s'.B=ej.T++ej.B) (dk:Ak s s' (s.T++s'.T)=true) (hv:s.vs=s'.vs) (ag:s.a_=s'.a_) (U: ∀p∈xF s s' (s.T++s'.T)++xX s s' (s.T++s'.T),p.1=p.2):
  let S:TS:=⟨(s.T++s'.T).map (fun p=>(p.1,ua b p.1 (s.get p.1) (s'.get p.1)))++ej.T,ej.B,s.vs,s.a_⟩
  (b.den=true→s.gy S)∧(b.den=false→s'.gy S):=by
 intro S
 have afB: ∀p∈xF s s' (s.T++s'.T),p.1=p.2:=fun p ae=>U p (List.mem_append_left _ ae)
 have ll: ∀p∈xX s s' (s.T++s'.T),p.1=p.2:=fun p ae=>U p (List.mem_append_right _ ae)
 have gY: ∀k,((∃v,(k,v)∈s.T++s'.T)∧S.get k=ua b k (s.get k) (s'.get k))∨((∀v,(k,v) ∉ s.T++s'.T)∧S.get k=g_ ej.T k (g_ ej.B k .u)):=fun k=>by
  have e:S.get k=g_ (List.map (fun p=>(p.1,(fun k=>ua b k (s.get k) (s'.get k)) p.1)) (s.T++s'.T)) k (g_ ej.T k (g_ ej.B k .u)):=by
   show g_ (_++ej.T) k _=_
   rw[xI]
  rw[e];exact ajc (f:=fun k=>ua b k (s.get k) (s'.get k))
 have base: ∀(x:TS),x.B=ej.T++ej.B→ ∀k,(∀v,(k,v) ∉ x.T)→x.get k=g_ ej.T k (g_ ej.B k .u):=fun x hx k hk=>by
  unfold TS.get;rw[vq hk,hx,xI]
 have sm: ∀k,k<1000000→ua b k (s.get k) (s'.get k)=GB b (s.get k) (s'.get k):=fun k hk=>by
  unfold ua;rw[show Nat.blt k 1000000=true by rw[Nat.blt_eq];exact hk]
 have Qd: ∀k v,(k,v)∈s.T++s'.T→ ¬k<1000000→1000010≤k∧ ∃g c cn,s.get k= .fc g c∧s'.get k= .fc g cn∧c=jR false .fx (sA c)∧cn=jR false .fx (sA cn)∧ua b k (s.get k) (s'.get k)= .fc g (jR false .fx (bif b.den then sA c else sA cn)):=fun k v hm hk=>by
  obtain⟨cH,⟨g,c,aW⟩,dq,cn,e2⟩:=ajD dk hm hk
  obtain⟨dG,et,eN⟩:=Xe ll k v hm hk _ _ _ _ aW e2
  subst dG
  refine⟨cH,g,c,cn,aW,e2,et,eN,?_⟩
  unfold ua
  have hb:Nat.blt k 1000000=false:=by
   cases hb:Nat.blt k 1000000 with
   | true=>rw[Nat.blt_eq] at hb;exact absurd hb hk
   | false=>rfl
  rw[hb,aW,e2];rfl
 refine⟨fun hb=>⟨rfl,rfl,fun k=> ?_⟩,fun hb=>⟨hv,ag,fun k=> ?_⟩⟩
 ·rcases gY k with⟨⟨v,q⟩,h⟩ | ⟨q,h⟩
  ·by_cases hk:k<1000000
   ·rw[h,sm k hk];refine .inr (.inl ⟨hk,?_⟩)
    unfold GB
    split
    ·exact .inl rfl
    ·exact ajW hb
   ·obtain⟨cH,g,c,cn,aW,e2,et,eN,cF⟩:=Qd k v q hk
    refine .inr (.inr ⟨cH,g,c,_,aW,h.trans cF,?_⟩)
    rw[hb];exact congrArg cz et.symm
  ·rw[h];exact .inl (base s h1 k fun v hv=>q v (List.mem_append_left _ hv)).symm
 ·rcases gY k with⟨⟨v,q⟩,h⟩ | ⟨q,h⟩
  ·by_cases hk:k<1000000
   ·rw[h,sm k hk];refine .inr (.inl ⟨hk,?_⟩)
    unfold GB
    split
    ·rename_i aw;rw[VN afB k v q aw];exact .inl rfl
    ·exact ajV hb
   ·obtain⟨cH,g,c,cn,aW,e2,et,eN,cF⟩:=Qd k v q hk
    refine .inr (.inr ⟨cH,g,cn,_,e2,h.trans cF,?_⟩)
    rw[hb];exact congrArg cz eN.symm
  ·rw[h];exact .inl (base s' h2 k fun v hv=>q v (List.mem_append_right _ hv)).symm
theorem aI.VX: ∀{t:aI} {R:Exit→TS→Prop},t.n1= .none→t.den R→t.den fun ex s=>R ex s∧ex≠ .normal:=by
 intro t
 induction t with
 | k5 ex s=>
  intro R h d
  refine⟨d,?_⟩
  rintro rfl;cases h
 | hJ=>intros;trivial
 | no=>intro R h d;exact d
 | p φ t br=>intro R h d;exact⟨d.1,br h d.2⟩
 | kd φ t br=>intro R h d;exact fun q=>br h (d q)
 | eq a b t br=>intro R h d;exact⟨d.1,br h d.2⟩
 | two x y hT hA=>intro R h;cases h
 | all α f br=>intro R h;cases h
 | hD x eA b y hT hA=>
  intro R h d
  unfold aI.n1 at h
  split at h
  ·rename_i hx;exact⟨hT hx d.1,fun q=>hA h (d.2 q)⟩
  ·cases h
 | jj b s x y hT hA=>
  intro R h d
  have h:s7.jj b s x.n1 y.n1= .none:=h
  unfold s7.jj at h
  split at h
  ·cases h
  ·rename_i hx
   split at h
   ·cases h
   ·rename_i bi;exact⟨fun q=>hT hx (d.1 q),fun q=>hA bi (d.2 q)⟩
   ·cases h
  ·split at h
   ·cases h
   ·cases h
   ·split at h<;>cases h
theorem aI.ajq: ∀{t:aI} {R:Exit→TS→Prop} {S:TS} {j1:List (List (Nat×TV)×List (Nat×TV))},t.n1= .some S j1→(∀p∈j1,p.1=p.2)→t.den R→
  t.den fun ex s=>R ex s∧(ex= .normal→s.gy S∧t.lT.den=true∧ ∀φ∈t.facts,φ):=by
 intro t
 induction t with
 | k5 ex s=>
  intro R S j1 h U d
  refine⟨d,?_⟩
  rintro rfl
  cases h
  exact⟨.refl s,rfl,fun φ h=>by cases h⟩
 | hJ=>intros;trivial
 | no=>intro R S j1 h U d;exact d
 | p φ t br=>intro R S j1 h U d;exact⟨d.1,br h U d.2⟩
 | kd φ t br=>
  intro R S j1 h U d q
  refine aI.te (br h U (d q)) fun ex s hs=>⟨hs.1,fun e=>⟨(hs.2 e).1,(hs.2 e).2.1,fun ψ Ks=> ?_⟩⟩
  rcases List.mem_cons.1 Ks with rfl | Ks
  ·exact q
  ·exact(hs.2 e).2.2 ψ Ks
 | eq a b t br=>intro R S j1 h U d;exact⟨d.1,br h U d.2⟩
 | two x y hT hA=>intro R S j1 h;cases h
 | all α f br=>intro R S j1 h;cases h
 | hD x eA b y hT hA=>
  intro R S j1 h U d
  unfold aI.n1 at h
  split at h
  ·rename_i hx
   refine⟨aI.te (aI.VX hx d.1) fun ex s hs=>⟨hs.1,fun e=>absurd e hs.2⟩,fun q=>aI.te (hA h U (d.2 q)) fun ex s hs=>⟨hs.1,fun e=> ?_⟩⟩
   obtain⟨h1,h2,au⟩:=hs.2 e
   have dS: ∀(l:List Prop),rZ l→ ∀φ∈l,φ:=by
    intro l
    induction l with
    | nil=>intro _ φ eK;cases eK
    | cons a r br=>
     intro hc φ eK
     cases r with
     | nil=>rw[List.mem_singleton.1 eK];exact hc
     | cons ib G7=>
      have hc:a∧rZ (ib::G7):=hc
      rcases List.mem_cons.1 eK with rfl | eK
      ·exact hc.1
      ·exact br hc.2 φ eK
   have dS:=dS _ q
   refine⟨h1,?_,fun φ eK=> ?_⟩
   ·unfold aI.lT
    split
    ·exact h2
    ·rename_i bU
     have hb:b.den=true:=dS _ (by
      unfold zb
      split
      ·exact absurd rfl bU
      ·simp)
     rw[ek.Di,hb,h2];rfl
   ·rcases List.mem_append.1 eK with eK | eK
    ·have hm: ∀b:ek,φ∈zb eA b:=fun b=>by
      unfold zb
      split
      ·exact eK
      ·exact List.mem_append_left _ eK
     exact dS φ (hm b)
    ·exact au φ eK
  ·cases h
 | jj b ej x y hT hA=>
  intro R S j1 h U d
  have h:s7.jj b ej x.n1 y.n1= .some S j1:=h
  have Wf: ∀{z:aI} {R:Exit→TS→Prop},z.n1= .none→z.den R→z.den fun ex s=>R ex s∧(ex= .normal→False):=fun aB acI=>aI.VX aB acI
  have Rv:b.den=true→x.lT.den=true→(ek.xP b x.lT y.lT).den=true:=fun h1 h2=>by rw[ek.Di,h1,h2];rfl
  have Rw:b.den=false→y.lT.den=true→(ek.xP b x.lT y.lT).den=true:=fun h1 h2=>by rw[ek.Di,h1,h2];rfl
  have RH:x.lT.den=true→(∀φ∈x.facts,φ)→ ∀φ∈(aI.jj b ej x y).facts,φ:=fun h1 h2 φ eK=>by
   unfold aI.facts at eK
   split at eK
   ·rename_i e;rw[e] at h1;cases h1
   ·split at eK
    ·exact h2 φ eK
    ·cases eK
  have RI:y.lT.den=true→(∀φ∈y.facts,φ)→ ∀φ∈(aI.jj b ej x y).facts,φ:=fun h1 h2 φ eK=>by
   unfold aI.facts at eK
   split at eK
   ·exact h2 φ eK
   ·split at eK
    ·rename_i e;rw[e] at h1;cases h1
    ·cases eK
  have fc: ∀{s:TS},s.B=ej.T++ej.B→s.gy ⟨s.T++ej.T,ej.B,s.vs,s.a_⟩:=fun dD=>⟨rfl,rfl,fun k=> .inl (akm dD _ _ k)⟩
  unfold s7.jj at h
  split at h
  ·cases h
  ·rename_i hx
   split at h
   ·cases h
   ·cases h
   ·rename_i s q bi
    cases h
    have dD:=U _ (List.mem_cons_self ..)
    refine⟨fun hb=>aI.te (Wf hx (d.1 hb)) fun ex z aB=>⟨aB.1,fun e=>(aB.2 e).elim⟩,fun hb=>aI.te (hA bi (fun p ae=>U p (List.mem_cons_of_mem _ ae)) (d.2 hb)) fun ex z aB=>⟨aB.1,fun e=> ?_⟩⟩
    obtain⟨h1,h2,au⟩:=aB.2 e
    exact⟨h1.trans (fc dD),Rw hb h2,RI h2 au⟩
  ·rename_i s q hx
   split at h
   ·cases h
   ·rename_i bi
    cases h
    have dD:=U _ (List.mem_cons_self ..)
    refine⟨fun hb=>aI.te (hT hx (fun p ae=>U p (List.mem_cons_of_mem _ ae)) (d.1 hb)) fun ex z aB=>⟨aB.1,fun e=> ?_⟩,fun hb=>aI.te (Wf bi (d.2 hb)) fun ex z aB=>⟨aB.1,fun e=>(aB.2 e).elim⟩⟩
    obtain⟨h1,h2,au⟩:=aB.2 e
    exact⟨h1.trans (fc dD),Rv hb h2,RH h2 au⟩
   ·rename_i s' uc bi
    split at h
    ·rename_i hc
     cases h
     simp only[Bool.and_eq_true] at hc
     obtain⟨⟨c1,c3⟩,c4⟩:=hc
     have gl:=U _ (List.mem_cons_self ..)
     have aev:=U _ (List.mem_cons_of_mem _ (List.mem_cons_self ..))
     obtain⟨m1,m2⟩:=ajn (b:=b) gl aev c1 (QW c3) (Nat.eq_of_beq_eq_true c4) (fun p ae=>U p (List.mem_cons_of_mem _ (List.mem_cons_of_mem _ (List.mem_append_right _ (List.mem_append_right _ ae)))))
     refine⟨fun hb=>aI.te (hT hx (fun p ae=>U p (List.mem_cons_of_mem _ (List.mem_cons_of_mem _ (List.mem_append_left _ ae)))) (d.1 hb)) fun ex z aB=>⟨aB.1,fun e=> ?_⟩,
      fun hb=>aI.te (hA bi (fun p ae=>U p (List.mem_cons_of_mem _ (List.mem_cons_of_mem _ (List.mem_append_right _ (List.mem_append_left _ ae))))) (d.2 hb)) fun ex z aB=>⟨aB.1,fun e=> ?_⟩⟩
     ·obtain⟨h1,h2,au⟩:=aB.2 e
      exact⟨h1.trans (m1 hb),Rv hb h2,RH h2 au⟩
     ·obtain⟨h1,h2,au⟩:=aB.2 e
      exact⟨h1.trans (m2 hb),Rw hb h2,RI h2 au⟩
    ·cases h
def k6:List (Nat×Nat)→Nat→Option Nat
 | [],_=>none
 | (k,m)::r,t=>match Nat.beq k t with
  | true=>some m
  | false=>k6 r t
section
variable [FZ] {n:Nat} {s:TS}
theorem D4 (t:Nat):(s.aj n).T.getD t .undef=if t<n then(s.get t).bk else .undef:=by
 show((List.range n).map fun t=>(s.get t).bk).getD t .undef=_
 rw[List.getD_eq_getElem?_getD,List.getElem?_map]
 by_cases h:t<n
 ·rw[List.getElem?_range h,if_pos h];rfl
 ·rw[List.getElem?_eq_none (by simpa using h),if_neg h];rfl
theorem yj (v:Nat):eB (s.aj n).L v=(k6 s.vs v).map fun m=>cz (hN s v 0 m):=by
 show eB (s.vs.map fun p=>(p.1,cz (hN s p.1 0 p.2))) v=_
 induction s.vs with
 | nil=>rfl
 | cons p r br=>
  obtain⟨k,m⟩:=p
  rw[List.map_cons]
  unfold eB k6
  by_cases h:v=k
  ·subst h;simp
  ·have:Nat.beq k v=false:=by
    cases hb:Nat.beq k v with
    | true=>exact absurd (Nat.eq_of_beq_eq_true hb).symm h
    | false=>rfl
   simp only[h,if_false,this];exact br
theorem rH (b:Nat):s.gw[b]?=if b<s.a_ then some (s.get (bw b)).eh else none:=by
 show((List.range s.a_).map fun b=>(s.get (bw b)).eh)[b]?=_
 rw[List.getElem?_map]
 by_cases h:b<s.a_
 ·rw[List.getElem?_range h,if_pos h];rfl
 ·rw[List.getElem?_eq_none (by simpa using h),if_neg h];rfl
theorem oi:s.gw.length=s.a_:=by show((List.range s.a_).map _).length=_;simp
theorem uw {b:Nat} (h:b<s.a_):(s.aj n).H[b]?=some (s.get (bw b)).eh:=by
 show(s.gw++hj s)[b]?=_
 rw[List.getElem?_append_left (by rw[oi];exact h),rH,if_pos h]
theorem HK (h:ju s=true):(s.aj n).H.length=s.a_:=by
 show(s.gw++hj s).length=_
 unfold hj;rw[h];simp[oi]
end
def ET:Value→TV
 | .int k n=> .i k n
 | .bool b=> .b (match b with
  | true=> .t
  | false=> .f)
 | .string x=> .s x
 | .slice none 0 0=> .nil true true
 | .pointer none=> .o .fT
 | .nilIface=> .o .gu
 | _=> .u
theorem acg (v:Value):(ET v).bk=p6 v:=by
 unfold ET p6
 split
 ·rfl
 ·rename_i b;cases b<;>rfl
 ·rfl
 ·rfl
 ·rfl
 ·rfl
 ·rename_i h1 h2 au a8 bQ cv
  split
  ·exact absurd rfl (h1 _ _)
  ·exact absurd rfl (h2 _)
  ·exact absurd rfl (au _)
  ·exact absurd rfl a8
  ·exact absurd rfl bQ
  ·exact absurd rfl cv
  ·rfl
def cr (n:Nat) (s:TS):Operand→TV
 | .tmp t=>(match Nat.blt t n with
  | true=>s.get t
  | false=> .u)
 | .const v=>ET v
 | .func f=> .fn f []
 | .global _=> .u
theorem lu [FZ] (n:Nat) (s:TS):b6 (s.aj n).T=fun x=>(cr n s x).bk:=by
 funext x
 cases x with
 | tmp t=>
  show(s.aj n).T.getD t .undef=_
  rw[D4]
  unfold cr
  by_cases h:t<n
  ·have hb:Nat.blt t n=true:=by rw[Nat.blt_eq];exact h
   simp only[if_pos h,hb]
  ·have hb:Nat.blt t n=false:=by
    cases hb:Nat.blt t n with
    | true=>rw[Nat.blt_eq] at hb;exact absurd hb h
    | false=>rfl
   simp only[if_neg h,hb];rfl
 | const v=>exact(acg v).symm
 | func f=>rfl
 | global g=>rfl
def Rn (x:ek) (K:ek→aI):aI:=match x with
 | .t=>K .t
 | .f=>K .f
 | .v p=>K (.v p)
 | .at i p=>K (.at i p)
 | .n p=>K (.n p)
 | .ca p q=>K (.ca p q)
 | .or p q=>K (.or p q)
 | .ite p q r=>K (.ite p q r)
 | .y9 p q=>K (.y9 p q)
 | .ne p q=>K (.ne p q)
theorem adV (x:ek) (K:ek→aI):Rn x K=K x:=by cases x<;>rfl
def qV (v:TV) (K:TV→aI):aI:=match v with
 | .u=>K .u
 | .i k m=>K (.i k m)
 | .b x=>Rn x fun x=>K (.b x)
 | .s x=>K (.s x)
 | .l e xs f r=>K (.l e xs f r)
 | .nil f r=>K (.nil f r)
 | .ref p g m f=>K (.ref p g m f)
 | .ptr p g j m c=>K (.ptr p g j m c)
 | .lp t c=>K (.lp t c)
 | .dh e x c=>K (.dh e x c)
 | .agg c=>K (.agg c)
 | .tup c=>K (.tup c)
 | .fn f c=>K (.fn f c)
 | .o a=>K (.o a)
 | .blk g e xs m h=>K (.blk g e xs m h)
 | .fc g c=>K (.fc g c)
 | .kO g m ids=>K (.kO g m ids)
 | .gM V ids n h=>K (.gM V ids n h)
 | .new id xs=>K (.new id xs)
 | .zh w ids m n=>K (.zh w ids m n)
 | .zf w ids m j=>K (.zf w ids m j)
 | .Dc id m n=>K (.Dc id m n)
theorem r6 (v:TV) (K:TV→aI):qV v K=K v:=by
 cases v with
 | b x=>exact adV x fun x=>K (.b x)
 | _=>rfl
def pr:(e:bg)→e.T→AV
 | .ptr e,x=> .dh (cu false e x) 0
 | .jg f .unit,_=> .fn f []
 | .jg f e,x=> .fn f [pr e x]
 | e,x=>match e.isS with
  | true=> .agg (cu false e x)
  | false=>ks false e x
def ox:(es:List bg)→ck es→List AV
 | [],_=>[]
 | e::r,x=>pr e x.1::ox r x.2
def r1 (e:bg) (x:e.T):AV:=match e.isS with
 | true=> .agg (cu true e x)
 | false=>ks true e x
def qQ:(es:List bg)→ck es→List AV
 | [],_=>[]
 | e::r,x=>r1 e x.1::qQ r x.2
def r2:(es:List bg)→ck es→AV
 | [e],x=>r1 e x.1
 | es,x=> .tup (qQ es x)
def Ha (e:bg) (x:e.T):TV:=match e.isS with
 | true=> .agg (jR true e x)
 | false=>Ea true e x
def Hb:(es:List bg)→ck es→List TV
 | [],_=>[]
 | e::r,x=>Ha e x.1::Hb r x.2
def Hc:(es:List bg)→ck es→TV
 | [e],x=>Ha e x.1
 | es,x=> .tup (Hb es x)
theorem Xr (e:bg) (x:e.T):(Ha e x).bk=r1 e x:=by
 unfold Ha r1
 cases e.isS with
 | true=>show AV.agg (cz _)=_;rw[EM]
 | false=>exact Po true e x
theorem Xs: ∀(es:List bg) (x:ck es),cz (Hb es x)=qQ es x
 | [],_=>rfl
 | e::r,x=>by rw[Hb,cz,qQ,Xr,Xs r]
theorem MV (es:List bg) (x:ck es):(Hc es x).bk=r2 es x:=by
 match es,x with
 | [],x=>rfl
 | [e],x=>exact Xr e x.1
 | e::cA::r,x=>show AV.tup (cz _)=_;rw[Xs];rfl
structure cZ (P:Program) where
 f:FuncId
 ps:List bg
 rs:List bg
 pre:Option (ck ps→Prop)
 fn:ck ps→ck rs
 ok: ∀x,(match pre with
  | none=>True
  | some p=>p x)→bc P f (ox ps x) (r2 rs (fn x))
def abS {e cA:bg} (h:cA=e) (x:cA.T):e.T:=h▸x
def ES (aZ:IntKind) (v:TV) (K:Int→List Prop→aI):aI:=match v with
 | .i k n=>if k=aZ then K n [] else .no
 | _=> .no
def II (v:TV) (K:Bool→List Prop→aI):aI:=match v with
 | .b x=>K x.den []
 | _=> .no
def IM (v:TV) (K:ByteArray→List Prop→aI):aI:=match v with
 | .s x=>K x []
 | _=> .no
def IH (e:bg) (g n:Nat) (v:TV) (K:List e.T→List Prop→aI):aI:=match v with
 | .blk dq cA xs iU _=>if h:cA=e then .eq dq g (.eq iU n (K (mi h xs) [xs.length≤4611686018427387904])) else .no
 | _=> .no
def IN (s:TS) (e:bg) (g n:Nat) (v:TV) (K:List e.T→List Prop→aI):aI:=match v with
 | .kO dq m ids=>(match s.get dy with
  | .gM V cR bB _=>if h:bg.held=e then .eq cR ids (.eq dq 0 (.eq g 0 (.eq n bB (.eq m s.a_ (K (mi h V) [V.length≤4611686018427387904]))))) else .no
  | _=> .no)
 | v=>IH e g n v K
def IK (s:TS) (e:bg) (v:TV) (K:List e.T→List Prop→aI):aI:=match v with
 | .l cA xs _ _=>if h:cA=e then K (mi h xs) [] else .no
 | .nil _ _=>K [] []
 | .ref b g n _=>(match Nat.blt b s.a_ with
  | true=>IN s e g n (s.get (bw b)) K
  | false=> .no)
 | _=> .no
def pn (s:TS):(e:bg)→TV→(e.T→List Prop→aI)→aI
 | .int,v,K=>ES .i64 v K
 | .u64,v,K=>ES .u64 v K
 | .bool,v,K=>II v K
 | .str,v,K=>IM v K
 | .l e,v,K=>IK s e v K
 | _,_,_=> .no
def BZ (s:TS):(es:List bg)→List TV→(ck es→List Prop→aI)→aI
 | [],[],K=>K () []
 | e::r,v::vs,K=>pn s e v fun x o=>BZ s r vs fun y lZ=>K (x,y) (o++lZ)
 | _,_,_=> .no
def po (s:TS) (e:bg) (v:TV) (K:e.T→List Prop→aI):aI:=match e.isS with
 | true=>(match v with
  | .agg c=>BZ s e.ew c fun x o=>K (e.mk x) o
  | _=> .no)
 | false=>pn s e v K
def IL (s:TS) (e:bg) (v:TV) (K:e.T→List Prop→aI):aI:=match v with
 | .lp t c=>(match Nat.beq c 0 with
  | true=>(match k6 s.vs t with
   | some m=>BZ s e.ew (hN s t 0 m) fun x o=>K (e.mk x) o
   | none=> .no)
  | false=> .no)
 | .dh cA x c=>(match Nat.beq c 0 with
  | true=>if h:cA=e then K (abS h x) [] else .no
  | false=> .no)
 | _=> .no
def IJ (f:Nat) (v:TV) (K:Unit→List Prop→aI):aI:=match v with
 | .fn g c=>(match Nat.beq f g with
  | true=>(match c with
   | []=>K () []
   | _=> .no)
  | false=> .no)
 | _=> .no
def ER (f:Nat) (v:TV) (K:TV→aI):aI:=match v with
 | .fn g c=>(match Nat.beq f g with
  | true=>(match c with
   | [w]=>K w
   | _=> .no)
  | false=> .no)
 | _=> .no
def conv (s:TS):(e:bg)→TV→(e.T→List Prop→aI)→aI
 | .ptr e,v,K=>IL s e v K
 | .jg f .unit,v,K=>IJ f v K
 | .jg f e,v,K=>ER f v fun w=>match e.isS with
  | true=> .no
  | false=>conv s e w K
 | .bj,v,K=>po s .bj v K
 | .fB,v,K=>po s .fB v K
 | .dl,v,K=>po s .dl v K
 | .e3,v,K=>po s .e3 v K
 | .ij,v,K=>po s .ij v K
 | .held,v,K=>po s .held v K
 | .frame,v,K=>po s .frame v K
 | .done,v,K=>po s .done v K
 | .fault,v,K=>po s .fault v K
 | .stays,v,K=>po s .stays v K
 | .fx,v,K=>po s .fx v K
 | .int,v,K=>pn s .int v K
 | .u64,v,K=>pn s .u64 v K
 | .u8,v,K=>pn s .u8 v K
 | .bool,v,K=>pn s .bool v K
 | .str,v,K=>pn s .str v K
 | .unit,v,K=>pn s .unit v K
 | .nat,v,K=>pn s .nat v K
 | .l e,v,K=>pn s (.l e) v K
def IC (s:TS):(es:List bg)→List TV→(ck es→List Prop→aI)→aI
 | [],[],K=>K () []
 | e::r,v::vs,K=>conv s e v fun x o=>IC s r vs fun y lZ=>K (x,y) (o++lZ)
 | _,_,_=> .no
section
variable {n:Nat} {s:TS} {R:Exit→TS→Prop}
theorem abV {L:List (Nat×List AV)} {H:List Blk} (e:bg) (x:e.T):pX L H (cu true e x) (cu false e x):=by
 rw[←p7,←p7]
 have key: ∀(es:List bg) (y:ck es),pX L H (jT true es y) (jT false es y):=by
  intro es
  induction es with
  | nil=>intro y;exact .nil
  | cons e r br=>
   intro y
   refine .cons ?_ (br y.2)
   cases e<;>first | exact .int _ _ | exact .bool _ | exact .str _ | exact cj | exact .undef _
 exact key _ _
end
section
variable {n:Nat} {s:TS} {R:Exit→TS→Prop}
theorem QJ {k:IntKind} {v:TV} {K:Int→List Prop→aI} (h:(ES k v K).den R): ∃m,v= .i k m∧(K m []).den R:=by
 unfold ES at h
 split at h
 ·split at h
  ·rename_i e;subst e;exact⟨_,rfl,h⟩
  ·exact h.elim
 ·exact h.elim
end
section
variable {n:Nat} {s:TS} {R:Exit→TS→Prop}
theorem ab_ {v:TV} {K:Bool→List Prop→aI} (h:(II v K).den R): ∃x,v= .b x∧(K x.den []).den R:=by
 unfold II at h
 split at h
 ·exact⟨_,rfl,h⟩
 ·exact h.elim
end
section
variable {n:Nat} {s:TS} {R:Exit→TS→Prop}
theorem acf {v:TV} {K:ByteArray→List Prop→aI} (h:(IM v K).den R): ∃x,v= .s x∧(K x []).den R:=by
 unfold IM at h
 split at h
 ·exact⟨_,rfl,h⟩
 ·exact h.elim
end
section
variable {n:Nat} {s:TS} {R:Exit→TS→Prop}
theorem ab9 {e:bg} {g m:Nat} {v:TV} {K:List e.T→List Prop→aI} (h:(IH e g m v K).den R): ∃xs,∃hx:xs.length=m,v= .blk g e xs m hx∧(K xs [xs.length≤4611686018427387904]).den R:=by
 unfold IH at h
 split at h
 ·rename_i dq cA xs iU hx
  split at h
  ·rename_i bz
   subst bz
   obtain⟨h1,h2,h⟩:=h
   subst h1;subst h2
   exact⟨xs,hx,rfl,h⟩
  ·exact h.elim
 ·exact h.elim
end
section
variable {n:Nat} {s:TS} {R:Exit→TS→Prop}
theorem alC {L:List (Nat×List AV)} {H:List Blk} {a b:AV} (h:cL L H a b) (hb: ∀l,b≠ .agg l):fQ L H a b:=by
 rcases h with⟨l,l',_,e,_⟩ | h
 ·exact absurd e (hb l')
 ·exact h
end
section
variable {n:Nat} {s:TS} {R:Exit→TS→Prop}
theorem acP (fr:Bool) (e:bg) (x:e.T): ∀l,ks fr e x≠ .agg l:=by
 intro l h;cases e<;>cases h
end
section
variable {n:Nat} {s:TS} {R:Exit→TS→Prop}
theorem aca {f:Nat} {v:TV} {K:Unit→List Prop→aI} (h:(IJ f v K).den R):v= .fn f []∧(K () []).den R:=by
 unfold IJ at h
 split at h
 ·split at h
  ·rename_i hf
   obtain rfl:=Nat.eq_of_beq_eq_true hf
   split at h
   ·exact⟨rfl,h⟩
   ·exact h.elim
  ·exact h.elim
 ·exact h.elim
end
section
variable {n:Nat} {s:TS} {R:Exit→TS→Prop}
theorem acb {f:Nat} {v:TV} {K:TV→aI} (h:(ER f v K).den R): ∃w,v= .fn f [w]∧(K w).den R:=by
 unfold ER at h
 split at h
 ·split at h
  ·rename_i hf
   obtain rfl:=Nat.eq_of_beq_eq_true hf
   split at h
   ·exact⟨_,rfl,h⟩
   ·exact h.elim
  ·exact h.elim
 ·exact h.elim
end
section
variable {n:Nat} {s:TS} {R:Exit→TS→Prop}
theorem acT {e:bg} (h:e.isS=false) (x:e.T): ∀l,pr e x≠ .agg l:=by
 intro l
 cases e with
 | jg f e=>cases e<;>(intro h;cases h)
 | ptr e=>intro h;cases h
 | _=>first | (cases h;done) | exact acP false _ x l
end
section
variable [FZ] {n:Nat} {s:TS} {R:Exit→TS→Prop}
theorem th {V:List aq} {ids:List Nat} {bB:Nat} {hv:V.length=bB} (hk:s.get dy= .gM V ids bB hv):(s.aj n).H=s.gw++List.map bh ‹FZ›.bs:=by
 show s.gw++hj s=_
 unfold hj ju
 rw[hk]
theorem Ra {V:List aq} {ids:List Nat} {bB:Nat} {hv:V.length=bB} (hk:s.get dy= .gM V ids bB hv) {id:Nat} {k:Blk} (h:(List.map bh ‹FZ›.bs)[id]?=some k):(s.aj n).H[id+s.a_]?=some k:=by
 rw[th hk,List.getElem?_append_right (by rw[oi];omega),oi,Nat.add_sub_cancel];exact h
variable (aB:Fits s)
include aB in
theorem ach {e:bg} {b g m:Nat} {dK:Bool} {K:List e.T→List Prop→aI} (hb:b<s.a_) (h:(IN s e g m (s.get (bw b)) K).den R): ∃x o,(K x o).den R∧((∀φ∈o,φ)→fQ (s.aj n).L (s.aj n).H (.ref b g 0 m dK) (.aX (List.map (cu false e) x) false false)):=by
 unfold IN at h
 split at h
 ·rename_i dq hE ids ax
  split at h
  ·rename_i V cR bB kZ hk
   split at h
   ·rename_i he
    subst he
    obtain⟨h1,h2,au,a8,bQ,h⟩:=h
    subst h1;subst h2;subst au;subst a8;subst bQ;subst kZ
    refine⟨_,_,h,fun ai=> ?_⟩
    have aw:=ai _ (List.mem_singleton.2 rfl)
    obtain⟨q1,q2,q3⟩:=aB V cR _ _ hk
    have oG:V.length= ‹FZ›.ws.length:=by rw[←q2];exact i_ q1.ok
    have:=vR (L:=(s.aj n).L) (H:=(s.aj n).H) (b:=b) (s:=s.a_) (n:=V.length) (full:=dK) (ws:= ‹FZ›.ws) (ids:=cR) (bs:= ‹FZ›.bs) oG (by rw[uw hb,ax];rfl) (fun id k kz=>Ra hk kz) q1.ok (by omega) (fun x hx=>by have:=q1.len x hx;omega)
    rw[q2] at this
    exact this
   ·exact h.elim
  ·exact h.elim
 ·obtain⟨xs,hx,ax,h'⟩:=ab9 h
  subst hx
  refine⟨_,_,h',fun ai=> ?_⟩
  have aw:=ai _ (List.mem_singleton.2 rfl)
  exact XJ (eT:=cu true e) (by rw[uw hb,ax];rfl) (fun x=>abV e x) aw
include aB in
theorem acd {e:bg} {v:TV} {K:List e.T→List Prop→aI} (h:(IK s e v K).den R): ∃x o,(K x o).den R∧((∀φ∈o,φ)→fQ (s.aj n).L (s.aj n).H v.bk (.aX (List.map (cu false e) x) false false)):=by
 unfold IK at h
 split at h
 ·split at h
  ·rename_i bz;subst bz;exact⟨_,_,h,fun _=>cj⟩
  ·exact h.elim
 ·exact⟨_,_,h,fun _=>by rw[List.map_nil];exact cj⟩
 ·rename_i b g gf dK
  split at h
  ·rename_i hb
   exact ach aB (by rw[←Nat.blt_eq];exact hb) h
  ·exact h.elim
 ·exact h.elim
include aB in
theorem IB {e:bg} {v:TV} {K:e.T→List Prop→aI} (h:(pn s e v K).den R): ∃x o,(K x o).den R∧((∀φ∈o,φ)→fQ (s.aj n).L (s.aj n).H v.bk (ks false e x)):=by
 cases e with
 | int=>obtain⟨m,rfl,h⟩:=QJ h;exact⟨m,_,h,fun _=> .int _ _⟩
 | u64=>obtain⟨m,rfl,h⟩:=QJ h;exact⟨m,_,h,fun _=> .int _ _⟩
 | bool=>obtain⟨x,rfl,h⟩:=ab_ h;exact⟨_,_,h,fun _=> .bool _⟩
 | str=>obtain⟨x,rfl,h⟩:=acf h;exact⟨_,_,h,fun _=> .str _⟩
 | l e=>exact acd aB h
 | _=>exact h.elim
include aB in
theorem EP: ∀{es:List bg} {vs:List TV} {K:ck es→List Prop→aI},(BZ s es vs K).den R→ ∃x o,(K x o).den R∧((∀φ∈o,φ)→af (fQ (s.aj n).L (s.aj n).H) (cz vs) (jT false es x))
 | [],[],K,h=>⟨(),[],h,fun _=>af.nil⟩
 | e::r,v::vs,K,h=>by
  obtain⟨x,o,h,dk⟩:=IB aB (n:=n) (show(pn s e v _).den R from h)
  obtain⟨y,lZ,h,gb⟩:=EP h
  exact⟨(x,y),o++lZ,h,fun ai=>af.cons (dk fun φ eK=>ai φ (List.mem_append_left _ eK)) (gb fun φ eK=>ai φ (List.mem_append_right _ eK))⟩
 | [],_::_,K,h=>h.elim
 | _::_,[],K,h=>h.elim
include aB in
theorem ab5 {e:bg} {v:TV} {K:e.T→List Prop→aI} (h:(po s e v K).den R): ∃x o,(K x o).den R∧((∀φ∈o,φ)→cL (s.aj n).L (s.aj n).H v.bk (match e.isS with
  | true=> .agg (cu false e x)
  | false=>ks false e x)):=by
 unfold po at h
 cases ic:e.isS with
 | true=>
  rw[ic] at h
  simp only at h
  split at h
  ·rename_i c
   obtain⟨x,o,h,k⟩:=EP aB (n:=n) h
   refine⟨_,o,h,fun ai=> ?_⟩
   show cL _ _ (.agg (cz c)) (.agg (cu false e (e.mk x)))
   rw[←p7,bg.Z3]
   exact cL.agg (k ai)
  ·exact h.elim
 | false=>
  rw[ic] at h
  obtain⟨x,o,h,k⟩:=IB aB (n:=n) (show(pn s e v K).den R from h)
  exact⟨x,o,h,fun ai=> .inr (k ai)⟩
include aB in
theorem ace {e:bg} {v:TV} {K:e.T→List Prop→aI} (h:(IL s e v K).den R): ∃x o,(K x o).den R∧((∀φ∈o,φ)→cL (s.aj n).L (s.aj n).H v.bk (.dh (cu false e x) 0)):=by
 unfold IL at h
 split at h
 ·rename_i t c
  split at h
  ·rename_i hc
   obtain rfl:=Nat.eq_of_beq_eq_true hc
   split at h
   ·rename_i m hm
    obtain⟨x,o,h,k⟩:=EP aB (n:=n) h
    refine⟨_,o,h,fun ai=> .inr ?_⟩
    have k:=k ai
    show fQ _ _ (.fp t 0) (.dh (cu false e (e.mk x)) 0)
    rw[←p7,bg.Z3]
    exact .fp (cells:=cz (hN s t 0 m)) (by rw[yj,hm];rfl) k.1 k.2
   ·exact h.elim
  ·exact h.elim
 ·rename_i cA x c
  split at h
  ·rename_i hc
   obtain rfl:=Nat.eq_of_beq_eq_true hc
   split at h
   ·rename_i bz;subst bz;exact⟨_,_,h,fun _=> .inr (.dh _ _)⟩
   ·exact h.elim
  ·exact h.elim
 ·exact h.elim
include aB in
theorem ID: ∀{e:bg} {v:TV} {K:e.T→List Prop→aI},(conv s e v K).den R→ ∃x o,(K x o).den R∧((∀φ∈o,φ)→cL (s.aj n).L (s.aj n).H v.bk (pr e x)):=by
 intro e
 induction e with
 | ptr e br=>intro v K h;exact ace aB h
 | jg f e br=>
  intro v K h
  have key:(∀x,pr (.jg f e) x= .fn f [pr e x])→(ER f v fun w=>match e.isS with
   | true=> .no
   | false=>conv s e w K).den R→ ∃x o,(K x o).den R∧((∀φ∈o,φ)→cL (s.aj n).L (s.aj n).H v.bk (pr (.jg f e) x)):=by
   intro he h
   obtain⟨w,rfl,h'⟩:=acb h
   cases ic:e.isS with
   | true=>rw[ic] at h';exact h'.elim
   | false=>
    rw[ic] at h'
    obtain⟨x,o,h2,k⟩:=br h'
    refine⟨x,o,h2,fun ai=> .inr ?_⟩
    rw[he]
    refine fQ.fn (caps:=[w.bk]) rfl fun j a b h1 h2=> ?_
    cases j with
    | zero=>cases h1;cases h2;exact alC (k ai) (acT ic x)
    | succ j=>cases h1
  cases e with
  | unit=>
   obtain⟨rfl,h'⟩:=aca h
   exact⟨(),[],h',fun _=> .inr (fQ.fn (caps:=[]) rfl fun j a b h1 _=>by cases h1)⟩
  | _=>exact key (fun x=>rfl) h
 | _=>
  intro v K h
  first
  | exact ab5 aB (n:=n) h
  | (obtain⟨x,o,h,k⟩:=IB aB (n:=n) h;exact⟨x,o,h,fun ai=> .inr (k ai)⟩)
include aB in
theorem QD: ∀{es:List bg} {vs:List TV} {K:ck es→List Prop→aI},(IC s es vs K).den R→ ∃x o,(K x o).den R∧((∀φ∈o,φ)→af (cL (s.aj n).L (s.aj n).H) (cz vs) (ox es x))
 | [],[],K,h=>⟨(),[],h,fun _=>af.nil⟩
 | e::r,v::vs,K,h=>by
  obtain⟨x,o,h,dk⟩:=ID aB (n:=n) (show(conv s e v _).den R from h)
  obtain⟨y,lZ,h,gb⟩:=QD h
  exact⟨(x,y),o++lZ,h,fun ai=>af.cons (dk fun φ eK=>ai φ (List.mem_append_left _ eK)) (gb fun φ eK=>ai φ (List.mem_append_right _ eK))⟩
 | [],_::_,K,h=>h.elim
 | _::_,[],K,h=>h.elim
end
def GQ (l:List Prop) (t:aI):aI:=match l with
 | []=>t
 | l=> .p (rZ l) t
theorem QC: ∀{l:List Prop},rZ l→ ∀φ∈l,φ
 | [],_,φ,h=>by cases h
 | [a],hc,φ,h=>by rw[List.mem_singleton.1 h];exact hc
 | a::b::r,hc,φ,h=>by
  have hc:a∧rZ (b::r):=hc
  rcases List.mem_cons.1 h with rfl | h
  ·exact hc.1
  ·exact QC hc.2 φ h
theorem Wr {l:List Prop} {t:aI} {R:Exit→TS→Prop} (h:(GQ l t).den R):(∀φ∈l,φ)∧t.den R:=by
 unfold GQ at h
 split at h
 ·exact⟨(fun φ h=>by cases h),h⟩
 ·exact⟨QC h.1,h.2⟩
def Fj {P:Program}:List (cZ P)→FuncId→(cZ P→aI)→aI
 | [],_,_=> .no
 | c::r,f,K=>match Nat.beq c.f f with
  | true=>K c
  | false=>Fj r f K
def Ai:TV→Bool
 | .tup _=>false
 | .o a=>eL a
 | _=>true
theorem GH {v:TV} (h:Ai v=true):eL v.bk=true:=by cases v<;>first | rfl | exact h | cases h
def My {P:Program} (c:cZ P) (x:ck c.ps):List Prop:=match c.pre with
 | none=>[]
 | some p=>[p x]
def It {P:Program} (rI:List (cZ P)) (f:FuncId) (args:List TV) (s:TS) (K:TV→aI):aI:=match args.all Ai with
 | false=> .no
 | true=>Fj rI f fun c=>IC s c.ps args fun x o=>GQ (o++My c x) (K (Hc c.rs (c.fn x)))
theorem Rh {P:Program} {f:FuncId} {K:cZ P→aI} {R:Exit→TS→Prop}: ∀{rI:List (cZ P)},(Fj rI f K).den R→ ∃c,c.f=f∧(K c).den R
 | [],h=>h.elim
 | c::r,h=>by
  unfold Fj at h
  split at h
  ·rename_i hf;exact⟨c,Nat.eq_of_beq_eq_true hf,h⟩
  ·exact Rh h
theorem abQ [FZ] {P:Program} {rI:List (cZ P)} {f:FuncId} {args:List TV} {s:TS} {K:TV→aI} {R:Exit→TS→Prop} {n:Nat} {Kp:AV→Prop} (aB:Fits s) (hK: ∀v,(K v).den R→Kp v.bk) (h:(It rI f args s K).den R):
  p5 P f (cz args) (s.aj n).L (s.aj n).H Kp:=by
 unfold It at h
 split at h
 ·exact h.elim
 ·rename_i ag
  obtain⟨c,rfl,h1⟩:=Rh h
  obtain⟨x,o,h2,k⟩:=QD aB (n:=n) h1
  obtain⟨ai,au⟩:=Wr h2
  refine⟨?_,_,_,k fun φ eK=>ai φ (List.mem_append_left _ eK),c.ok x ?_,?_⟩
  ·rw[List.all_eq_true] at ag ⊢
   intro a aG
   rw[pi] at aG
   obtain⟨v,hv,rfl⟩:=List.mem_map.1 aG
   exact GH (ag v hv)
  ·have ae: ∀φ∈My c x,φ:=fun φ eK=>ai φ (List.mem_append_right _ eK)
   unfold My at ae
   revert ae
   cases c.pre with
   | none=>intro _;trivial
   | some p=>intro ae;exact ae _ (List.mem_singleton.2 rfl)
  ·rw[←MV];exact hK _ au
inductive Em:Type 1 where
 | no
 | v (x:TV)
 | c (φ:Prop) (x:TV)
 | c2 (φ ψ:Prop) (x:TV)
def tn (F:List Blk→(AV→Prop)→Prop) (K:TV→aI):Em→aI
 | .no=> .no
 | .v x=> .eq F (fun _ Q=>Q x.bk) (qV x K)
 | .c φ x=> .eq F (fun _ Q=>φ∧Q x.bk) (.p φ (qV x K))
 | .c2 φ ψ x=> .eq F (fun _ Q=>φ∧ψ∧Q x.bk) (.p (φ∧ψ) (qV x K))
theorem uY {F:List Blk→(AV→Prop)→Prop} (H:List Blk) {K:TV→aI} {g:Em} {R:Exit→TS→Prop} {Kp:AV→Prop} (hK: ∀v,(K v).den R→Kp v.bk) (h:(tn F K g).den R):F H Kp:=by
 cases g with
 | no=>exact h.elim
 | v x=>obtain⟨e,h⟩:=h;rw[r6] at h;rw[e];exact hK _ h
 | c φ x=>obtain⟨e,h1,h⟩:=h;rw[r6] at h;rw[e];exact⟨h1,hK _ h⟩
 | c2 φ ψ x=>obtain⟨e,h1,h⟩:=h;rw[r6] at h;rw[e];exact⟨h1.1,h1.2,hK _ h⟩
def rY:TV→List TV
 | .agg c=>c
 | v=>[v]
def yn (P:Program) (t:TypeId) (cells:List TV) (c:Nat):TV:=match z1 P t with
 | true=> .agg ((cells.drop c).take (P.cellsOf t))
 | false=>cells.getD c .u
def aea (op:BinOp) (x y:TV):Em:=match x with
 | .i k a=>(match y with
  | .i _ b=>(match op with
   | .add=> .v (.i k (k.wrap (a+b)))
   | .sub=> .v (.i k (k.wrap (a - b)))
   | .mul=> .v (.i k (k.wrap (a*b)))
   | .quo=> .c (b≠0) (.i k (k.wrap (a.tdiv b)))
   | .rem=> .c (b≠0) (.i k (a.tmod b))
   | .and=> .v (.i k (k.wrap (BitVec.ofInt k.bits a&&&BitVec.ofInt k.bits b).toNat))
   | .shl=> .c (0≤b) (.i k (k.wrap (a*2 ^ (min b.toNat k.bits))))
   | .shr=> .c (0≤b) (.i k (a.fdiv (2 ^ (min b.toNat k.bits))))
   | .eql=> .v (.b (.v (a==b)))
   | .neq=> .v (.b (.v (a !=b)))
   | .lss=> .v (.b (.v (decide (a<b))))
   | .leq=> .v (.b (.v (decide (a≤b))))
   | .gtr=> .v (.b (.v (decide (a>b))))
   | .geq=> .v (.b (.v (decide (a ≥ b))))
   | _=> .no)
  | _=> .no)
 | .b p=>(match y with
  | .b q=>(match op with
   | .eql=> .v (.b (.y9 p q))
   | .neq=> .v (.b (.ne p q))
   | _=> .no)
  | _=> .no)
 | .s p=>(match y with
  | .s q=>(match op with
   | .add=> .c (p.size+q.size≤9223372036854775807) (.s (p++q))
   | .eql=> .v (.b (.v (p.toList==q.toList)))
   | .neq=> .v (.b (.v (!(p.toList==q.toList))))
   | _=> .no)
  | _=> .no)
 | .agg l=>(match y with
  | .agg m=>(match l,m with
   | [.i _ a,.i _ b],[.i _ c,.i _ d]=>(match op with
    | .eql=> .v (.b (.v (a==c&&b==d)))
    | .neq=> .v (.b (.v (!(a==c&&b==d))))
    | _=> .no)
   | _,_=> .no)
  | _=> .no)
 | _=> .no
def Eh (P:Program) (t:TypeId):List TV:=match(P.info? t).bind (·.zero) with
 | some z=>z.cells.toList.map ET
 | none=>[]
def Rb (pl:List (Nat×Nat)) (cells:List TV):List (Nat×TV)→List TV
 | []=>cells
 | (i,v)::r=>match pl[i]? with
  | some p=>Rb pl (cells.take p.1++rY v++cells.drop (p.1+(rY v).length)) r
  | none=>cells
def ad3 (e:bg) (v:TV):e.T:=match e.isS with
 | true=>e.mk (qW e.ew (rY v))
 | false=>Ju e v
def adX:TV→Bool
 | .l _ _ _ fr=>fr
 | .nil _ fr=>fr
 | .agg c=>c.all fun v=>match v with
  | .l _ _ _ fr=>fr
  | .nil _ fr=>fr
  | _=>true
 | _=>true
def VP (e:bg) (xs:List e.T) (l:List TV):TV:=match l with
 | []=> .nil true true
 | l=> .l e xs true (l.all adX)
def Gu (s:TS) (e:bg):List TV→(List e.T→aI)→aI
 | [],K=>K []
 | v::r,K=>conv s e v fun x _=>Gu s e r fun xs=>K (x::xs)
theorem L4 [FZ] {n:Nat} {s:TS} {e:bg} {R:Exit→TS→Prop} (aB:Fits s): ∀{l:List TV} {K:List e.T→aI},(Gu s e l K).den R→ ∃xs,(K xs).den R
 | [],K,h=>⟨_,h⟩
 | v::r,K,h=>by
  obtain⟨x,o,h,_⟩:=ID aB (n:=n) (show(conv s e v _).den R from h)
  obtain⟨xs,h⟩:=L4 (n:=n) aB h
  exact⟨_,h⟩
def Aa:List (Nat×bg)→Nat→(bg→aI)→aI
 | [],_,_=> .no
 | (k,e)::r,t,K=>match Nat.beq k t with
  | true=>K e
  | false=>Aa r t K
structure gV (P:Program) where
 n:Nat
 I0:List (Nat×bg)
 rI:List (cZ P)
section
variable {P:Program} (cf:gV P) (s:TS)
def gs (P:Program) (n:Nat) (s:TS) (op:Op):Em:=match op with
 | .nilCheck x=> .v (cr n s x)
 | .load t a=>(match cr n s a with
  | .lp v c=>(match k6 s.vs v with
   | some m=> .v (yn P t (hN s v 0 m) c)
   | none=> .no)
  | .dh e x c=> .v (yn P t (jR false e x) c)
  | _=> .no)
 | .fieldAddr t x f=>(match Fe P t f with
  | some fd=>(match cr n s x with
   | .lp v c=> .v (.lp v (c+fd.offset))
   | .dh e x c=> .v (.dh e x (c+fd.offset))
   | .ptr b g i m c=> .v (.ptr b g i m (c+fd.offset))
   | _=> .no)
  | none=> .no)
 | .unOp op _ x=>(match cr n s x with
  | .b z=>(match op with
   | .not=> .v (.b z.not)
   | _=> .no)
  | .i k m=>(match op with
   | .neg=> .v (.i k (k.wrap (0 - m)))
   | _=> .no)
  | _=> .no)
 | .convert _ d x=>(match cr n s x with
  | .i _ m=>(match zZ P d with
   | some k=> .v (.i k (k.wrap m))
   | none=> .no)
  | _=> .no)
 | .binOp op _ x y _=>aea op (cr n s x) (cr n s y)
 | .build t ps=>(match Mu P t with
  | some pl=> .v (.agg (Rb pl (Eh P t) (ps.toList.map fun p=>(p.1,cr n s p.2))))
  | none=> .no)
 | .index _ x i=>(match cr n s x with
  | .s z=>(match cr n s i with
   | .i _ m=> .c2 (0≤m) (m<z.size) (.i .u8 (z.data.getD m.toNat 0).toNat)
   | _=> .no)
  | _=> .no)
 | .extract x i=>(match cr n s x with
  | .tup l=> .v (l.getD i .u)
  | _=> .no)
 | .makeFunc fn _ caps=>(match fn with
  | .func f=> .v (.fn f (caps.toList.map (cr n s)))
  | _=> .no)
 | _=> .no
def ve (P:Program) (t:TypeId):Option Nat:=match jp P t with
 | some e=>(match(P.info? e).isSome with
  | true=>some (P.cellsOf e)
  | false=>none)
 | none=>none
theorem zG {P:Program} {t:TypeId} {m:Nat} (h:ve P t=some m): ∃e,jp P t=some e∧(P.info? e).isSome=true∧P.cellsOf e=m:=by
 unfold ve at h
 split at h
 ·rename_i e he
  split at h
  ·rename_i hi;exact⟨e,he,hi,Option.some.inj h⟩
  ·cases h
 ·cases h
def tc (s:TS) (b g:Nat) (K:(e:bg)→(xs:List e.T)→(m:Nat)→xs.length=m→aI):aI:=match Nat.blt b s.a_ with
 | true=>(match s.get (bw b) with
  | .blk dq e xs m h=> .eq dq g (K e xs m h)
  | _=> .no)
 | false=> .no
theorem yV [FZ] {n:Nat} {s:TS} {b g:Nat} {K:(e:bg)→(xs:List e.T)→(m:Nat)→xs.length=m→aI} {R:Exit→TS→Prop} (h:(tc s b g K).den R):
  ∃e xs m hm,(K e xs m hm).den R∧b<s.a_∧(s.aj n).H[b]?=some ⟨g,e.mA,xs.map (cu true e)⟩:=by
 unfold tc at h
 split at h
 ·rename_i hb
  have hb:b<s.a_:=by rw[←Nat.blt_eq];exact hb
  split at h
  ·rename_i dq e xs m hm ax
   obtain⟨h1,h⟩:=h
   subst h1
   exact⟨e,xs,m,hm,h,hb,by rw[uw hb,ax];rfl⟩
  ·exact h.elim
 ·exact h.elim
def EO (V:List aq) (ids:List Nat) (m:Nat) (i:Int):List TV:=[.i .i64 (nth V i).ar,.i .i64 (nth V i).a7,.zh i ids m (nth V i).ah.length,.b (.v (nth V i).bI),.i .i64 (nth V i).bG]
theorem HX {ws:List aq} {ids:List Nat} {bs:List (List Bool)} {i:Int} (ok:kQ ws ids bs) (h:i.toNat<(view ws ids bs).length):nth (view ws ids bs) i={nth ws i with ah:=bs.getD (nth ids i) []}:=by
 have aw:=i_ ok
 have h1:=fM (xs:=ws) (i:=i) (by omega)
 have h2:=fM (xs:=ids) (i:=i) (by have:=ok.len;omega)
 have:=yq (bs:=bs) h1 h2
 rw[fM h] at this
 exact Option.some.inj this
theorem akw [Z:FZ] {V:List aq} {ids:List Nat} {m:Nat} {i:Int} (G:fP Z.ws ids Z.bs) (e:view Z.ws ids Z.bs=V) (h:i.toNat<V.length):(aR m Z.ws ids)[i.toNat]?=some (cz (EO V ids m i)):=by
 subst e
 have aw:=i_ G.ok
 have ae9:=G.ok.len
 rw[dx ae9 (by omega)]
 have hb:=G.ok.ah i.toNat _ _ (fM (xs:=Z.ws) (i:=i) (by omega)) (fM (xs:=ids) (i:=i) (by omega))
 unfold EO
 rw[HX G.ok h]
 show some (kv m (nth Z.ws i) (nth ids i))=some _
 unfold kv
 rw[hb];rfl
def Kw (P:Program) (t:TypeId) (b g m:Nat) (i:Int) (s:TS) (v:TV) (K:TV→aI):aI:=match v with
 | .kO dq _ _=>(match Nat.blt b s.a_ with
  | true=> .eq dq g (.eq (ve P t) (some 5) (.p (0≤i∧i.toNat<m) (K (.ptr b g i m 0))))
  | false=> .no)
 | _=>tc s b g fun e _ _ _=> .eq (ve P t) (some e.mA) (.p (0≤i∧i.toNat<m) (K (.ptr b g i m 0)))
def Kx (P:Program) (t:TypeId) (w:Int) (ids:List Nat) (m k:Nat) (i:Int) (s:TS) (K:TV→aI):aI:=match s.get dy with
 | .gM V cR _ _=> .eq cR ids (.eq m s.a_ (.eq (ve P t) (some 1) (.p (w.toNat<V.length∧0≤i∧i.toNat<k) (K (.zf w ids m i)))))
 | _=> .no
def Ky (P:Program) (t:TypeId) (x i:TV) (s:TS) (K:TV→aI):aI:=match i with
 | .i _ i=>(match x with
  | .l e xs _ _=> .eq (ve P t) (some e.mA) (.p (0≤i∧i.toNat<xs.length) (K (.dh e (vw e xs i) 0)))
  | .ref b g m _=>Kw P t b g m i s (s.get (bw b)) K
  | .zh w ids m k=>Kx P t w ids m k i s K
  | _=> .no)
 | _=> .no
def LY (P:Program) (t:TypeId) (w:Int) (ids:List Nat) (m:Nat) (j:Int) (s:TS) (K:TV→aI):aI:=match s.get dy with
 | .gM V cR _ _=> .eq cR ids (.eq m s.a_ (.p (w.toNat<V.length∧j.toNat<(nth V w).ah.length) (tn (fun _ Q=>jH P t [AV.bool (nth (nth V w).ah j)] 0 Q) K (.v (yn P t [.b (.v (nth (nth V w).ah j))] 0)))))
 | _=> .no
def LZ (P:Program) (t:TypeId) (b g:Nat) (i:Int) (m c:Nat) (s:TS) (K:TV→aI):aI:=match s.get (bw b) with
 | .kO dq hE ids=>(match Nat.blt b s.a_ with
  | true=>(match s.get dy with
   | .gM V cR _ _=> .eq dq g (.eq cR ids (.p (i.toNat<V.length) (tn (fun _ Q=>jH P t (cz (EO V ids hE i)) c Q) K (.v (yn P t (EO V ids hE i) c)))))
   | _=> .no)
  | false=> .no)
 | .fc dq ay=>(match Nat.blt b s.a_ with
  | true=> .eq dq g (.eq i 0 (tn (fun _ Q=>jH P t (cz ay) c Q) K (.v (yn P t ay c))))
  | false=> .no)
 | _=>tc s b g fun e xs fh _=> .eq fh m (.p (i.toNat<m) (tn (fun _ Q=>jH P t (cu true e (vw e xs i)) c Q) K (.v (yn P t (jR true e (vw e xs i)) c))))
def Nl (P:Program) (t:TypeId) (x:TV) (lo hi:Option TV) (K:TV→aI):aI:=match x with
 | .l e xs _ fr=>(match lo with
  | none=>(match hi with
   | some (.i _ b)=> .eq (ve P t) (some e.mA) (.p (0≤b∧b≤(xs.length:Int)) (K (.l e (xs.take b.toNat) false fr)))
   | _=> .no)
  | some (.i _ a)=>(match hi with
   | none=> .eq (ve P t) (some e.mA) (.p (0≤a∧a≤(xs.length:Int)) (K (.l e (xs.drop a.toNat) false fr)))
   | _=> .no)
  | _=> .no)
 | _=> .no
def L0 (P:Program) (t:TypeId) (x:TV) (K:TV→aI):aI:=match x with
 | .l _ xs _ _=> .eq (kf P t x.bk) true (K (.i .i64 xs.length))
 | .nil _ _=> .eq (kf P t x.bk) true (K (.i .i64 (0:Nat)))
 | .s z=> .eq (kf P t x.bk) true (K (.i .i64 z.size))
 | .ref _ _ m _=> .eq (kf P t x.bk) true (K (.i .i64 m))
 | .zh _ _ _ k=> .eq (kf P t x.bk) true (K (.i .i64 k))
 | _=> .no
def uh (o:Oper) (K:TV→aI):aI:=match o.op with
 | .move x=>qV (cr cf.n s x) K
 | .assign x=>qV (cr cf.n s x) K
 | .indexAddr t x i=>Ky P t (cr cf.n s x) (cr cf.n s i) s K
 | .load t a=>(match cr cf.n s a with
  | .ptr b g i m c=>LZ P t b g i m c s K
  | .zf w ids m j=>LY P t w ids m j s K
  | _=>tn (fun H Q=>j_ P o (fun x=>(cr cf.n s x).bk) s.b8 H Q) K (gs P cf.n s o.op))
 | .slice t x lo hi mx=>(match mx with
  | none=>Nl P t (cr cf.n s x) (lo.map (cr cf.n s)) (hi.map (cr cf.n s)) K
  | some _=> .no)
 | .call c=>(match c.callee with
  | .builtin b=>(match b with
   | .len=>(match c.args.toList,c.argTypes.toList with
    | [x],[t]=>L0 P t (cr cf.n s x) K
    | _,_=> .no)
   | _=> .no)
  | .value f=>(match cr cf.n s f with
   | .fn g caps=>It cf.rI g (c.args.toList.map (cr cf.n s)++caps) s K
   | _=> .no)
  | _=> .no)
 | .buildSlice t m ps=>Aa cf.I0 t fun e=>Gu s e (ps.toList.map fun p=>cr cf.n s p.2) fun xs=>tn (fun H Q=>j_ P o (fun x=>(cr cf.n s x).bk) s.b8 H Q) K (.v (VP e xs (ps.toList.map fun p=>cr cf.n s p.2)))
 | op=>tn (fun H Q=>j_ P o (fun x=>(cr cf.n s x).bk) s.b8 H Q) K (gs P cf.n s op)
end
theorem Mi {e:bg} {xs:List e.T} {i:Int} (h:i.toNat<xs.length) (fr:Bool):(xs.map (cu fr e))[i.toNat]?=some (cu fr e (vw e xs i)):=by
 rw[List.getElem?_map]
 have:xs[i.toNat]?=some (vw e xs i):=by
  have:= @fM e.T e.xy xs i h
  exact this
 rw[this];rfl
section
variable {P:Program} {cf:gV P} {s:TS} {R:Exit→TS→Prop} {K:TV→aI} {Kp:AV→Prop}
theorem alb {t:TypeId} {x:TV} {lo hi:Option TV} {H:List Blk} (hK: ∀v,(K v).den R→Kp v.bk) (h:(Nl P t x lo hi K).den R):x4 P t x.bk (lo.map TV.bk) (hi.map TV.bk) H Kp:=by
 unfold Nl at h
 split at h
 ·rename_i e xs dK fr
  have eH: ∀{m:Nat},m=e.mA→ ∀(i:Nat) (row:List AV),(List.map (cu false e) xs)[i]?=some row→row.length=m:=fun hm i row ao=>by
   rw[List.getElem?_map] at ao
   cases hx:xs[i]? with
   | none=>rw[hx] at ao;cases ao
   | some x=>rw[hx] at ao;cases ao;rw[wN,hm]
  split at h
  ·split at h
   ·rename_i k b
    obtain⟨h1,h2,h⟩:=h
    obtain⟨o9,q1,q2,q3⟩:=zG h1
    refine ec q1 ?_
    rw[if_pos q2]
    refine⟨h2.1,Nat.zero_le _,by rw[List.length_map];omega,eH q3,?_⟩
    rw[List.drop_zero,Nat.sub_zero,←List.map_take];exact hK _ h
   ·exact h.elim
  ·split at h
   ·rename_i k a
    obtain⟨h1,h2,h⟩:=h
    obtain⟨o9,q1,q2,q3⟩:=zG h1
    refine ec q1 ?_
    rw[if_pos q2]
    refine⟨h2.1,by rw[List.length_map];omega,Nat.le_refl _,eH q3,?_⟩
    rw[List.take_of_length_le (by rw[List.length_drop];omega),←List.map_drop];exact hK _ h
   ·exact h.elim
  ·exact h.elim
 ·exact h.elim
end
section
variable {P:Program} {cf:gV P} {s:TS} {R:Exit→TS→Prop} {K:TV→aI} {Kp:AV→Prop}
theorem aiY {t:TypeId} {x:TV} (hK: ∀v,(K v).den R→Kp v.bk) (h:(L0 P t x K).den R):eM (kf P t x.bk) (tY x.bk Kp):=by
 unfold L0 at h
 split at h
 ·obtain⟨h1,h⟩:=h
  rw[h1]
  show Kp (.int .i64 ((List.map _ _).length:Nat))
  rw[List.length_map];exact hK _ h
 ·obtain⟨h1,h⟩:=h;rw[h1];exact hK _ h
 ·obtain⟨h1,h⟩:=h;rw[h1];exact hK _ h
 ·obtain⟨h1,h⟩:=h;rw[h1];exact hK _ h
 ·obtain⟨h1,h⟩:=h;rw[h1];exact hK _ h
 ·exact h.elim
end
section
variable {P:Program} {cf:gV P} {s:TS} {R:Exit→TS→Prop} {K:TV→aI} {Kp:AV→Prop}
theorem L5 {l:List (Nat×bg)} {t:Nat} {K:bg→aI} (h:(Aa l t K).den R): ∃e,(K e).den R:=by
 induction l with
 | nil=>exact h.elim
 | cons p r br=>
  obtain⟨k,e⟩:=p
  unfold Aa at h
  split at h
  ·exact⟨e,h⟩
  ·exact br h
end
section
variable [FZ] {P:Program} {cf:gV P} {s:TS} {R:Exit→TS→Prop} {K:TV→aI} {Kp:AV→Prop}
variable (aB:Fits s)
theorem af6 {t:TypeId} {b g m:Nat} {i:Int} {k:IntKind} {dK:Bool} (hK: ∀v,(K v).den R→Kp v.bk) (h:(Kw P t b g m i s (s.get (bw b)) K).den R):zF P t (.ref b g 0 m dK) (.int k i) (s.aj cf.n).H Kp:=by
 unfold Kw at h
 split at h
 ·rename_i dq hE ids ax
  split at h
  ·rename_i hb
   have hb:b<s.a_:=by rw[←Nat.blt_eq];exact hb
   obtain⟨h1,h2,au,h⟩:=h
   subst h1
   obtain⟨o9,q1,q2,q3⟩:=zG h2
   refine ec q1 ?_
   rw[if_pos q2]
   refine ec (by rw[uw hb,ax]) ⟨rfl,q3.symm,au.1,by have:=au.2;omega,?_⟩
   rw[Nat.zero_add];exact hK _ h
  ·exact h.elim
 ·obtain⟨e,xs,fh,hm,h,hb,av⟩:=yV (n:=cf.n) h
  obtain⟨h1,h2,h⟩:=h
  obtain⟨o9,q1,q2,q3⟩:=zG h1
  refine ec q1 ?_
  rw[if_pos q2]
  refine ec av ⟨rfl,q3.symm,h2.1,by have:=h2.2;omega,?_⟩
  rw[Nat.zero_add];exact hK _ h
include aB in
theorem Jf {V:List aq} {ids:List Nat} {w:Int} {bB:Nat} {hv:V.length=bB} (hk:s.get dy= .gM V ids bB hv) (hw:w.toNat<V.length):(s.aj cf.n).H[nth ids w+s.a_]?=some (bh (nth V w).ah):=by
 obtain⟨G,e,_⟩:=aB V ids _ _ hk
 have aw:=i_ G.ok
 rw[e] at aw
 have hid:=G.ok.lt w.toNat _ (fM (xs:=ids) (i:=w) (by have:=G.ok.len;omega))
 refine Ra hk ?_
 rw[r3 hid,←e,HX G.ok (by rw[e];exact hw)]
include aB in
theorem af7 {t:TypeId} {w:Int} {ids:List Nat} {m c:Nat} {i:Int} {k:IntKind} (hK: ∀v,(K v).den R→Kp v.bk) (h:(Kx P t w ids m c i s K).den R):zF P t (.ref (nth ids w+m) 0 0 c false) (.int k i) (s.aj cf.n).H Kp:=by
 unfold Kx at h
 split at h
 ·rename_i V cR bB kZ hk
  obtain⟨h1,h2,au,a8,h⟩:=h
  subst h1;subst h2
  obtain⟨o9,q1,q2,q3⟩:=zG au
  refine ec q1 ?_
  rw[if_pos q2]
  refine ec (Jf aB hk a8.1) ⟨rfl,q3.symm,a8.2.1,by have:=a8.2.2;omega,?_⟩
  rw[Nat.zero_add];exact hK _ h
 ·exact h.elim
include aB in
theorem af_ {t:TypeId} {x i:TV} (hK: ∀v,(K v).den R→Kp v.bk) (h:(Ky P t x i s K).den R):zF P t x.bk i.bk (s.aj cf.n).H Kp:=by
 unfold Ky at h
 split at h
 ·split at h
  ·obtain⟨h1,h2,h⟩:=h
   obtain⟨o9,q1,q2,q3⟩:=zG h1
   refine ec q1 ?_
   rw[if_pos q2]
   exact⟨h2.1,ec (Mi h2.2 false) ⟨by rw[wN,q3],hK _ h⟩⟩
  ·exact af6 hK h
  ·exact af7 aB hK h
  ·exact h.elim
 ·exact h.elim
include aB in
theorem aiO {t:TypeId} {w:Int} {ids:List Nat} {m:Nat} {j:Int} (hK: ∀v,(K v).den R→Kp v.bk) (h:(LY P t w ids m j s K).den R):qg P t (.ptr (nth ids w+m) 0 j.toNat 0) (s.aj cf.n).L (s.aj cf.n).H Kp:=by
 unfold LY at h
 split at h
 ·rename_i V cR bB kZ hk
  obtain⟨h1,h2,au,h⟩:=h
  subst h1;subst h2
  exact ec (Jf aB hk au.1) ⟨rfl,ec (BV au.2) (uY [] hK h)⟩
 ·exact h.elim
include aB in
theorem aiP {t:TypeId} {b g m c:Nat} {i:Int} (hK: ∀v,(K v).den R→Kp v.bk) (h:(LZ P t b g i m c s K).den R):qg P t (.ptr b g i.toNat c) (s.aj cf.n).L (s.aj cf.n).H Kp:=by
 unfold LZ at h
 split at h
 ·rename_i dq hE ids ax
  split at h
  ·rename_i hb
   have hb:b<s.a_:=by rw[←Nat.blt_eq];exact hb
   split at h
   ·rename_i V cR bB kZ hk
    obtain⟨h1,h2,au,h⟩:=h
    subst h1;subst h2
    obtain⟨G,e,_⟩:=aB V cR _ _ hk
    exact ec (by rw[uw hb,ax]) ⟨rfl,ec (akw G e au) (uY [] hK h)⟩
   ·exact h.elim
  ·exact h.elim
 ·rename_i dq ay ax
  split at h
  ·rename_i hb
   have hb:b<s.a_:=by rw[←Nat.blt_eq];exact hb
   obtain⟨h1,h2,h⟩:=h
   subst h1;subst h2
   exact ec (by rw[uw hb,ax]) ⟨rfl,ec (a:=cz ay) rfl (uY [] hK h)⟩
  ·exact h.elim
 ·obtain⟨e,xs,fh,hm,h,hb,av⟩:=yV (n:=cf.n) h
  obtain⟨h1,h2,h⟩:=h
  refine ec av ⟨rfl,ec (Mi (by omega) true) ?_⟩
  exact uY [] hK h
include aB in
theorem Xh {o:Oper} (hK: ∀v,(K v).den R→Kp v.bk) (h:(uh cf s o K).den R):j_ P o (b6 (s.aj cf.n).T) (s.aj cf.n).L (s.aj cf.n).H Kp:=by
 rw[lu]
 obtain⟨dst,op,ty,pos,after,guard⟩:=o
 unfold uh at h
 split at h
 ·rename_i x fL;cases fL;rw[r6] at h;exact hK _ h
 ·rename_i x fL;cases fL;rw[r6] at h;exact hK _ h
 ·rename_i t x i fL;cases fL;exact af_ aB hK h
 ·rename_i t a fL
  cases fL
  split at h
  ·rename_i b g i m c aG
   show qg P t (cr cf.n s a).bk _ _ Kp
   rw[aG];exact aiP aB hK h
  ·rename_i w ids m j aG
   show qg P t (cr cf.n s a).bk _ _ Kp
   rw[aG];exact aiO aB hK h
  ·exact uY (F:=fun H Q=>j_ P _ _ _ H Q) _ hK h
 ·rename_i t x lo hi mx fL
  cases fL
  split at h
  ·have:=alb (H:=(s.aj cf.n).H) hK h
   show x4 P t _ (lo.map _) (hi.map _) _ Kp
   rw[Option.map_map,Option.map_map] at this
   exact this
  ·exact h.elim
 ·rename_i c fL
  cases fL
  obtain⟨callee,args,argTypes⟩:=c
  split at h
  ·rename_i b hb
   cases hb
   split at h
   ·show(match args.toList,argTypes.toList with
     | [x],[t]=>eM (kf P t ((fun x=>(cr cf.n s x).bk) x)) (tY ((fun x=>(cr cf.n s x).bk) x) Kp)
     | _,_=>False)
    split at h
    ·rename_i x t h1 h2
     simp only at h1 h2
     simp only[h1,h2];exact aiY hK h
    ·exact h.elim
   ·exact h.elim
  ·rename_i f hf
   cases hf
   show mh (cr cf.n s f).bk fun g caps=>p5 P g (args.toList.map (fun x=>(cr cf.n s x).bk)++caps) _ _ Kp
   split at h
   ·rename_i g caps hc
    rw[hc]
    have:=abQ (n:=cf.n) aB hK h
    rw[pi,List.map_append,List.map_map] at this
    show p5 P g (_++cz caps) _ _ Kp
    rw[pi];exact this
   ·exact h.elim
  ·exact h.elim
 ·rename_i t m ps fL
  cases fL
  obtain⟨e,h⟩:=L5 h
  obtain⟨xs,h⟩:=L4 (n:=cf.n) aB h
  exact uY (F:=fun H Q=>j_ P _ _ _ H Q) _ hK h
 ·exact uY (F:=fun H Q=>j_ P _ _ _ H Q) _ hK h
end
theorem j6 {n:Int} (h1: -9223372036854775808≤n) (h2:n≤9223372036854775807):IntKind.i64.wrap n=n:=by
 rw[IntKind.wrap_i64];omega
def bN (x a b:Int):Bool:=decide (a≤x)&&decide (x≤b)
theorem lr {x a b:Int}:bN x a b=true↔a≤x∧x≤b:=by simp[bN]
theorem fU {α:Type} [Inhabited α] {xs:List α} {i:Int} (h:i.toNat<xs.length):nth xs i=xs[i.toNat]:=by
 have:=fM h
 rw[List.getElem?_eq_getElem h] at this
 exact(Option.some.inj this).symm
theorem dz {α:Type} [Inhabited α] {xs:List α} {i:Int} (h:i.toNat<xs.length):nth xs i∈xs:=by rw[fU h];exact List.getElem_mem h
theorem jv {α:Type} [Inhabited α] {xs:List α} {i:Nat} (h:i<xs.length):nth xs (i:Int)=xs[i]:=by rw[fU (by simpa using h)];simp
def first {α:Type} (xs:List α) (p:α→Bool):Option Nat:=xs.findIdx? p
theorem adg {α:Type} {xs:List α} {p:α→Bool} (h: ∀x∈xs,p x=false):first xs p=none:=by
 unfold first;rw[List.findIdx?_eq_none_iff];exact h
theorem adh {α:Type} [Inhabited α] {xs:List α} {p:α→Bool} {i:Int} (h: ∀x∈xs.take i.toNat,p x=false) (hi:i.toNat<xs.length) (ae:p (nth xs i)=true):first xs p=some i.toNat:=by
 unfold first
 rw[List.findIdx?_eq_some_iff_getElem]
 refine⟨hi,by rw[←fU hi];exact ae,fun j al=> ?_⟩
 have:=h xs[j] (by rw[List.mem_take_iff_getElem];exact⟨j,by omega,rfl⟩)
 simp[this]
def Df (o:Option Nat):Int:=match o with
 | some i=>i
 | none=> -1
def oH (xs:List Int) (v:Int):Int:=Df (first xs (fun x=>v==x))
def gA (xs:List Int) (v:Int):Bool:=xs.contains v
def q0 (xs:List Bool) (v:Bool):Bool:=xs.contains v
def aK {α:Type} (x:α):α:=x
def meets (a b:List Int):Bool:=a.any fun x=>b.contains x
def dup (l:List Int):Bool:= !decide l.Nodup
def bE (w:Way):List cU:=w.bm++w.cB
def ih (l:List Int) (n:Int):Bool:=decide (l.length≤30)&&l.all (fun x=>bN x 0 (n - 1))&&decide l.Nodup
def nj (p:aC) (l:List cU):Bool:=decide (l.length≤30)&&l.all (fun x=>bN x.be 0 (p.bb.length - 1)&&bN x.bj 1 2)&&decide (l.map (·.be)).Nodup
def h_ (p:aC) (w:Way):Bool:=
 decide (w.ak≠[])&&ih w.ak p.ak&&ih w.over p.ak&&ih w.ei p.ak&&nj p w.bm&&nj p w.cB&&
 decide ((bE w).map (·.be)).Nodup&&w.bm.all (fun x=>w.ak.contains (nth p.bb x.be))&& !meets w.ak w.over
def uO (p:aC) (i k:Nat):Bool:=nth (nth p.bF i) k
def qM (p:aC) (i k:Nat):Bool:=(uO p i k !=uO p k i) || (decide (i≠k)&& !uO p i k&&meets (nth p.O i).ak (nth p.O k).ak)
def qk (p:aC):qJ:=if p.bF.length=p.O.length then
  match first p.bF (fun b=>decide (b.length≠p.O.length)) with
  | some k=>⟨4,k⟩
  | none=>match first (List.range p.O.length) (fun i=>(List.range p.O.length).any fun k=>qM p i k) with
   | some k=>⟨5,k⟩
   | none=>⟨0,0⟩
 else⟨4,0⟩
def As (p:aC):qJ:=match first p.O (fun w=> !h_ p w) with
 | some k=>⟨3,k⟩
 | none=>qk p
def Ar (p:aC):qJ:=match first p.bb (fun s=> !bN s 0 (p.ak - 1)) with
 | some k=>⟨2,k⟩
 | none=>As p
def hZ (p:aC):qJ:=if bN p.ak 1 60&&bN p.ct 1 300&&decide (p.bb.length≤40)&&decide (p.O.length≤100) then Ar p else⟨1,0⟩
def dV (p:aC):Bool:=decide (hZ p=⟨0,0⟩)
def e8 (p:aC) (e:Event):Bool:=
 if e.op=1∨e.op=2 then bN e.aA 0 (p.O.length - 1)&&decide (e.bj=0)
 else if e.op=3∨e.op=4 then bN e.aA 0 (p.ak - 1)&&decide (e.bj=0)
 else if e.op=5 then bN e.aA 0 (p.bb.length - 1)&&bN e.bj 0 2
 else if e.op=6 then bN e.aA 0 (p.bb.length - 1)&&bN e.bj 1 2
 else if e.op=7 then decide (e.aA=0)&&decide (e.bj=0)
 else false
def e9 (n:Nat) (left:Int):Int:=if left<n then -1 else left - n
def yw (w:Way):Nat:=w.ak.length+w.bm.length+w.cB.length+w.over.length+w.ei.length
def Ef (ws:List Way):Nat:=ws.length+(ws.map yw).sum
def yR (bs:List (List Bool)):Nat:=bs.length+(bs.map List.length).sum
def Dj (p:aC):Nat:=p.bb.length+Ef p.O+yR p.bF
theorem VI {n:Nat} {left:Int} (az:0≤left):e9 n left<0↔left<n:=by unfold e9;split<;>omega
theorem VH {n m:Nat} {left:Int} (az:0≤left):e9 (n+m) left=if e9 n left<0 then -1 else e9 m (e9 n left):=by
 unfold e9
 split<;>split<;>(try split)<;>(try split)<;>omega
def eY {α:Type} (a:List α) (left:Int):Int:=e9 a.length left
def sW (w:Way) (left:Int):Int:=e9 (yw w) left
def Bg (w:List Way) (left:Int):Int:=e9 (Ef w) left
def wh (w:List (List Bool)) (left:Int):Int:=e9 (yR w) left
def qx (p:aC) (left:Int):Int:=e9 (Dj p) left
def hX {α:Type} (a:α) (left:Int):Prop:=0≤left∧left≤1048576
def small {α:Type} (a:List α):Prop:=a.length≤1048576
def DL (w:Way):Prop:=yw w≤1048576
def Ho (w:List Way):Prop:=Ef w≤1048576
def Hn (w:List (List Bool)):Prop:=yR w≤1048576
def x5 (p:aC):Prop:=Dj p≤1048576
def eqv {α:Type} [DecidableEq α] (a b:α):Bool:=decide (a=b)
def s3 {α:Type} (a:α):Bool:=true
def PG {α β:Type} (a:α) (b:β):Bool:=true
def Dk (l:List Int) (n:Int):Prop:= -9223372036854775808<n∧n≤9223372036854775807
def Mz (p:aC) (w:Way):Prop:= -9223372036854775808<p.ak∧p.ak≤9223372036854775807
def WQ (p:aC) (e:Event):Prop:= -9223372036854775808<p.ak∧p.ak≤9223372036854775807
def At (w:Way):Prop:=w.bm.length≤1048576∧w.cB.length≤1048576
def r4 {α β:Type} (a:List α) (f:α→β) (d:β) (i:Int):List β:=(a.take i.toNat).map f++List.replicate (a.length - i.toNat) d
theorem ac_ {α β:Type} (a:List α) (f:α→β) (d:β):r4 a f d 0=List.replicate a.length d:=by simp[r4]
theorem Jh {α β:Type} {a:List α} {f:α→β} {d:β} {i:Int} (h:i≤a.length):(r4 a f d i).length=a.length:=by
 simp[r4];omega
theorem ada {α β:Type} [Inhabited α] {a:List α} {f:α→β} {d:β} {i:Int} (az:0≤i) (h:i.toNat<a.length):(r4 a f d i).set i.toNat (f (nth a i))=r4 a f d (i+1):=by
 unfold r4
 rw[show(i+1).toNat=i.toNat+1 by omega,List.take_succ_eq_append_getElem h,List.set_append_right _ _ (by simp;omega)]
 have:List.replicate (a.length - i.toNat) d=d::List.replicate (a.length - (i.toNat+1)) d:=by
  rw[←List.replicate_succ];congr 1;omega
 rw[this,fU h]
 have aw:((a.take i.toNat).map f).length=i.toNat:=by simp;omega
 rw[aw]
 simp
 rw[←List.map_take,←List.map_take,List.take_succ_eq_append_getElem h,List.map_append]
 simp
theorem ac9 {α β:Type} {a:List α} {f:α→β} {d:β} {i:Int} (h:(a.length:Int)≤i):r4 a f d i=a.map f:=by
 unfold r4
 rw[List.take_of_length_le (by omega),show a.length - i.toNat=0 by omega]
 simp
def bW (N:Int) (p:Int→Bool) (v:Int):Prop:=0≤v∧v≤N∧ ∀j:Int,0≤j→j<v→p j=false
def cg (N:Int) (v:Int):Nat:=(N - v).toNat
theorem cT {N:Int} {p:Int→Bool} (h:0≤N):bW N p 0:=⟨Int.le_refl _,h,fun j az h1=>by omega⟩
theorem hL {N v:Int} (ag:N≤4611686018427387904) (az:0≤v) (hv:v<N):IntKind.i64.wrap (v+1)=v+1:=j6 (by omega) (by omega)
theorem cw {N v:Int} {p:Int→Bool} (ag:N≤4611686018427387904) (h:bW N p v) (hv:decide (v<N)=true) (ae:p v=false):bW N p (IntKind.i64.wrap (v+1))∧cg N (IntKind.i64.wrap (v+1))<cg N v:=by
 obtain⟨az,h1,h2⟩:=h
 have hv:v<N:=by simpa using hv
 rw[hL ag az hv]
 refine⟨⟨by omega,by omega,fun j cq fm=> ?_⟩,by unfold cg;omega⟩
 rcases Int.lt_or_eq_of_le (show j≤v by omega) with aw | rfl
 ·exact h2 j cq aw
 ·exact ae
theorem gT {N v:Int} {p:Int→Bool} (h:bW N p v) (hv:decide (v<N)=false): ∀j:Int,0≤j→j<N→p j=false:=by
 obtain⟨az,h1,h2⟩:=h
 have hv: ¬v<N:=by simpa using hv
 exact fun j cq fm=>h2 j cq (by omega)
theorem bX {α:Type} {xs:List α} {v:Int} {p:Int→Bool} (h:bW xs.length p v) (hv:decide (v<(xs.length:Int))=true):0≤v∧v.toNat<xs.length:=by
 have hv:v<(xs.length:Int):=by simpa using hv
 exact⟨h.1,by have:=h.1;omega⟩
theorem b5 {α:Type} {xs:List α} (h:xs.length≤4611686018427387904):(xs.length:Int)≤4611686018427387904:=by omega
theorem cN {α:Type} (xs:List α):0≤(xs.length:Int):=by omega
theorem ny {α:Type} [Inhabited α] {xs:List α} {q:α→Bool} (h: ∀j:Int,0≤j→j<xs.length→q (nth xs j)=false): ∀x∈xs,q x=false:=fun x hx=>by
 obtain⟨i,hi,rfl⟩:=List.mem_iff_getElem.1 hx
 have:=h i (by omega) (by omega)
 rwa [jv hi] at this
theorem sX {α:Type} [Inhabited α] {xs:List α} {q:α→Bool} {v:Int} (h:bW xs.length (fun j=>q (nth xs j)) v) (hv:decide (v<(xs.length:Int))=true) (ae:q (nth xs v)=true):first xs q=some v.toNat:=by
 have hi:=bX h hv
 refine adh (fun x hx=> ?_) hi.2 ae
 obtain⟨i,fC,rfl⟩:=List.mem_take_iff_getElem.1 hx
 have:q (nth xs (i:Int))=false:=h.2.2 i (by omega) (by omega)
 rwa [jv (by omega)] at this
theorem sY {α:Type} [Inhabited α] {xs:List α} {q:α→Bool} {v:Int} (h:bW xs.length (fun j=>q (nth xs j)) v) (hv:decide (v<(xs.length:Int))=false):first xs q=none:=
 adg (ny (gT h hv))
theorem HW {α:Type} [Inhabited α] {xs:List α} {q:α→Bool} {v:Int} (h:bW xs.length (fun j=>q (nth xs j)) v) (hv:decide (v<(xs.length:Int))=true) (ae:q (nth xs v)=true):xs.any q=true:=by
 rw[List.any_eq_true];exact⟨_,dz (bX h hv).2,ae⟩
theorem Ec {α:Type} [Inhabited α] {xs:List α} {q:α→Bool} {v:Int} (h:bW xs.length (fun j=>q (nth xs j)) v) (hv:decide (v<(xs.length:Int))=false):xs.any q=false:=by
 rw[List.any_eq_false]
 intro x hx
 rw[ny (gT h hv) x hx];simp
theorem not_eq {b:Bool} (h:(!b)=true):b=false:=by simpa using h
theorem M8 {α:Type} [Inhabited α] {a b:List α} (aw:a.length=b.length) (h: ∀j:Int,0≤j→j<a.length→nth a j=nth b j):a=b:=by
 apply List.ext_getElem aw
 intro i h1 h2
 have:=h i (by omega) (by omega)
 rwa [jv h1,jv h2] at this
theorem y8 {α:Type} [Inhabited α] [DecidableEq α] {a b:List α} {ne:Int→Bool} (bU: ∀v,ne v=true↔nth a v≠nth b v):
  ((a.length≤4611686018427387904)∧(b.length≤4611686018427387904)→((a.length:Int) !=(b.length:Int))=true→false=eqv a b)∧((a.length≤4611686018427387904)∧(b.length≤4611686018427387904)∧((!((a.length:Int) !=(b.length:Int)))=true)→
   bW a.length ne 0∧ ∀(v:Int),bW a.length ne v→(((decide (v<(a.length:Int)))=false→true=eqv a b)∧((decide (v<(a.length:Int)))=true→(((0≤v∧v.toNat<a.length)∧(0≤v∧v.toNat<b.length))∧((ne v)=true→false=eqv a b))∧
    ((!(ne v))=true→bW a.length ne (IntKind.i64.wrap (v+1))∧cg a.length (IntKind.i64.wrap (v+1))<cg a.length v)))):=by
 refine⟨fun _ h=> ?_,fun⟨h1,h2,au⟩=> ?_⟩
 ·have:a≠b:=fun e=>by subst e;simp at h
  simp[eqv,this]
 ·have aw:a.length=b.length:=by have:(a.length:Int)=b.length:=by simpa using au
                                omega
  refine⟨cT (cN a),fun v aJ=>⟨fun hv=> ?_,fun hv=>⟨⟨⟨bX aJ hv,by rw[←aw];exact bX aJ hv⟩,fun ag=> ?_⟩,fun ag=>cw (b5 h1) aJ hv (not_eq ag)⟩⟩⟩
  ·have:a=b:=M8 aw fun j cq fm=>by
    have U:=gT aJ hv j cq fm
    by_cases he:nth a j=nth b j
    ·exact he
    ·rw[(bU j).2 he] at U;cases U
   simp[eqv,this]
  ·have:a≠b:=fun e=>(bU v).1 ag (by rw[e])
   simp[eqv,this]
def p8 {α β:Type} (a:List α) (f:α→β) (d:β) (x:List β) (v:Int):Prop:=0≤v∧v≤a.length∧x=r4 a f d v
def qS {α β:Type} (a:List α) (x:List β) (v:Int):Nat:=(a.length - v).toNat
theorem Ji {α β:Type} [Inhabited α] {a:List α} {f:α→β} {d:β} {aa:List β} {φ:Int→Prop} (hs:a.length≤4611686018427387904) (ao:a.map f=aa) (eK: ∀v:Int,0≤v→v.toNat<a.length→φ v):
  p8 a f d (List.replicate (a.length:Int).toNat d) 0∧ ∀(x:List β) (v:Int),p8 a f d x v→(((decide (v<(a.length:Int)))=false→x.length≤4611686018427387904∧x=aa)∧((decide (v<(a.length:Int)))=true→((0≤v∧v.toNat<a.length)∧(φ v∧((0≤v∧v.toNat<x.length)∧v.toNat<x.length)))∧
   (p8 a f d (x.set v.toNat (f (nth a v))) (IntKind.i64.wrap (v+1))∧qS a (x.set v.toNat (f (nth a v))) (IntKind.i64.wrap (v+1))<qS a x v))):=by
 refine⟨⟨Int.le_refl _,cN a,by rw[ac_];simp⟩,fun x v ⟨az,h1,hx⟩=>⟨fun hv=> ?_,fun hv=> ?_⟩⟩
 ·have hv: ¬v<(a.length:Int):=by simpa using hv
  subst hx
  exact⟨by rw[Jh h1];exact hs,by rw[ac9 (by omega)];exact ao⟩
 ·have hv:v<(a.length:Int):=by simpa using hv
  have aQ:v.toNat<a.length:=by omega
  subst hx
  refine⟨⟨⟨az,aQ⟩,eK v az aQ,⟨az,by rw[Jh h1];exact aQ⟩,by rw[Jh h1];exact aQ⟩,?_⟩
  rw[hL (b5 hs) az hv]
  exact⟨⟨by omega,by omega,ada az aQ⟩,by unfold qS;omega⟩
theorem Ff {α β:Type} [Inhabited α] {a:List α} {f:α→β} {d:β} {aa:List β} (hs:a.length≤4611686018427387904) (ao:a.map f=aa):
  p8 a f d (List.replicate (a.length:Int).toNat d) 0∧ ∀(x:List β) (v:Int),p8 a f d x v→(((decide (v<(a.length:Int)))=false→x.length≤4611686018427387904∧x=aa)∧((decide (v<(a.length:Int)))=true→((0≤v∧v.toNat<a.length)∧((0≤v∧v.toNat<x.length)∧v.toNat<x.length))∧
   (p8 a f d (x.set v.toNat (f (nth a v))) (IntKind.i64.wrap (v+1))∧qS a (x.set v.toNat (f (nth a v))) (IntKind.i64.wrap (v+1))<qS a x v))):=by
 obtain⟨h1,h2⟩:=Ji (φ:=fun _=>True) (d:=d) hs ao fun _ _ _=>trivial
 exact⟨h1,fun x v aJ=>⟨(h2 x v aJ).1,fun hv=>⟨⟨((h2 x v aJ).2 hv).1.1,((h2 x v aJ).2 hv).1.2.2⟩,((h2 x v aJ).2 hv).2⟩⟩⟩
theorem VK {n:Nat} {left:Int} (az:0≤left) (h1:left≤1048576) (h: ¬e9 n left<0):0≤e9 n left∧e9 n left≤1048576:=by
 refine⟨by omega,?_⟩
 unfold e9 at h ⊢
 split<;>omega
theorem VJ {n m:Nat} {left:Int} (az:0≤left) (h:e9 n left<0):e9 (n+m) left= -1:=by
 rw[VH az,if_pos h]
theorem xD {n m:Nat} {left:Int} (az:0≤left) (h: ¬e9 n left<0):e9 m (e9 n left)=e9 (n+m) left:=by
 rw[VH az,if_neg h]
theorem aag {α:Type} {xs:List α} {left:Int} (ag:xs.length≤4611686018427387904) (h:0≤left∧left≤1048576):IntKind.i64.wrap (left - (xs.length:Int))=left - xs.length:=j6 (by omega) (by omega)
theorem HN {α:Type} {a:List α} {left:Int} (ae:0≤left∧left≤1048576) (ag:a.length≤4611686018427387904):
  ((decide ((IntKind.i64.wrap (left - (a.length:Int)))<0))=true→(-1)=eY a left)∧((!(decide ((IntKind.i64.wrap (left - (a.length:Int)))<0)))=true→(IntKind.i64.wrap (left - (a.length:Int)))=eY a left):=by
 rw[aag ag ae]
 unfold eY e9
 constructor<;>intro h<;>split<;>simp_all<;>omega
def D6 {α:Type} (a:List α) (f:α→Nat) (aiS:Int) (left v:Int):Prop:=0≤v∧v≤a.length∧0≤left∧left≤1048576∧left=e9 (a.length+((a.take v.toNat).map f).sum) aiS
def D7 {α:Type} (a:List α) (left v:Int):Nat:=(a.length - v).toNat
theorem ZQ {α:Type} [Inhabited α] {a:List α} {f:α→Nat} {g:α→Int→Int} {left:Int} (ax: ∀x l,g x l=e9 (f x) l) (ae:0≤left∧left≤1048576) (ag:a.length≤4611686018427387904):
  ((decide ((IntKind.i64.wrap (left - (a.length:Int)))<0))=true→(-1)=e9 (a.length+(a.map f).sum) left)∧((!(decide ((IntKind.i64.wrap (left - (a.length:Int)))<0)))=true→
   D6 a f left (IntKind.i64.wrap (left - (a.length:Int))) 0∧ ∀(w:Int) (v:Int),D6 a f left w v→(((decide (v<(a.length:Int)))=false→w=e9 (a.length+(a.map f).sum) left)∧((decide (v<(a.length:Int)))=true→
    (((0≤v∧v.toNat<a.length)∧(hX (nth a v) w))∧((decide ((g (nth a v) w)<0))=true→(-1)=e9 (a.length+(a.map f).sum) left))∧((!(decide ((g (nth a v) w)<0)))=true→D6 a f left (g (nth a v) w) (IntKind.i64.wrap (v+1))∧D7 a (g (nth a v) w) (IntKind.i64.wrap (v+1))<D7 a w v)))):=by
 rw[aag ag ae]
 refine⟨fun h=> ?_,fun h=>⟨⟨Int.le_refl _,cN a,?_⟩,fun w v ⟨v0,v1,aD,bp,hw⟩=>⟨fun hv=> ?_,fun hv=> ?_⟩⟩⟩
 ·have h:left - a.length<0:=by simpa using h
  unfold e9;rw[if_pos (by omega)]
 ·have h: ¬left - a.length<0:=by simpa using h
  refine⟨by omega,by omega,?_⟩
  simp only[Int.toNat_zero,List.take_zero,List.map_nil,List.sum_nil,Nat.add_zero]
  unfold e9;rw[if_neg (by omega)]
 ·have hv: ¬v<(a.length:Int):=by simpa using hv
  rw[hw,List.take_of_length_le (by omega)]
 ·have hv:v<(a.length:Int):=by simpa using hv
  have aQ:v.toNat<a.length:=by omega
  have hs:((a.take (v+1).toNat).map f).sum=((a.take v.toNat).map f).sum+f (nth a v):=by
   rw[show(v+1).toNat=v.toNat+1 by omega,List.take_succ_eq_append_getElem aQ,List.map_append,List.sum_append,fU aQ];simp
  have FR: ¬e9 (a.length+((a.take v.toNat).map f).sum) left<0:=by omega
  have fy:g (nth a v) w=e9 (a.length+((a.take (v+1).toNat).map f).sum) left:=by
   rw[ax,hw,xD ae.1 FR,hs,Nat.add_assoc]
  refine⟨⟨⟨⟨v0,aQ⟩,aD,bp⟩,fun h=> ?_⟩,fun h=> ?_⟩
  ·have h:g (nth a v) w<0:=by simpa using h
   rw[fy] at h
   have aV:(a.map f).sum=((a.take (v+1).toNat).map f).sum+((a.drop (v+1).toNat).map f).sum:=by
    rw[←List.sum_append,←List.map_append,List.take_append_drop]
   rw[aV,←Nat.add_assoc,VJ ae.1 h]
  ·have h: ¬g (nth a v) w<0:=by simpa using h
   rw[hL (b5 ag) v0 hv]
   have:=VK ae.1 ae.2 (fy▸h)
   refine⟨⟨by omega,by omega,by rw[fy];exact this.1,by rw[fy];exact this.2,fy⟩,by unfold D7;omega⟩
theorem wi {n m T:Nat} {left:Int} {R:Prop} (ae:0≤left∧left≤1048576) (b7:T=n+m) (h: ¬e9 n left<0→0≤e9 n left∧e9 n left≤1048576→R):
  ((decide (e9 n left<0))=true→(-1)=e9 T left)∧((!(decide (e9 n left<0)))=true→R):=by
 refine⟨fun aV=> ?_,fun aV=> ?_⟩
 ·have aV:e9 n left<0:=by simpa using aV
  rw[b7,VJ ae.1 aV]
 ·have aV: ¬e9 n left<0:=by simpa using aV
  exact h aV (VK ae.1 ae.2 aV)
theorem Gx {α:Type} (l:List α):l.map aK=aK l:=by
 show l.map (fun x=>x)=l
 simp
theorem Mb {α:Type} (f:α→Nat) {x:α}: ∀{l:List α},x∈l→f x≤(l.map f).sum
 | [],h=>by cases h
 | y::l,h=>by
  rw[List.map_cons,List.sum_cons]
  rcases List.mem_cons.1 h with rfl | h
  ·omega
  ·have:=Mb f h;omega
theorem wV {xs:List Int} {x:Int}:gA xs x=true↔x∈xs:=by unfold gA;simp
theorem aeH {xs:List Int} {x k:Int} (hk:k.toNat<xs.length) (h:(x==nth xs k)=true):gA xs x=true:=by
 rw[wV,show x=nth xs k by simpa using h];exact dz hk
theorem aeF {xs:List Int} {x:Int} (h: ∀j:Int,0≤j→j<xs.length→(x==nth xs j)=false):gA xs x=false:=by
 rw[←Bool.not_eq_true,wV]
 intro hm
 have:=ny (q:=fun y=>x==y) h x hm
 simp at this
theorem af8 (xs:List Int) (x:Int):(decide (oH xs x ≥ 0))=gA xs x:=by
 unfold oH
 cases h:first xs (fun y=>x==y) with
 | none=>
  unfold first at h
  rw[List.findIdx?_eq_none_iff] at h
  have:gA xs x=false:=by
   rw[←Bool.not_eq_true,wV]
   intro hm
   have:=h x hm
   simp at this
  rw[this];rfl
 | some i=>
  unfold first at h
  rw[List.findIdx?_eq_some_iff_getElem] at h
  obtain⟨hi,ae,_⟩:=h
  have:gA xs x=true:=by rw[wV,show x=xs[i] by simpa using ae];exact List.getElem_mem hi
  rw[this]
  show decide ((i:Int) ≥ 0)=true
  simp
theorem acH {xs:List Int} {v:Int} (az:0≤v) (hv:v.toNat<xs.length) (h:gA (xs.take v.toNat) (nth xs v)=true):dup xs=true:=by
 rw[wV] at h
 unfold dup
 simp only[Bool.not_eq_true',decide_eq_false_iff_not]
 intro ag
 obtain⟨i,hi,he⟩:=List.mem_take_iff_getElem.1 h
 rw[fU hv] at he
 exact(List.pairwise_iff_getElem.1 ag) i v.toNat (by omega) hv (by omega) he
theorem QP {xs:List Int} (h: ∀j:Int,0≤j→j<xs.length→gA (xs.take j.toNat) (nth xs j)=false):dup xs=false:=by
 unfold dup
 simp only[Bool.not_eq_false',decide_eq_true_eq]
 unfold List.Nodup
 rw[List.pairwise_iff_getElem]
 intro i j hi al aQ he
 have:=h j (by omega) (by omega)
 rw[←Bool.not_eq_true,wV,jv al] at this
 exact this (by rw[List.mem_take_iff_getElem];exact⟨i,by omega,he⟩)
theorem MY (x n:Int):(decide (x<0) || decide (x ≥ n))= !bN x 0 (n - 1):=by
 rw[Bool.eq_iff_iff]
 simp[bN]
 omega
theorem V8 {α:Type} {l:List α} (k:Nat):decide ((l.length:Int)≤(k:Int))=decide (l.length≤k):=decide_eq_decide.2 (by omega)
theorem ajz {α:Type} [Inhabited α] {β:Type} [DecidableEq β] {l:List α} {f:α→β} (h: ∀i j:Int,0≤i→i<j→j<l.length→f (nth l i)≠f (nth l j)):(l.map f).Nodup:=by
 unfold List.Nodup
 rw[List.pairwise_iff_getElem]
 intro i j hi al aQ
 simp only[List.length_map] at hi al
 rw[List.getElem_map,List.getElem_map]
 have:=h i j (by omega) (by omega) (by omega)
 rwa [jv hi,jv al] at this
theorem Wd {α:Type} [Inhabited α] {β:Type} [DecidableEq β] {l:List α} {f:α→β} {i j:Int} (az:0≤i) (h1:i<j) (h2:j<l.length) (he:f (nth l i)=f (nth l j)): ¬(l.map f).Nodup:=by
 intro ag
 have:=(List.pairwise_iff_getElem.1 ag) i.toNat j.toNat (by simp;omega) (by simp;omega) (by omega)
 rw[List.getElem_map,List.getElem_map,←fU (by omega),←fU (by omega)] at this
 exact this he
theorem map_id' {α:Type} (l:List α):l.map (fun x=>x)=l:=by simp
theorem xG {l:List Int} {n:Int}:ih l n=true↔l.length≤30∧(∀x∈l,bN x 0 (n - 1)=true)∧l.Nodup:=by
 unfold ih;simp[and_assoc]
theorem ai8 {l:List Int} {n:Int} (h: ∀j:Int,0≤j→j<l.length→(!bN (nth l j) 0 (n - 1) || gA (l.take j.toNat) (nth l j))=false):ih l n=decide (l.length≤30):=by
 have h1: ∀x∈l,bN x 0 (n - 1)=true:=fun x hx=>by
  have:=ny (q:=fun x=> !bN x 0 (n - 1)) (fun j cq fm=>(Bool.or_eq_false_iff.1 (h j cq fm)).1) x hx
  simpa using this
 have h2:dup l=false:=QP fun j cq fm=>(Bool.or_eq_false_iff.1 (h j cq fm)).2
 have h2:l.Nodup:=by unfold dup at h2;simpa using h2
 rw[Bool.eq_iff_iff,xG]
 simp only[decide_eq_true_eq]
 exact⟨fun h=>h.1,fun h=>⟨h,h1,h2⟩⟩
theorem VO {l:List Int} {n:Int} {v:Int} (hv:v.toNat<l.length) (h:(!bN (nth l v) 0 (n - 1))=true):ih l n=false:=by
 rw[←Bool.not_eq_true,xG]
 intro bz
 have:=bz.2.1 _ (dz hv)
 simp[this] at h
theorem ai7 {l:List Int} {n:Int} {i j:Int} (az:0≤i) (h1:i<j) (h2:j<l.length) (he:(nth l i==nth l j)=true):ih l n=false:=by
 rw[←Bool.not_eq_true,xG]
 intro bz
 have:=Wd (f:=fun x=>x) az h1 h2 (by simpa using he)
 rw[map_id'] at this
 exact this bz.2.2
theorem aeG {l:List Int} {v:Int} (az:0≤v) (hv:v<l.length) (h: ∀j:Int,0≤j→j<v→(nth l j==nth l v)=false):gA (l.take v.toNat) (nth l v)=false:=by
 rw[←Bool.not_eq_true,wV]
 intro hm
 obtain⟨i,hi,he⟩:=List.mem_take_iff_getElem.1 hm
 have:=h i (by omega) (by omega)
 rw[jv (by omega),he] at this
 simp at this
theorem oO {p:aC} {l:List cU}:nj p l=true↔l.length≤30∧(∀x∈l,(bN x.be 0 (p.bb.length - 1)&&bN x.bj 1 2)=true)∧(l.map (·.be)).Nodup:=by
 unfold nj;simp[and_assoc]
def qh (p:aC) (x:cU):Bool:=(!bN x.be 0 (p.bb.length - 1)) || (!bN x.bj 1 2)
theorem C3 (p:aC) (x:cU):qh p x= !(bN x.be 0 (p.bb.length - 1)&&bN x.bj 1 2):=by unfold qh;rw[Bool.not_and]
def C4 (l:List cU) (j:Int):Bool:=(l.take j.toNat).any fun y=>y.be==(nth l j).be
theorem ai5 {p:aC} {l:List cU} (h: ∀j:Int,0≤j→j<l.length→(qh p (nth l j) || C4 l j)=false):nj p l=decide (l.length≤30):=by
 have h1: ∀x∈l,(bN x.be 0 (p.bb.length - 1)&&bN x.bj 1 2)=true:=fun x hx=>by
  have:=ny (q:=qh p) (fun j cq fm=>(Bool.or_eq_false_iff.1 (h j cq fm)).1) x hx
  rw[C3] at this
  simpa using this
 have h2:(l.map (·.be)).Nodup   :=ajz fun i j az h1 al=>by
  have:=(Bool.or_eq_false_iff.1 (h j (by omega) al)).2
  unfold C4 at this
  rw[List.any_eq_false] at this
  have:=this (nth l i) (by rw[fU (by omega)];exact List.mem_take_iff_getElem.2 ⟨i.toNat,by omega,rfl⟩)
  simpa using this
 rw[Bool.eq_iff_iff,oO]
 simp only[decide_eq_true_eq]
 exact⟨fun h=>h.1,fun h=>⟨h,h1,h2⟩⟩
theorem ai6 {p:aC} {l:List cU} {v:Int} (hv:v.toNat<l.length) (h:qh p (nth l v)=true):nj p l=false:=by
 rw[←Bool.not_eq_true,oO]
 intro bz
 rw[C3,bz.2.1 _ (dz hv)] at h
 cases h
theorem ai4 {p:aC} {l:List cU} {i j:Int} (az:0≤i) (h1:i<j) (h2:j<l.length) (he:((nth l i).be==(nth l j).be)=true):nj p l=false:=by
 rw[←Bool.not_eq_true,oO]
 exact fun bz=>Wd (f:=fun x:cU=>x.be) az h1 h2 (by simpa using he) bz.2.2
theorem ai2 {l:List cU} {v:Int} (az:0≤v) (hv:v<l.length) (h: ∀j:Int,0≤j→j<v→((nth l j).be==(nth l v).be)=false):C4 l v=false:=by
 unfold C4
 rw[List.any_eq_false]
 intro y bi
 obtain⟨i,hi,rfl⟩:=List.mem_take_iff_getElem.1 bi
 have:=h i (by omega) (by omega)
 rw[jv (by omega)] at this
 rw[this];simp
theorem ajo (a b:List Int):meets a b=meets b a:=by
 unfold meets
 rw[Bool.eq_iff_iff]
 simp only[List.any_eq_true,List.contains_iff_mem]
 exact⟨fun⟨x,h1,h2⟩=>⟨x,h2,h1⟩,fun⟨x,h1,h2⟩=>⟨x,h2,h1⟩⟩
theorem Gy (x:Int) (b:List Int):meets [x] b=b.contains x:=by unfold meets;simp
theorem qH {p:aC} {w:Way}:h_ p w=true↔w.ak≠[]∧ih w.ak p.ak=true∧ih w.over p.ak=true∧ih w.ei p.ak=true∧nj p w.bm=true∧nj p w.cB=true∧
  ((bE w).map (·.be)).Nodup∧(∀x∈w.bm,w.ak.contains (nth p.bb x.be)=true)∧meets w.ak w.over=false:=by
 unfold h_;simp[and_assoc]
theorem Mf {w:Way}:((bE w).map (·.be)).Nodup↔(w.bm.map (·.be)).Nodup∧(w.cB.map (·.be)).Nodup∧ ∀x∈w.bm,∀y∈w.cB,x.be≠y.be:=by
 unfold bE
 rw[List.map_append,List.nodup_append]
 simp only[List.mem_map]
 constructor
 ·rintro⟨h1,h2,au⟩;exact⟨h1,h2,fun x hx y bi=>au _ ⟨x,hx,rfl⟩ _ ⟨y,bi,rfl⟩⟩
 ·rintro⟨h1,h2,au⟩
  refine⟨h1,h2,?_⟩
  rintro a ⟨x,hx,rfl⟩ b ⟨y,bi,rfl⟩
  exact au x hx y bi
def k8 (p:aC):Bool:=bN p.ak 1 60&&bN p.ct 1 300&&decide (p.bb.length≤40)&&decide (p.O.length≤100)
theorem Mv {p:aC} (h:k8 p=false):hZ p=⟨1,0⟩:=by
 unfold hZ;unfold k8 at h;rw[if_neg (by rw[h];simp)]
theorem Mw {p:aC} (h:k8 p=true):hZ p=Ar p:=by
 unfold hZ;unfold k8 at h;rw[if_pos h]
theorem WL {p:aC} {k:Nat} (hb:k8 p=true) (h:first p.bb (fun s=> !bN s 0 (p.ak - 1))=some k):hZ p=⟨2,k⟩:=by rw[Mw hb];unfold Ar;rw[h]
theorem WO {p:aC} (hb:k8 p=true) (h:first p.bb (fun s=> !bN s 0 (p.ak - 1))=none):hZ p=As p:=by rw[Mw hb];unfold Ar;rw[h]
theorem WM {p:aC} {k:Nat} (hb:k8 p=true) (h:first p.bb (fun s=> !bN s 0 (p.ak - 1))=none) (hw:first p.O (fun w=> !h_ p w)=some k):hZ p=⟨3,k⟩:=by rw[WO hb h];unfold As;rw[hw]
theorem WN {p:aC} (hb:k8 p=true) (h:first p.bb (fun s=> !bN s 0 (p.ak - 1))=none) (hw:first p.O (fun w=> !h_ p w)=none):hZ p=qk p:=by rw[WO hb h];unfold As;rw[hw]
theorem WK {p:aC} (h:p.bF.length≠p.O.length):qk p=⟨4,0⟩:=by unfold qk;rw[if_neg h]
theorem WI {p:aC} {k:Nat} (h:p.bF.length=p.O.length) (hb:first p.bF (fun b=>decide (b.length≠p.O.length))=some k):qk p=⟨4,k⟩:=by unfold qk;rw[if_pos h,hb]
theorem WJ {p:aC} {k:Nat} (h:p.bF.length=p.O.length) (hb:first p.bF (fun b=>decide (b.length≠p.O.length))=none) (U:first (List.range p.O.length) (fun i=>(List.range p.O.length).any fun k=>qM p i k)=some k):qk p=⟨5,k⟩:=by
 unfold qk;rw[if_pos h,hb];simp only;rw[U]
theorem WH {p:aC} (h:p.bF.length=p.O.length) (hb:first p.bF (fun b=>decide (b.length≠p.O.length))=none) (U:first (List.range p.O.length) (fun i=>(List.range p.O.length).any fun k=>qM p i k)=none):qk p=⟨0,0⟩:=by
 unfold qk;rw[if_pos h,hb];simp only;rw[U]
theorem vD {p:aC}:k8 p=true↔(1≤p.ak∧p.ak≤60)∧(1≤p.ct∧p.ct≤300)∧p.bb.length≤40∧p.O.length≤100:=by
 unfold k8 bN;simp[and_assoc]
theorem Jo {n:Nat} {q:Nat→Bool} {v:Int} (az:0≤v) (hv:v<n) (h: ∀j:Int,0≤j→j<v→q j.toNat=false) (U:q v.toNat=true):first (List.range n) q=some v.toNat:=by
 unfold first
 rw[List.findIdx?_eq_some_iff_getElem]
 refine⟨by simp;omega,by simpa using U,fun j al=> ?_⟩
 have:=h j (by omega) (by omega)
 simpa using this
theorem Jn {n:Nat} {q:Nat→Bool} (h: ∀j:Int,0≤j→j<n→q j.toNat=false):first (List.range n) q=none:=by
 unfold first
 rw[List.findIdx?_eq_none_iff]
 intro x hx
 have:=h x (by omega) (by have:=List.mem_range.1 hx;omega)
 simpa using this
theorem P3 {n:Nat} {q:Nat→Bool} {v:Int} (az:0≤v) (hv:v<n) (h:q v.toNat=true):(List.range n).any q=true:=by
 rw[List.any_eq_true];exact⟨v.toNat,List.mem_range.2 (by omega),h⟩
theorem V7 {n:Nat} {q:Nat→Bool} (h: ∀j:Int,0≤j→j<n→q j.toNat=false):(List.range n).any q=false:=by
 rw[List.any_eq_false]
 intro x hx
 have:=h x (by omega) (by have:=List.mem_range.1 hx;omega)
 simp only[Int.toNat_natCast] at this
 rw[this];simp
theorem kH {α:Type} [Inhabited α] {xs:List α} {i:Int} (h:0≤i):nth xs (i.toNat:Int)=nth xs i:=by rw[Int.toNat_of_nonneg h]
theorem ai1 (p:aC) (x:cU):((decide (x.be<0)) || ((decide (x.be ≥ (p.bb.length:Int))) || ((x.bj !=1)&&(x.bj !=2))))=qh p x:=by
 unfold qh
 rw[←MY,Bool.or_assoc]
 congr 2
 rw[Bool.eq_iff_iff]
 simp[bN]
 omega
def rl (p:aC) (w:Way) (j:Int):Bool:=qh p (nth (bE w) j) || (decide (j<(w.bm.length:Int))&& !(gA w.ak (nth p.bb (nth (bE w) j).be)))
theorem V9 {w:Way} {j:Int} (az:0≤j) (h:j<w.bm.length):nth (bE w) j=nth w.bm j:=by
 rw[fU (xs:=w.bm) (by omega),fU (by unfold bE;rw[List.length_append];omega)]
 unfold bE
 rw[List.getElem_append_left]
theorem ad9 {p:aC} {w:Way} (h:h_ p w=true): ∀l∈[w.ak,w.over,w.ei],ih l p.ak=true:=by
 obtain⟨-,h1,h2,au,-⟩:=qH.1 h
 intro l aw
 simp only[List.mem_cons,List.not_mem_nil,or_false] at aw
 rcases aw with rfl | rfl | rfl
 ·exact h1
 ·exact h2
 ·exact au
theorem ad_ {p:aC} {w:Way} (h:h_ p w=true) {j:Int} (az:0≤j) (al:j.toNat<(bE w).length):rl p w j=false:=by
 obtain⟨-,-,-,-,a8,bQ,-,cv,-⟩:=qH.1 h
 have hm:=dz al
 have hb:qh p (nth (bE w) j)=false:=by
  rw[C3]
  unfold bE at hm ⊢
  rcases List.mem_append.1 hm with hm | hm
  ·rw[(oO.1 a8).2.1 _ hm];rfl
  ·rw[(oO.1 bQ).2.1 _ hm];rfl
 unfold rl
 rw[hb,Bool.false_or]
 by_cases aw:j<(w.bm.length:Int)
 ·rw[V9 az aw]
  have:gA w.ak (nth p.bb (nth w.bm j).be)=true:=cv _ (dz (by omega))
  rw[this];simp
 ·simp[aw]
theorem ad8 {p:aC} {w:Way} (h1:w.ak≠[]) (aw: ∀l∈[w.ak,w.over,w.ei],ih l p.ak=true) (au:w.bm.length≤30) (a8:w.cB.length≤30)
  (ag: ∀j:Int,0≤j→j<(bE w).length→rl p w j=false):((!(dup ((bE w).map (·.be))))&&(!(meets w.ak w.over)))=h_ p w:=by
 have hb: ∀x∈bE w,(bN x.be 0 (p.bb.length - 1)&&bN x.bj 1 2)=true:=fun x hx=>by
  have:=ny (q:=qh p) (fun j cq fm=>by have:=ag j cq fm;unfold rl at this;exact(Bool.or_eq_false_iff.1 this).1) x hx
  rw[C3] at this
  simpa using this
 have hc: ∀x∈w.bm,w.ak.contains (nth p.bb x.be)=true:=fun x hx=>by
  have:=ny (q:=fun x=> !(gA w.ak (nth p.bb x.be))) (fun j cq fm=>by
   have:=ag j cq (by unfold bE;rw[List.length_append];omega)
   unfold rl at this
   have:=(Bool.or_eq_false_iff.1 this).2
   rw[V9 cq fm] at this
   simpa[fm] using this) x hx
  simp only[Bool.not_eq_false'] at this
  exact this
 rw[Bool.eq_iff_iff,qH]
 simp only[Bool.and_eq_true,Bool.not_eq_true',dup,Bool.not_eq_false',decide_eq_true_eq]
 constructor
 ·rintro⟨aV,hm⟩
  have oB:=Mf.1 aV
  exact⟨h1,aw _ (by simp),aw _ (by simp),aw _ (by simp),oO.2 ⟨au,fun x hx=>hb x (by unfold bE;exact List.mem_append_left _ hx),oB.1⟩,oO.2 ⟨a8,fun x hx=>hb x (by unfold bE;exact List.mem_append_right _ hx),oB.2.1⟩,aV,hc,hm⟩
 ·rintro⟨-,-,-,-,-,-,aV,-,hm⟩
  exact⟨aV,hm⟩
theorem Qa {p:aC} {i k:Int} (az:0≤i) (h1:0≤k):(((nth (nth p.bF i) k) !=(nth (nth p.bF k) i)) || ((i !=k)&&((!(nth (nth p.bF i) k))&&(meets (nth p.O i).ak (nth p.O k).ak))))=qM p i.toNat k.toNat:=by
 unfold qM uO
 rw[Int.toNat_of_nonneg az,Int.toNat_of_nonneg h1]
 have:(i !=k)=decide (i.toNat≠k.toNat):=by
  rw[Bool.eq_iff_iff];simp;omega
 rw[this,Bool.and_assoc]
def sv (n:Int) (e:Event):Bool:=decide (e.aA ≥ 0)&&decide (e.aA<n)
theorem Dg (x a b:Int):(bif (x==a) then(x==a) else(x==b))=decide (x=a∨x=b):=by
 by_cases h:x=a
 ·simp[h]
 ·have h1:(x==a)=false:=by simp[h]
  rw[h1,Bool.eq_iff_iff]
  simp[h]
theorem I6 {p:aC} {e:Event} (h:e.op=1∨e.op=2):e8 p e=(bN e.aA 0 (p.O.length - 1)&&decide (e.bj=0)):=by unfold e8;rw[if_pos h]
theorem I7 {p:aC} {e:Event} (h1: ¬(e.op=1∨e.op=2)) (h:e.op=3∨e.op=4):e8 p e=(bN e.aA 0 (p.ak - 1)&&decide (e.bj=0)):=by unfold e8;rw[if_neg h1,if_pos h]
theorem E7 {p:aC} {e:Event} (h:e.op=5):e8 p e=(bN e.aA 0 (p.bb.length - 1)&&bN e.bj 0 2):=by unfold e8;simp[h]
theorem E8 {p:aC} {e:Event} (h:e.op=6):e8 p e=(bN e.aA 0 (p.bb.length - 1)&&bN e.bj 1 2):=by unfold e8;simp[h]
theorem Q0 {p:aC} {e:Event} (h:e.op=7):e8 p e=(decide (e.aA=0)&&decide (e.bj=0)):=by unfold e8;simp[h]
theorem Q2 {p:aC} {e:Event} (h1: ¬(e.op=1∨e.op=2)) (au: ¬(e.op=3∨e.op=4)) (bQ:e.op≠5) (cv:e.op≠6) (gO:e.op≠7):e8 p e=false:=by unfold e8;rw[if_neg h1,if_neg au,if_neg bQ,if_neg cv,if_neg gO]
theorem rT (x y:Int):(x==y)=decide (x=y):=by rw[Bool.eq_iff_iff];simp
theorem Pj (n:Int) (e:Event):sv n e=bN e.aA 0 (n - 1):=by
 unfold sv bN
 rw[Bool.eq_iff_iff];simp;omega
theorem aj0 (p:aC):((hZ p).code==0)=dV p:=by
 have key:(hZ p).code=0→(hZ p).pos=0:=by
  unfold hZ Ar As qk
  split
  ·split
   ·intro h;cases h
   ·split
    ·intro h;cases h
    ·split
     ·split
      ·intro h;cases h
      ·split
       ·intro h;cases h
       ·intro _;rfl
     ·intro h;cases h
  ·intro h;cases h
 unfold dV
 rw[Bool.eq_iff_iff]
 simp only[beq_iff_eq,decide_eq_true_eq]
 constructor
 ·intro h
  have:=key h
  cases U:hZ p with
  | mk c q=>rw[U] at h this;simp at h this;rw[h,this]
 ·intro h;rw[h]
theorem ajZ (p:aC):((hZ p).code==0&&(hZ p).pos==0)=dV p:=by
 unfold dV
 rw[Bool.eq_iff_iff]
 simp only[Bool.and_eq_true,beq_iff_eq,decide_eq_true_eq]
 constructor
 ·rintro⟨h1,h2⟩
  cases U:hZ p with
  | mk c q=>rw[U] at h1 h2;simp at h1 h2;rw[h1,h2]
 ·intro h;rw[h];exact⟨rfl,rfl⟩
theorem ajY {p:aC} (h:dV p=true):k8 p=true:=by
 cases hb:k8 p with
 | true=>rfl
 | false=>unfold dV at h;rw[Mv hb] at h;simp at h
theorem alA {p:aC} (h:(!decide (qx p 1048576<0))=true):x5 p:=by
 have h: ¬e9 (Dj p) 1048576<0:=by
  unfold qx at h
  simp only[Bool.not_eq_true',decide_eq_false_iff_not] at h
  exact h
 rw[VI (by omega)] at h
 unfold x5
 omega
def ho (f:Frame):Prop:=f.aN.length≤1048576∧f.aH.length≤1048576∧f.O.length≤1048576∧ ∀h∈f.O,h.ah.length≤1048576
structure uI (p:aC):Prop where
 cx:0≤p.ak∧p.ak≤60
 O:p.O.length≤100
 be:p.bb.length≤40
 ak: ∀w∈p.O,w.ak≠[]∧w.ak.length≤30∧ ∀x∈w.ak,0≤x∧x<p.ak
 over: ∀w∈p.O,w.over.length≤30∧ ∀x∈w.over,0≤x∧x<p.ak
 ei: ∀w∈p.O,w.ei.length≤30∧ ∀x∈w.ei,0≤x∧x<p.ak
 bm: ∀w∈p.O,w.bm.length≤30∧w.cB.length≤30∧ ∀x∈bE w,0≤x.be∧x.be<p.bb.length
 bb: ∀x∈p.bb,0≤x∧x<p.ak
structure iM (p:aC) (f:Frame):Prop where
 aN:(f.aN.length:Int)=p.ak
 aH:f.aH.length=p.bb.length
 O:f.O.length=p.O.length
 ah: ∀(i:Nat) (h:aq) (w:Way),f.O[i]?=some h→p.O[i]?=some w→h.ah.length=w.ak.length
 a7: ∀h∈f.O,0≤h.a7∧h.a7≤h.ah.length
def eb (f:Frame) (x:Int):Bool:=nth f.aN x
def hd (f:Frame) (l:List Int):Bool:=l.any (eb f)
def x6 (f:Frame) (l:List Int):Prop:= ∀x∈l,0≤x∧x<f.aN.length
def gD (p:aC) (f:Frame) (i:Int):Bool:=
 (bE (nth p.O i)).all (fun l=>decide (nth f.aH l.be=⟨l.bj,l.bj⟩))&& !hd f (nth p.O i).ak&& !hd f (nth p.O i).over
def Au (p:aC) (f:Frame) (i:Int):Prop:=uI p∧iM p f∧0≤i∧i<p.O.length
def gZ (n:Nat):aq:=⟨0,0,List.replicate n false,false,0⟩
def cM (p:aC) (i:Int):aq:=gZ (nth p.O i).ak.length
def zH (p:aC) (i:Int):Prop:=uI p∧0≤i∧i<p.O.length
def gz (s:List Int) (f:Frame) (ah:List Bool):Nat→Nat→Nat
 | 0,g=>g
 | n+1,g=>if g<s.length∧ah.getD g false=true∧eb f (s.getD g 0)=false∧(g+1=s.length∨ah.getD (g+1) false=true) then gz s f ah n (g+1) else g
def hY (s:List Int) (f:Frame) (h:aq):aq:=
 let ah:=List.zipWith (fun b x=>b || eb f x) h.ah s
 let g:=gz s f ah s.length h.a7.toNat
 if g=s.length then gZ s.length else{h with ah:=ah,a7:=g}
def mN (p:aC) (f:Frame) (i:Nat):aq:=
 let h:=nth f.O i
 let s:=(nth p.O i).ak
 if h.ar=0 then h else
 let h:=if h.ar≠4∧eb f (nth s 0)=true then{h with ar:=4,bG:=0} else h
 let h:=if h.ar=1∨h.ar=2 then(if gD p f i=true then{h with ar:=2,bI:=true} else{h with ar:=1}) else h
 if h.ar=4 then hY s f h else h
def io (p:aC):Nat→Frame→Frame
 | 0,f=>f
 | n+1,f=>let g:=io p n f;{g with O:=g.O.set n (mN p g n)}
def ef (p:aC) (f:Frame):Frame:=io p f.O.length f
def DH (p:aC) (f:Frame):Prop:=uI p∧iM p f
structure c6 (V:List aq) (ids:List Nat) (v:Int) (h:aq) (ws:List aq) (bs:List (List Bool)):Prop where
 ok:kQ ws ids bs
 kF: ∀i j k:Nat,ids[i]?=some k→ids[j]?=some k→i=j
 lt:v.toNat<ws.length
 ht:view ws ids bs=V.set v.toNat h
 len: ∀b∈bs,b.length≤1048576
section
variable {V:List aq} {ids:List Nat} {v:Int} {h:aq} {ws:List aq} {bs:List (List Bool)}
theorem c6.fo (F:c6 V ids v h ws bs):ws.length=ids.length∧v.toNat<ws.length:=⟨F.ok.len,F.lt⟩
theorem c6.wk (F:c6 V ids v h ws bs):V.length=ws.length:=by
 have:=congrArg List.length F.ht
 rw[i_ F.ok,List.length_set] at this;exact this.symm
theorem c6.id (F:c6 V ids v h ws bs):ids[v.toNat]?=some (nth ids v):=fM (by rw[←F.ok.len];exact F.lt)
theorem c6.sn (F:c6 V ids v h ws bs):nth ids v<bs.length:=F.ok.lt _ _ F.id
theorem c6.row (F:c6 V ids v h ws bs):h={nth ws v with ah:=bs.getD (nth ids v) []}:=by
 have h1:=yq (bs:=bs) (fM F.lt) F.id
 rw[F.ht,List.getElem?_set_self (by rw[F.wk];exact F.lt)] at h1
 exact Option.some.inj h1
theorem c6.ar (F:c6 V ids v h ws bs):(nth ws v).ar=h.ar:=by rw[F.row]
theorem c6.a7 (F:c6 V ids v h ws bs):(nth ws v).a7=h.a7:=by rw[F.row]
theorem c6.bI (F:c6 V ids v h ws bs):(nth ws v).bI=h.bI:=by rw[F.row]
theorem c6.bG (F:c6 V ids v h ws bs):(nth ws v).bG=h.bG:=by rw[F.row]
theorem c6.ah (F:c6 V ids v h ws bs):bs.getD (nth ids v) []=h.ah:=by rw[F.row]
theorem c6.rU (F:c6 V ids v h ws bs):(nth ws v).ah.length=h.ah.length:=by
 rw[←F.ah];exact F.ok.ah _ _ _ (fM F.lt) F.id
theorem c6.start (ok:kQ ws ids bs) (kF: ∀i j k:Nat,ids[i]?=some k→ids[j]?=some k→i=j) (lt:v.toNat<ws.length) (ht:view ws ids bs=V) (len: ∀b∈bs,b.length≤1048576):c6 V ids v (nth V v) ws bs:=by
 have aw:v.toNat<V.length:=by rw[←ht,i_ ok];exact lt
 exact⟨ok,kF,lt,by rw[ht,fU aw];exact(List.set_getElem_self _).symm,len⟩
theorem c6.sL (F:c6 V ids v h ws bs) (x:aq) (hx:x.ah.length=h.ah.length):c6 V ids v {x with ah:=h.ah} (ws.set v.toNat x) bs where
 ok:=⟨by rw[List.length_set];exact F.ok.len,F.ok.lt,fun i id y h1 h2=>by
  rw[List.getElem?_set] at h1
  split at h1
  ·rename_i e;subst e
   rw[if_pos F.lt] at h1;cases h1
   rw[F.id] at h2;cases h2
   rw[hx,F.ah]
  ·exact F.ok.ah i id y h1 h2⟩
 kF:=F.kF
 lt:=by rw[List.length_set];exact F.lt
 ht:=by
  apply List.ext_getElem?
  intro j
  have al:=congrArg (·[j]?) F.ht
  simp only[view,List.getElem?_zipWith,List.getElem?_set] at al ⊢
  by_cases e:v.toNat=j
  ·subst e
   have hv:=F.wk
   have:=F.lt
   rw[if_pos rfl,if_pos rfl,if_pos this,if_pos (by omega),F.id]
   show some _=some _
   rw[F.ah]
  ·rw[if_neg e] at al ⊢
   rw[if_neg e];exact al
 len:=F.len
theorem c6.setState (F:c6 V ids v h ws bs) (x:Int):c6 V ids v {h with ar:=x} (ws.set v.toNat ({ar:=x,a7:=(nth ws v).a7,ah:=(nth ws v).ah,bI:=(nth ws v).bI,bG:=(nth ws v).bG}:aq)) bs:=by
 have:=F.sL ({ar:=x,a7:=(nth ws v).a7,ah:=(nth ws v).ah,bI:=(nth ws v).bI,bG:=(nth ws v).bG}:aq) F.rU
 simpa only[F.a7,F.bI,F.bG] using this
theorem c6.XM (F:c6 V ids v h ws bs) (x:Int):c6 V ids v {h with a7:=x} (ws.set v.toNat ({ar:=(nth ws v).ar,a7:=x,ah:=(nth ws v).ah,bI:=(nth ws v).bI,bG:=(nth ws v).bG}:aq)) bs:=by
 have:=F.sL ({ar:=(nth ws v).ar,a7:=x,ah:=(nth ws v).ah,bI:=(nth ws v).bI,bG:=(nth ws v).bG}:aq) F.rU
 simpa only[F.ar,F.bI,F.bG] using this
theorem c6.XQ (F:c6 V ids v h ws bs) (x:Bool):c6 V ids v {h with bI:=x} (ws.set v.toNat ({ar:=(nth ws v).ar,a7:=(nth ws v).a7,ah:=(nth ws v).ah,bI:=x,bG:=(nth ws v).bG}:aq)) bs:=by
 have:=F.sL ({ar:=(nth ws v).ar,a7:=(nth ws v).a7,ah:=(nth ws v).ah,bI:=x,bG:=(nth ws v).bG}:aq) F.rU
 simpa only[F.ar,F.a7,F.bG] using this
theorem c6.AJ (F:c6 V ids v h ws bs) (x:Int):c6 V ids v {h with bG:=x} (ws.set v.toNat ({ar:=(nth ws v).ar,a7:=(nth ws v).a7,ah:=(nth ws v).ah,bI:=(nth ws v).bI,bG:=x}:aq)) bs:=by
 have:=F.sL ({ar:=(nth ws v).ar,a7:=(nth ws v).a7,ah:=(nth ws v).ah,bI:=(nth ws v).bI,bG:=x}:aq) F.rU
 simpa only[F.ar,F.a7,F.bI] using this
theorem c6.M_ (F:c6 V ids v h ws bs) (b:List Bool) (hb:b.length=h.ah.length):c6 V ids v {h with ah:=b} ws (bs.set (nth ids v) b) where
 ok:=⟨F.ok.len,fun i id hi=>by rw[List.length_set];exact F.ok.lt i id hi,fun i id y h1 h2=>by
  rw[F.ok.ah i id y h1 h2,List.getD_eq_getElem?_getD,List.getD_eq_getElem?_getD,List.getElem?_set]
  split
  ·rename_i e;subst e
   rw[if_pos F.sn,←List.getD_eq_getElem?_getD,F.ah];exact hb.symm
  ·rfl⟩
 kF:=F.kF
 lt:=F.lt
 ht:=by
  apply List.ext_getElem?
  intro j
  have al:=congrArg (·[j]?) F.ht
  simp only[view,List.getElem?_zipWith,List.getElem?_set] at al ⊢
  by_cases e:v.toNat=j
  ·subst e
   have hv:=F.wk
   have:=F.lt
   rw[if_pos rfl,if_pos (by omega),F.id,fM F.lt]
   simp only[List.getD_eq_getElem?_getD,List.getElem?_set,if_pos F.sn]
   rw[F.row];simp
  ·rw[if_neg e] at al ⊢
   rw[←al]
   cases h1:ws[j]? with
   | none=>rfl
   | some y=>
    cases h2:ids[j]? with
    | none=>rfl
    | some id=>
     have bU:nth ids v≠id:=fun hid=>by
      have au:=F.id
      rw[hid] at au
      exact e (F.kF _ _ _ au h2)
     simp only[List.getD_eq_getElem?_getD,List.getElem?_set,if_neg bU]
 len:=fun x hx=>by
  rcases List.mem_or_eq_of_mem_set hx with hx | rfl
  ·exact F.len x hx
  ·rw[hb,←F.ah,List.getD_eq_getElem?_getD,List.getElem?_eq_getElem F.sn];exact F.len _ (List.getElem_mem F.sn)
theorem c6.new (F:c6 V ids v h ws bs) (x:aq) (hx:x.ah.length≤1048576):c6 V (ids.set v.toNat bs.length) v x (ws.set v.toNat x) (bs++[x.ah]) where
 ok:=⟨by rw[List.length_set,List.length_set];exact F.ok.len,fun i id hi=>by
   rw[List.getElem?_set] at hi
   rw[List.length_append,List.length_singleton]
   split at hi
   ·split at hi
    ·cases hi;omega
    ·cases hi
   ·have:=F.ok.lt i id hi;omega,fun i id y h1 h2=>by
   rw[List.getElem?_set] at h1 h2
   split at h1
   ·rename_i e;subst e
    have:=F.ok.len
    have:=F.lt
    rw[if_pos F.lt] at h1;rw[if_pos rfl,if_pos (by omega)] at h2
    cases h1;cases h2;simp
   ·rename_i e
    rw[if_neg e] at h2
    rw[F.ok.ah i id y h1 h2,List.getD_eq_getElem?_getD,List.getD_eq_getElem?_getD,List.getElem?_append_left (F.ok.lt i id h2)]⟩
 kF:=fun i j k hi al=>by
  rw[List.getElem?_set] at hi al
  have aQ: ∀q,ids[q]?≠some bs.length:=fun q U=>by have:=F.ok.lt q _ U;omega
  split at hi
  ·rename_i e;subst e
   split at hi
   ·cases hi
    split at al
    ·rename_i e;exact e
    ·exact absurd al (aQ j)
   ·cases hi
  ·split at al
   ·rename_i e;subst e
    split at al
    ·cases al;exact absurd hi (aQ i)
    ·cases al
   ·exact F.kF i j k hi al
 lt:=by rw[List.length_set];exact F.lt
 ht:=by
  apply List.ext_getElem?
  intro j
  have al:=congrArg (·[j]?) F.ht
  simp only[view,List.getElem?_zipWith,List.getElem?_set] at al ⊢
  by_cases e:v.toNat=j
  ·subst e
   have hv:=F.wk
   have:=F.lt
   have:=F.ok.len
   rw[if_pos rfl,if_pos rfl,if_pos rfl,if_pos F.lt,if_pos (by omega),if_pos (by omega)]
   simp
  ·rw[if_neg e] at al ⊢
   rw[if_neg e,if_neg e,←al]
   cases h1:ws[j]? with
   | none=>rfl
   | some y=>
    cases h2:ids[j]? with
    | none=>rfl
    | some id=>
     simp only
     rw[List.getD_eq_getElem?_getD,List.getD_eq_getElem?_getD,List.getElem?_append_left (F.ok.lt j id h2)]
 len:=fun b hb=>by
  rcases List.mem_append.1 hb with hb | hb
  ·exact F.len b hb
  ·rw[List.mem_singleton.1 hb];exact hx
end
theorem wO (ws:List aq):kQ ws (List.range ws.length) (ws.map aq.ah)∧(∀i j k:Nat,(List.range ws.length)[i]?=some k→(List.range ws.length)[j]?=some k→i=j)∧view ws (List.range ws.length) (ws.map aq.ah)=ws:=by
 refine⟨⟨by simp,fun i id h=> ?_,fun i id h h1 h2=> ?_⟩,fun i j k h1 h2=> ?_,?_⟩
 ·obtain⟨hi,rfl⟩:=List.getElem?_eq_some_iff.1 h
  simpa using hi
 ·obtain⟨hi,rfl⟩:=List.getElem?_eq_some_iff.1 h2
  simp[h1]
 ·obtain⟨hi,rfl⟩:=List.getElem?_eq_some_iff.1 h1
  obtain⟨al,e⟩:=List.getElem?_eq_some_iff.1 h2
  simpa using e.symm
 ·apply List.ext_getElem?
  intro j
  unfold view
  rw[List.getElem?_zipWith]
  rcases Nat.lt_or_ge j ws.length with al | al
  ·rw[List.getElem?_range al,List.getElem?_eq_getElem al]
   simp[al]
  ·rw[List.getElem?_eq_none al]
theorem ul (p:aC) (f:Frame): ∀n,(io p n f).ok=f.ok∧(io p n f).aN=f.aN∧(io p n f).aH=f.aH
 | 0=>⟨rfl,rfl,rfl⟩
 | n+1=>ul p f n
theorem Jz {s:List Int} {f:Frame} {ah:List Bool}: ∀(n g:Nat),g≤s.length→g≤gz s f ah n g∧gz s f ah n g≤s.length
 | 0,g,h=>⟨Nat.le_refl _,h⟩
 | n+1,g,h=>by
  unfold gz
  split
  ·rename_i hc
   have:=Jz (f:=f) (ah:=ah) n (g+1) hc.1
   exact⟨by omega,this.2⟩
  ·exact⟨Nat.le_refl _,h⟩
theorem ajQ {s:List Int} {f:Frame} {h:aq} (hb:h.ah.length=s.length) (ax:0≤h.a7∧h.a7≤h.ah.length):(hY s f h).ah.length=s.length∧0≤(hY s f h).a7∧(hY s f h).a7≤(hY s f h).ah.length:=by
 unfold hY
 simp only
 have aw:(List.zipWith (fun b x=>b || eb f x) h.ah s).length=s.length:=by rw[List.length_zipWith];omega
 have bz:=(Jz (s:=s) (f:=f) (ah:=List.zipWith (fun b x=>b || eb f x) h.ah s) s.length h.a7.toNat (by omega)).2
 split
 ·simp[gZ]
 ·exact⟨aw,Int.natCast_nonneg _,by simp only;rw[aw];omega⟩
theorem am7 {p:aC} {f:Frame} {i:Nat} (hb:(nth f.O i).ah.length=(nth p.O i).ak.length) (ax:0≤(nth f.O i).a7∧(nth f.O i).a7≤(nth f.O i).ah.length):
  (mN p f i).ah.length=(nth p.O i).ak.length∧0≤(mN p f i).a7∧(mN p f i).a7≤(mN p f i).ah.length:=by
 unfold mN
 simp only
 split
 ·exact⟨hb,ax⟩
 ·have h1: ∀(c:Prop) [Decidable c] (x y:aq),x.ah=y.ah→x.a7=y.a7→(if c then x else y).ah=y.ah∧(if c then x else y).a7=y.a7:=fun c _ x y aW e2=>by
   split
   ·exact⟨aW,e2⟩
   ·exact⟨rfl,rfl⟩
  generalize fk:(if(nth f.O i).ar≠4∧eb f (nth (nth p.O i).ak 0)=true then{nth f.O i with ar:=4,bG:=0} else nth f.O i)=A
  have nN:A.ah=(nth f.O i).ah∧A.a7=(nth f.O i).a7:=by rw[←fk];exact h1 _ _ _ rfl rfl
  generalize dD:(if A.ar=1∨A.ar=2 then(if gD p f i=true then{A with ar:=2,bI:=true} else{A with ar:=1}) else A)=B
  have JD:B.ah=(nth f.O i).ah∧B.a7=(nth f.O i).a7:=by
   rw[←dD,←nN.1,←nN.2]
   exact h1 _ _ _ (by split<;>rfl) (by split<;>rfl)
  have aW:B.ah.length=(nth p.O i).ak.length:=by rw[JD.1];exact hb
  have e2:0≤B.a7∧B.a7≤B.ah.length:=by rw[JD.1,JD.2];exact ax
  split
  ·exact ajQ aW e2
  ·exact⟨aW,e2⟩
theorem x2 {p:aC} {f:Frame} (h:iM p f): ∀n,iM p (io p n f)
 | 0=>h
 | n+1=>by
  have br:=x2 h n
  show iM p {io p n f with O:=(io p n f).O.set n (mN p (io p n f) n)}
  have key:n<(io p n f).O.length→(mN p (io p n f) n).ah.length=(nth p.O n).ak.length∧0≤(mN p (io p n f) n).a7∧(mN p (io p n f) n).a7≤(mN p (io p n f) n).ah.length:=fun ag=>by
   have hw:=br.O
   have h1:(io p n f).O[n]?=some (nth (io p n f).O n):=by rw[jv ag];exact List.getElem?_eq_getElem ag
   have h2:p.O[n]?=some (nth p.O n):=by rw[jv (by omega)];exact List.getElem?_eq_getElem (by omega)
   exact am7 (br.ah n _ _ h1 h2) (br.a7 _ (List.mem_of_getElem? h1))
  refine⟨br.aN,br.aH,by rw[List.length_set];exact br.O,fun i x w h1 h2=> ?_,fun x hx=> ?_⟩
  ·replace h1:((io p n f).O.set n (mN p (io p n f) n))[i]?=some x:=h1
   rw[List.getElem?_set] at h1
   split at h1
   ·rename_i e;subst e
    split at h1
    ·rename_i ag
     cases h1
     have hw:=br.O
     rw[(key ag).1,jv (by omega)]
     rw[List.getElem?_eq_getElem (by omega)] at h2
     cases h2;rfl
    ·cases h1
   ·exact br.ah i x w h1 h2
  ·rcases List.mem_or_eq_of_mem_set hx with hx | rfl
   ·exact br.a7 x hx
   ·by_cases ag:n<(io p n f).O.length
    ·exact(key ag).2
    ·rw[List.set_eq_of_length_le (by omega)] at hx
     exact br.a7 _ hx
theorem qp (p:aC) (f:Frame): ∀n,(io p n f).O.length=f.O.length
 | 0=>rfl
 | n+1=>by show((io p n f).O.set n _).length=_;rw[List.length_set];exact qp p f n
theorem MB {p:aC} {f g:Frame} {i:Int} (h1:f.aN=g.aN) (h2:f.aH=g.aH):gD p f i=gD p g i:=by
 unfold gD hd eb
 rw[h1,h2]
def kj (s:List Int) (f:Frame) (b:List Bool) (v:Nat):List Bool:=List.zipWith (fun b x=>b || eb f x) (b.take v) (s.take v)++b.drop v
theorem Pr {s:List Int} {f:Frame} {b:List Bool} {v:Nat} (aw:b.length=s.length) (hv:v≤s.length):(kj s f b v).length=b.length:=by
 unfold kj
 rw[List.length_append,List.length_zipWith,List.length_take,List.length_take,List.length_drop];omega
theorem Z6 (s:List Int) (f:Frame) (b:List Bool):kj s f b 0=b:=by simp[kj]
theorem Z8 {s:List Int} {f:Frame} {b:List Bool} {v:Nat} (aw:b.length=s.length) (hv:s.length≤v):kj s f b v=List.zipWith (fun b x=>b || eb f x) b s:=by
 unfold kj
 rw[List.take_of_length_le (by omega),List.take_of_length_le hv,List.drop_of_length_le (by omega),List.append_nil]
theorem Z7 {s:List Int} {f:Frame} {b:List Bool} {v:Nat} (aw:b.length=s.length) (hv:v<s.length):nth (kj s f b v) v=b[v]:=by
 rw[jv (by rw[Pr aw (by omega)];omega)]
 unfold kj
 rw[List.getElem_append_right (by rw[List.length_zipWith,List.length_take,List.length_take];omega)]
 simp only[List.length_zipWith,List.length_take,List.getElem_drop]
 congr 1;omega
theorem Z9 {s:List Int} {f:Frame} {b:List Bool} {v:Nat} (aw:b.length=s.length) (hv:v<s.length):(kj s f b v).set v (b[v] || eb f s[v])=kj s f b (v+1):=by
 unfold kj
 have hlen:(List.zipWith (fun b x=>b || eb f x) (b.take v) (s.take v)).length=v:=by rw[List.length_zipWith,List.length_take,List.length_take];omega
 rw[List.set_append_right _ _ (by omega),hlen,Nat.sub_self,List.take_succ_eq_append_getElem (by omega),List.take_succ_eq_append_getElem hv,List.zipWith_append (by rw[List.length_take,List.length_take];omega),List.append_assoc]
 congr 1
 rw[List.drop_eq_getElem_cons (by omega:v<b.length)]
 rfl
def oA (s:List Int) (f:Frame) (ah:List Bool) (g:Int):Bool:=
 decide (g<(s.length:Int))&&(nth ah g&&((!(nth f.aN (nth s g)))&&((g==IntKind.i64.wrap ((s.length:Int) - 1)) || nth ah (IntKind.i64.wrap (g+1)))))
theorem RB {s:List Int} {f:Frame} {ah:List Bool} {g:Nat} (hs:s.length≤1048576) (ax:g≤s.length):
  oA s f ah g=true↔g<s.length∧ah.getD g false=true∧eb f (s.getD g 0)=false∧(g+1=s.length∨ah.getD (g+1) false=true):=by
 unfold oA
 rw[j6 (by omega) (by omega),j6 (by omega) (by omega)]
 have aW:nth ah (g:Int)=ah.getD g false:=rfl
 have e2:nth ah ((g:Int)+1)=ah.getD (g+1) false:=rfl
 have cF:nth s (g:Int)=s.getD g 0:=rfl
 rw[aW,e2,cF]
 simp only[Bool.and_eq_true,Bool.or_eq_true,decide_eq_true_eq,Bool.not_eq_true',beq_iff_eq]
 constructor
 ·rintro⟨h1,h2,au,a8⟩;exact⟨by omega,h2,au,a8.imp (fun h=>by omega) _root_.id⟩
 ·rintro⟨h1,h2,au,a8⟩;exact⟨by omega,h2,au,a8.imp (fun h=>by omega) _root_.id⟩
def zi (s:List Int) (f:Frame) (ah:List Bool) (g0 g:Int):Prop:=0≤g∧g≤s.length∧gz s f ah s.length g0.toNat=gz s f ah (s.length - g.toNat) g.toNat
theorem Fo {s:List Int} {f:Frame} {ah:List Bool} {n g:Nat} (h: ¬(g<s.length∧ah.getD g false=true∧eb f (s.getD g 0)=false∧(g+1=s.length∨ah.getD (g+1) false=true))):gz s f ah n g=g:=by
 cases n with
 | zero=>rfl
 | succ n=>unfold gz;rw[if_neg h]
theorem RF {s:List Int} {f:Frame} {ah:List Bool}: ∀(n m g:Nat),s.length≤n+g→s.length≤m+g→gz s f ah n g=gz s f ah m g
 | 0,m,g,h1,h2=>by
  rw[Fo (n:=m) fun h=>by omega];rfl
 | n+1,0,g,h1,h2=>by rw[Fo (n:=n+1) fun h=>by omega];rfl
 | n+1,m+1,g,h1,h2=>by
  unfold gz
  split
  ·exact RF n m (g+1) (by omega) (by omega)
  ·rfl
theorem RC {s:List Int} {f:Frame} {ah:List Bool} {g:Int} (az:0≤g) (h1:g≤s.length):zi s f ah g g:=⟨az,h1,RF _ _ _ (by omega) (by omega)⟩
theorem RD {s:List Int} {f:Frame} {ah:List Bool} {g0 g:Int} (hs:s.length≤1048576) (h:zi s f ah g0 g) (hc:oA s f ah g=true):zi s f ah g0 (IntKind.i64.wrap (g+1))∧g<s.length:=by
 obtain⟨az,h1,h2⟩:=h
 obtain⟨k,rfl⟩:=Int.eq_ofNat_of_zero_le az
 have hc:=(RB hs (by omega)).1 hc
 rw[j6 (by omega) (by omega)]
 refine⟨⟨by omega,by omega,?_⟩,by omega⟩
 rw[h2]
 simp only[Int.toNat_natCast]
 rw[show((k:Int)+1).toNat=k+1 by omega,show s.length - k=(s.length - (k+1))+1 by omega]
 conv=>lhs;unfold gz
 rw[if_pos hc]
theorem Jy {s:List Int} {f:Frame} {ah:List Bool} {g0 g:Int} (hs:s.length≤1048576) (h:zi s f ah g0 g) (hc:oA s f ah g=false):(gz s f ah s.length g0.toNat:Int)=g:=by
 obtain⟨az,h1,h2⟩:=h
 obtain⟨k,rfl⟩:=Int.eq_ofNat_of_zero_le az
 rw[h2]
 simp only[Int.toNat_natCast]
 rw[Fo fun bz=>by rw[(RB hs (by omega)).2 bz] at hc;cases hc]
def Nb (p:aC) (f:Frame) (bs:List (List Bool)) (ids:List Nat) (v:Int) (ws:List aq):Prop:=
 bW f.O.length (fun _=>false) v∧kQ ws ids bs∧(∀i j k:Nat,ids[i]?=some k→ids[j]?=some k→i=j)∧view ws ids bs=(io p v.toNat f).O∧ ∀b∈bs,b.length≤1048576
def dC (p:aC) (f:Frame) (v:Int):Frame:=io p v.toNat f
def cx (p:aC) (v:Int):List Int:=(nth p.O v).ak
def h0 (p:aC) (f:Frame) (v:Int):aq:=
 let G:=dC p f v
 let h:=nth G.O v
 if h.ar≠4∧eb G (nth (cx p v) 0)=true then{h with ar:=4,bG:=0} else h
def gv (p:aC) (f:Frame) (v:Int):aq:=
 let h:=h0 p f v
 if h.ar=1∨h.ar=2 then(if gD p (dC p f v) v=true then{h with ar:=2,bI:=true} else{h with ar:=1}) else h
def rS (p:aC) (f:Frame) (v:Int):List Bool:=List.zipWith (fun b x=>b || eb (dC p f v) x) (gv p f v).ah (cx p v)
theorem ZK {p:aC} {f:Frame} {v:Int} (az:0≤v):mN p (dC p f v) v.toNat=if(nth (dC p f v).O v).ar=0 then nth (dC p f v).O v else if(gv p f v).ar=4 then hY (cx p v) (dC p f v) (gv p f v) else gv p f v:=by
 unfold mN gv h0 cx
 rw[kH az,kH az,Int.toNat_of_nonneg az]
theorem vE {p:aC} {f:Frame} {v:Int}:(h0 p f v).ah=(nth (dC p f v).O v).ah∧(h0 p f v).a7=(nth (dC p f v).O v).a7:=by
 unfold h0;simp only;split<;>exact⟨rfl,rfl⟩
theorem GW {p:aC} {f:Frame} {v:Int}:(gv p f v).ah=(nth (dC p f v).O v).ah∧(gv p f v).a7=(nth (dC p f v).O v).a7:=by
 rw[←vE.1,←vE.2]
 unfold gv;simp only;split
 ·split<;>exact⟨rfl,rfl⟩
 ·exact⟨rfl,rfl⟩
theorem x1 {p:aC} {f:Frame} {v:Int} {h:aq} {ws:List aq} {ids:List Nat} {bs:List (List Bool)} (ag:(f.O.length:Int)≤4611686018427387904) (aJ:bW f.O.length (fun _=>false) v) (hv:decide (v<(f.O.length:Int))=true)
  (F:c6 (dC p f v).O ids v h ws bs) (bz:h=mN p (dC p f v) v.toNat):Nb p f bs ids (IntKind.i64.wrap (v+1)) ws∧cg f.O.length (IntKind.i64.wrap (v+1))<cg f.O.length v:=by
 have aS:=cw ag aJ hv rfl
 refine⟨⟨aS.1,F.ok,F.kF,?_,F.len⟩,aS.2⟩
 have az:=aJ.1
 have hv:v<(f.O.length:Int):=by simpa using hv
 rw[hL ag az hv,show(v+1).toNat=v.toNat+1 by omega,F.ht,bz]
 rfl
def F4 (j:Int) (k:Bool) (o:List Bool) (q:List bx) (w:List aq) (i:List Nat) (b:List (List Bool)):Prop:=fP w i b∧0≤j∧j<w.length
def xh (j:Int) (k:Bool) (o:List Bool) (q:List bx) (w:List aq) (i:List Nat) (b:List (List Bool)) (lZ:List Bool) (uc:List bx) (w':List aq) (ji:List Nat) (bS:List (List Bool)):Prop:=
 fP w' ji bS∧view w' ji bS=(view w i b).set j.toNat (gZ (nth (view w i b) j).ah.length)
def cE (k:Bool) (o:List Bool) (q:List bx) (w:List aq) (i:List Nat) (b:List (List Bool)):Frame:=⟨k,o,q,view w i b⟩
def WD (s:Way) (j:Int) (k:Bool) (o:List Bool) (q:List bx) (w:List aq) (i:List Nat) (b:List (List Bool)):Prop:=
 fP w i b∧0≤j∧j<w.length∧s.ak.length≤1048576∧(∀x∈s.ak,0≤x∧x<o.length)∧(nth (view w i b) j).ah.length=s.ak.length∧0≤(nth (view w i b) j).a7∧(nth (view w i b) j).a7≤s.ak.length
def Dh (s:Way) (j:Int) (k:Bool) (o:List Bool) (q:List bx) (w:List aq) (i:List Nat) (b:List (List Bool)) (lZ:List Bool) (uc:List bx) (w':List aq) (ji:List Nat) (bS:List (List Bool)):Prop:=
 fP w' ji bS∧view w' ji bS=(view w i b).set j.toNat (hY s.ak (cE k o q w i b) (nth (view w i b) j))
def Nc (p:aC) (k:Bool) (o:List Bool) (q:List bx) (w:List aq) (i:List Nat) (b:List (List Bool)):Prop:=fP w i b∧DH p (cE k o q w i b)
def DF (p:aC) (k:Bool) (o:List Bool) (q:List bx) (w:List aq) (i:List Nat) (b:List (List Bool)) (lZ:List Bool) (uc:List bx) (w':List aq) (ji:List Nat) (bS:List (List Bool)):Prop:=
 fP w' ji bS∧view w' ji bS=(ef p (cE k o q w i b)).O
def XK (f g:Frame):Prop:=f.O.length=g.O.length∧ho f∧ho g∧ ∀(i:Nat) (x y:aq),f.O[i]?=some x→g.O[i]?=some y→x.ah.length=y.ah.length
def pN (f g:Frame):Bool:=decide (f.O=g.O)
def Sh (p:aC) (f:Frame) (i:Int):Prop:=uI p∧ho f∧f.O.length=p.O.length∧0≤i∧i<p.O.length
def hR (p:aC) (f:Frame) (i:Int):Bool:=
 let h:=nth f.O i
 let n:=(nth p.O i).ak.length
 bN h.ar 0 4&&decide (h.ah.length=n)&&bN h.a7 0 ((n:Int) - 1)&&(decide (h.ar=4) || (decide (h.a7=0)&&h.ah.all (fun b=> !b)))&&(h.ah.take h.a7.toNat).all (fun b=>b)&&
 (if h.ar=3 then h.bI&&bN h.bG 1 p.ct else decide (h.bG=0)&&(decide (h.ar≠0) || !h.bI)&&(decide (h.ar≠2) || h.bI))
def Ii (p:aC) (f:Frame):Bool:=(List.range f.O.length).all fun i=>(List.range f.O.length).all fun k=>decide (i=k) || !uO p i k || decide ((nth f.O i).ar=0) || decide ((nth f.O k).ar=0)
def gX (p:aC) (f:Frame):Bool:=
 dV p&&f.ok&&decide ((f.aN.length:Int)=p.ak)&&decide (f.aH.length=p.bb.length)&&decide (f.O.length=p.O.length)&&
 f.aH.all (fun x=>bN x.dc 1 2&&bN x.bm 0 2)&&(List.range f.O.length).all (fun i=>hR p f i)&&Ii p f&&pN f (ef p f)
def Rr (p:aC) (f:Frame):Prop:=ho f
theorem Fx {xs:List Bool} {b:Bool}:q0 xs b=true↔b∈xs:=by unfold q0;simp
def sy (f:Frame) (l:cU):Bool:=((nth f.aH l.be).dc !=l.bj) || ((nth f.aH l.be).bm !=l.bj)
def WU (p:aC) (f:Frame) (i:Int):Prop:= ∀l∈bE (nth p.O i),sy f l=false
theorem MA (p:aC) (f:Frame) (i:Int):gD p f i=((bE (nth p.O i)).all (fun l=> !sy f l)&& !hd f (nth p.O i).ak&& !hd f (nth p.O i).over):=by
 have U: ∀l:cU,decide (nth f.aH l.be=⟨l.bj,l.bj⟩)= !sy f l:=fun l=>by
  unfold sy
  rcases nth f.aH l.be with⟨x,y⟩
  rw[Bool.eq_iff_iff];simp
 unfold gD
 simp only[U]
theorem Pp {α:Type} {x y:α} {v:Int} (az:0≤v) (h1:v.toNat<[x,y].length):v=0∨v=1:=by simp at h1;omega
theorem fP.at' {w:List aq} {i:List Nat} {b:List (List Bool)} {j:Int} (F:fP w i b) (h:j.toNat<w.length):c6 (view w i b) i j (nth (view w i b) j) w b:=c6.start F.ok F.kF h rfl F.len
section
variable {V:List aq} {ids cR:List Nat} {v:Int} {h x:aq} {ws kP:List aq} {bs bs':List (List Bool)}
theorem c6.G (F:c6 V ids v h ws bs):fP ws ids bs:=⟨F.ok,F.kF,F.len⟩
theorem c6.Aj (F:c6 V ids v h ws bs):nth (view ws ids bs) v=h:=by
 rw[fU (by rw[i_ F.ok];exact F.lt)]
 simp only[F.ht,List.getElem_set_self]
theorem c6.again (F:c6 V ids v h ws bs) (G:fP kP cR bs') (e:view kP cR bs'=(view ws ids bs).set v.toNat x):c6 V cR v x kP bs' where
 ok:=G.ok
 kF:=G.kF
 lt:=by
  have:=congrArg List.length e
  rw[i_ G.ok,List.length_set,i_ F.ok] at this
  have:=F.lt;omega
 ht:=by rw[e,F.ht,List.set_set]
 len:=G.len
end
theorem WC {s:List Int} {f g:Frame} {h:aq} (e:f.aN=g.aN):hY s f h=hY s g h:=by
 have ai:eb f=eb g:=by funext x;unfold eb;rw[e]
 have ax: ∀(ah:List Bool) (n q:Nat),gz s f ah n q=gz s g ah n q:=fun ah n=>by
  induction n with
  | zero=>intro q;rfl
  | succ n br=>intro q;unfold gz;rw[ai,br]
 unfold hY
 simp only[ai,ax]
def oR (s:List Int) (f:Frame) (h:aq):List Bool:=List.zipWith (fun b x=>b || eb f x) h.ah s
theorem WB (s:List Int) (f:Frame) (h:aq):hY s f h=if gz s f (oR s f h) s.length h.a7.toNat=s.length then gZ s.length else{h with ah:=oR s f h,a7:=gz s f (oR s f h) s.length h.a7.toNat}:=rfl
def ajS (s:List Int) (f:Frame) (V:List aq) (ids:List Nat) (j:Int) (ws:List aq) (bs:List (List Bool)) (k:Int):Prop:=
 bW s.length (fun _=>false) k∧c6 V ids j {nth V j with ah:=kj s f (nth V j).ah k.toNat} ws bs
def ajT (s:List Int) (f:Frame) (V:List aq) (ids:List Nat) (j:Int) (bs:List (List Bool)) (ws:List aq):Prop:=
 ∃g,zi s f (oR s f (nth V j)) (nth V j).a7 g∧c6 V ids j {nth V j with ah:=oR s f (nth V j),a7:=g} ws bs
theorem anf {s:List Int} {f:Frame} {ah:List Bool} {g:Int} (hs:s.length≤1048576) (h:decide (g<(s.length:Int))=true):
  ((!(nth ah g)) || ((nth f.aN (nth s g)) || ((decide (g<(IntKind.i64.wrap ((s.length:Int) - 1))))&&(!(nth ah (IntKind.i64.wrap (g+1)))))))= !oA s f ah g:=by
 unfold oA
 rw[h,Bool.true_and,j6 (n:=(s.length:Int) - 1) (by omega) (by omega)]
 have:(g==(s.length:Int) - 1)= !decide (g<(s.length:Int) - 1):=by
  have h:g<(s.length:Int):=by simpa using h
  rw[Bool.eq_iff_iff];simp;omega
 rw[this]
 cases nth ah g<;>cases nth f.aN (nth s g)<;>cases decide (g<(s.length:Int) - 1)<;>cases nth ah (IntKind.i64.wrap (g+1))<;>rfl
def qN:List (Nat×TV)→Bool
 | []=>true
 | (k,_)::r=>match Nat.ble 1000010 k&&Nat.blt k 1000000000000 with
  | true=>qN r
  | false=>false
theorem EE {l:List (Nat×TV)} (h:qN l=true) {k:Nat} (hk:k<1000010∨1000000000000≤k): ∀v,(k,v) ∉ l:=by
 induction l with
 | nil=>intro v hv;cases hv
 | cons p r br=>
  obtain⟨a,w⟩:=p
  unfold qN at h
  split at h
  ·rename_i aG
   rw[Bool.and_eq_true,Nat.blt_eq] at aG
   intro v hv
   rcases List.mem_cons.1 hv with e | hv
   ·cases e;have:=Nat.le_of_ble_eq_true aG.1;have:=aG.2;omega
   ·exact br h v hv
  ·cases h
def TS.add (s:TS) (l:List (Nat×TV)) (vs:List (Nat×Nat)) (a_:Nat):TS:=⟨l++s.T,s.B,vs,a_⟩
theorem TS.jd (s:TS) (l:List (Nat×TV)) (vs:List (Nat×Nat)) (a_ k:Nat):(s.add l vs a_).get k=g_ l k (s.get k):=by
 unfold TS.get TS.add;exact xI ..
theorem BM {n:Nat} {s:TS} {l:List (Nat×TV)} {vs:List (Nat×Nat)} {a_:Nat} (ag:n≤1000000) (h:qN l=true):(s.add l vs a_).tT n=s.tT n:=by
 show(List.range n).map _=(List.range n).map _
 refine List.map_congr_left fun t a6=> ?_
 have a6:t<n:=List.mem_range.1 a6
 rw[TS.jd,vq (EE h (.inl (by omega)))]
theorem GD {s s':TS} (e:s'.get dy=s.get dy):ju s'=ju s:=by unfold ju;rw[e]
theorem O6 [FZ] {n:Nat} {s s':TS} (hb:s'.a_=s.a_) (e: ∀b,s'.get (bw b)=s.get (bw b)) (cA:s'.get dy=s.get dy):(s'.aj n).H=(s.aj n).H:=by
 show s'.gw++hj s'=s.gw++hj s
 unfold TS.gw hj
 rw[GD cA,hb]
 simp only[e]
theorem BL [FZ] {n:Nat} {s:TS} {l:List (Nat×TV)} {vs:List (Nat×Nat)} (h:qN l=true):((s.add l vs s.a_).aj n).H=(s.aj n).H:=
 O6 rfl (fun b=>by rw[TS.jd,vq (EE h (.inr (by unfold bw;omega)))]) (by rw[TS.jd,vq (EE h (.inl (by unfold dy;omega)))])
theorem BN [FZ] {s:TS} {l:List (Nat×TV)} {vs:List (Nat×Nat)} {a_:Nat} (h:qN l=true) (f:Fits s):Fits (s.add l vs a_):=
 f.congr fun k _ h2=>by rw[TS.jd,vq (EE h (.inl h2))]
def wL (v:Nat):Nat→List TV→List (Nat×TV)
 | _,[]=>[]
 | c,a::r=>(fF v c,a)::wL v (c+1) r
def TS.gJ (s:TS) (b a_:Nat) (v:TV):TS:=s.add [(bw b,v)] s.vs a_
theorem Iq (s:TS) {b a_:Nat} {v:TV} {k:Nat} (h:k<1000000000000):(s.gJ b a_ v).get k=s.get k:=by
 unfold TS.gJ
 rw[TS.jd,hl,if_neg (by unfold bw;omega)];rfl
theorem rV {n:Nat} {s:TS} {b a_:Nat} {v:TV} (ag:n≤1000000):(s.gJ b a_ v).tT n=s.tT n:=by
 show(List.range n).map _=(List.range n).map _
 refine List.map_congr_left fun t a6=> ?_
 have a6:t<n:=List.mem_range.1 a6
 rw[Iq s (by omega)]
theorem rW [FZ] {s:TS} {b a_:Nat} {v:TV} (f:Fits s):Fits (s.gJ b a_ v):=f.congr fun k _ h2=>Iq s (by omega)
theorem Qn {s:TS} {b a_:Nat} {v:TV}:ju (s.gJ b a_ v)=ju s:=GD (Iq s (by unfold dy;omega))
theorem Qm (s:TS) (b a_:Nat) (v:TV) (bS:Nat):(s.gJ b a_ v).get (bw bS)=if b=bS then v else s.get (bw bS):=by
 unfold TS.gJ
 rw[TS.jd,hl]
 by_cases h:b=bS
 ·subst h;rw[if_pos rfl,if_pos rfl]
 ·rw[if_neg h,if_neg (by unfold bw;omega)];rfl
theorem yU [FZ] {n:Nat} {s:TS} {b:Nat} {v:TV} (h:b<s.a_):((s.gJ b s.a_ v).aj n).H=(s.aj n).H.set b v.eh:=by
 show(s.gJ b s.a_ v).gw++hj (s.gJ b s.a_ v)=(s.gw++hj s).set b v.eh
 rw[List.set_append_left _ _ (by rw[oi];exact h)]
 have e2:hj (s.gJ b s.a_ v)=hj s:=by unfold hj;rw[Qn]
 rw[e2]
 congr 1
 apply List.ext_getElem?
 intro i
 rw[rH,List.getElem?_set,rH,oi,Qm]
 show(if i<s.a_ then _ else _)=_
 by_cases hi:b=i
 ·subst hi;simp[h]
 ·simp[hi]
theorem EH [FZ] {n:Nat} {s:TS} {v:TV} (cO:ju s=true):((s.gJ s.a_ (s.a_+1) v).aj n).H=(s.aj n).H++[v.eh]:=by
 show(s.gJ s.a_ (s.a_+1) v).gw++hj (s.gJ s.a_ (s.a_+1) v)=(s.gw++hj s)++[v.eh]
 unfold hj
 rw[Qn,cO]
 show(s.gJ s.a_ (s.a_+1) v).gw++[]=(s.gw++[])++[v.eh]
 rw[List.append_nil,List.append_nil]
 apply List.ext_getElem?
 intro i
 rw[rH,Qm]
 show(if i<s.a_+1 then _ else _)=_
 rcases Nat.lt_trichotomy i s.a_ with h | h | h
 ·rw[if_pos (by omega),if_neg (by omega),List.getElem?_append_left (by rw[oi];exact h),rH,if_pos h]
 ·subst h
  rw[if_pos (by omega),if_pos rfl,List.getElem?_append_right (by rw[oi];exact Nat.le_refl _),oi];simp
 ·rw[if_neg (by omega),List.getElem?_eq_none (by rw[List.length_append,oi];simp;omega)]
def yi (P:Program) (t:TypeId) (v:AV):Bool:=(P.info? t).isSome&&Nat.beq (e7 v).length (P.cellsOf t)&&(e7 v).all jo
theorem HI {P:Program} {t:TypeId} {v:AV} (h:yi P t v=true):(P.info? t).isSome=true∧(e7 v).length=P.cellsOf t∧(e7 v).all jo=true:=by
 simp only[yi,Bool.and_eq_true] at h
 exact⟨h.1.1,Nat.eq_of_beq_eq_true h.1.2,h.2⟩
def O7 (P:Program) (n:Nat) (t:TypeId) (b g:Nat) (i:Int) (m c:Nat) (v:TV) (s:TS) (K:TS→aI):aI:=match Ai v with
 | false=> .no
 | true=>tc s b g fun e xs fh h=>BZ s e.ew ((jR true e (vw e xs i)).take c++rY v++(jR true e (vw e xs i)).drop (c+(rY v).length)) fun qI _=>
  let y:=e.mk qI
  let s':=s.gJ b s.a_ (.blk g e (xs.set i.toNat y) fh (by rw[List.length_set];exact h))
  .eq fh m (.eq (yi P t v.bk) true (.eq (Nat.ble (c+(e7 v.bk).length) e.mA) true (.eq (fe (cu true e (vw e xs i)) c (e7 v.bk)) (cu true e y) (.eq s'.b8 s.b8 (.p (i.toNat<m) (K s'))))))
def Gz (P:Program) (t:TypeId):Option (List AV×Nat):=match jp P t with
 | some e=>(match oo P e with
  | some z=>(match Nat.beq z.length (P.cellsOf e)&&z.all jo with
   | true=>some (z.map nx,P.bytesOf e)
   | false=>none)
  | none=>none)
 | none=>none
theorem VZ {P:Program} {t:TypeId} {aaj:List AV} {B:Nat} (h:Gz P t=some (aaj,B)): ∃e z,jp P t=some e∧oo P e=some z∧z.length=P.cellsOf e∧z.all jo=true∧aaj=z.map nx∧B=P.bytesOf e:=by
 unfold Gz at h
 split at h
 ·rename_i e he
  split at h
  ·rename_i z aB
   split at h
   ·rename_i hc
    simp only[Bool.and_eq_true] at hc
    cases h
    exact⟨e,z,he,aB,Nat.eq_of_beq_eq_true hc.1,hc.2,rfl,rfl⟩
   ·cases h
  ·cases h
 ·cases h
def r0 (P:Program) (t:TypeId):Nat:=match jp P t with
 | some e=>P.bytesOf e
 | none=>0
def ad4 (e:bg) (c:List TV):e.T:=match e.isS with
 | true=>e.mk (qW e.ew c)
 | false=>Ju e (c.getD 0 .u)
def Me (P:Program) (n:Nat) (t:TypeId) (e:bg) (l c:TV) (s:TS) (K:TV→TS→aI):aI:=match l with
 | .i _ l=>(match c with
  | .i _ c=>
   let aM:=ad4 e (match jp P t with
    | some o9=>Eh P o9
    | none=>[])
   let xs:=List.replicate l.toNat aM
   let s':=s.gJ s.a_ (s.a_+1) (.blk 0 e xs xs.length rfl)
   .eq (Gz P t) (some (cu true e aM,r0 P t)) (.eq l c (.eq s'.b8 s.b8 (.eq (ju s) true (.p (0≤l∧(r0 P t:Int)*l≤140737488355328∧l≤4611686018427387904) (K (.ref s.a_ 0 xs.length false) s')))))
  | _=> .no)
 | _=> .no
def Ey (P:Program) (t t2:TypeId) (x:AV):Option (Nat×Nat):=match jp P t with
 | some e=>(match oo P e with
  | some z=>(match Nat.beq z.length (P.cellsOf e)&&Nat.blt 0 z.length&&wG P e t2 x with
   | true=>some (z.length,P.bytesOf e)
   | false=>none)
  | none=>none)
 | none=>none
theorem P5 {P:Program} {t t2:TypeId} {x:AV} {m B:Nat} (h:Ey P t t2 x=some (m,B)): ∃e z,jp P t=some e∧oo P e=some z∧(z.length=P.cellsOf e∧0<z.length∧wG P e t2 x=true)∧m=z.length∧B=P.bytesOf e:=by
 unfold Ey at h
 split at h
 ·rename_i e he
  split at h
  ·rename_i z aB
   split at h
   ·rename_i hc
    simp only[Bool.and_eq_true] at hc
    cases h
    exact⟨e,z,he,aB,⟨Nat.eq_of_beq_eq_true hc.1.1,by rw[←Nat.blt_eq];exact hc.1.2,hc.2⟩,rfl,rfl⟩
   ·cases h
  ·cases h
 ·cases h
def bg.flat:bg→Bool
 | .int | .u64 | .u8 | .bool | .str | .bj | .e3 | .ij | .fault=>true
 | _=>false
theorem adi {e:bg} (h:e.flat=true) (x:e.T):cu false e x=cu true e x:=by cases e<;>first | rfl | cases h
theorem ako (e:bg) (x:e.T):(cu false e x).map qo=cu true e x:=by
 rw[←p7,←p7]
 have key: ∀(es:List bg) (y:ck es),(jT false es y).map qo=jT true es y:=by
  intro es
  induction es with
  | nil=>intro y;rfl
  | cons e r br=>
   intro y
   show qo (ks false e y.1)::(jT false r y.2).map qo=_
   rw[br,jT]
   congr 1
   cases e<;>rfl
 exact key _ _
theorem Xk {e:bg} {fr:Bool} (h:(fr || e.flat)=true) (xs:List e.T):l2 fr (xs.map (cu false e))=xs.map (cu true e):=by
 cases fr with
 | true=>
  show(xs.map (cu false e)).map (fun row=>row.map qo)=_
  rw[List.map_map]
  exact List.map_congr_left fun x _=>ako e x
 | false=>exact List.map_congr_left fun x _=>adi h x
def Ih (P:Program) (n:Nat) (t t2:TypeId) (v x:TV) (s:TS) (K:TV→TS→aI):aI:=match x with
 | .l e ys jV fr=>(match(fr || e.flat)&&e.qj with
  | false=> .no
  | true=>(match v with
   | .nil full _=>(match full with
    | true=>
     let s':=s.gJ s.a_ (s.a_+1) (.blk 0 e ys ys.length rfl)
     .eq (Ey P t t2 (TV.l e ys jV fr).bk) (some (e.mA,r0 P t)) (.eq s'.b8 s.b8 (.eq (ju s) true (.p (ys.length*r0 P t≤140737488355328∧ys.length≤4611686018427387904) (K (.ref s.a_ 0 ys.length false) s'))))
    | false=> .no)
   | .ref b g m _=>tc s b g fun cA xs fh h=>if he:e=cA then
     let iL:=xs++mi he ys
     let s':=s.gJ b s.a_ (.blk (g+1) cA iL iL.length rfl)
     .eq fh m (.eq (Ey P t t2 (TV.l e ys jV fr).bk) (some (e.mA,r0 P t)) (.eq s'.b8 s.b8 (.p ((xs.length+ys.length)*r0 P t≤140737488355328∧xs.length+ys.length≤4611686018427387904) (K (.ref b (g+1) iL.length false) s'))))
    else .no
   | _=> .no))
 | _=> .no
section
variable {P:Program} (cf:gV P) (s:TS)
def Ca (o:Oper) (v:TV) (l:List (Nat×TV)) (vs:List (Nat×Nat)) (K:TV→TS→aI):aI:=match qN l with
 | true=> .eq (fun H Q=>kt P [] o (fun x=>(cr cf.n s x).bk) s.b8 H Q) (fun H Q=>Q v.bk (s.add l vs s.a_).b8 H) (K v (s.add l vs s.a_))
 | false=> .no
end
section
variable {P:Program} {cf:gV P} {s:TS} {R:Exit→TS→Prop}
variable {K:TV→TS→aI} {Kp:AV→List (Nat×List AV)→List Blk→Prop}
theorem GN {b:Bool} {x:Prop} (h:b=true) (k:x):eM b x:=by subst h;exact k
end
section
variable {P:Program} {cf:gV P} {s:TS} {R:Exit→TS→Prop}
variable {K:TV→TS→aI} {Kp:AV→List (Nat×List AV)→List Blk→Prop}
theorem abu {t:TypeId} {m:Nat} {parts:List (Nat×AV)} {L:List (Nat×List AV)} {H:List Blk} {d:Option Nat} (h:y0 P t m parts fun r=>Kp r L H):wK P (wR [] d) (xY []) t m parts L H Kp:=by
 obtain⟨e,he,h⟩:=fs h
 obtain⟨z,aB,h⟩:=fs h
 refine ec he (ec aB ?_)
 split at h
 ·rename_i hc
  rw[if_pos hc]
  obtain⟨cells,hf,h⟩:=fs h
  refine ec hf ?_
  split at h
  ·rename_i hb
   have:wR [] d=false:=by cases d<;>rfl
   rw[this]
   show if cells.all jQ=true then _ else _
   rw[if_pos hb];exact h
  ·exact h.elim
 ·exact h.elim
end
section
variable {P:Program} {cf:gV P} {s:TS} {R:Exit→TS→Prop}
variable {K:TV→TS→aI} {Kp:AV→List (Nat×List AV)→List Blk→Prop}
theorem Xi {o:Oper} {bt:Operand→AV} {L:List (Nat×List AV)} {H:List Blk} (h:j_ P o bt L H fun r=>Kp r L H) (hc: ∀c,o.op≠ .call c) (hb: ∀t m ps,o.op≠ .buildSlice t m ps):kt P [] o bt L H Kp:=by
 have h':=E_ h
 obtain⟨dst,op,ty,pos,after,guard⟩:=o
 cases op<;>first | exact h' | exact h'.elim | exact absurd rfl (hc _) | exact absurd rfl (hb _ _ _)
end
section
variable {P:Program} {cf:gV P} {s:TS} {R:Exit→TS→Prop}
variable {K:TV→TS→aI} {Kp:AV→List (Nat×List AV)→List Blk→Prop}
theorem MR {o:Oper} {c:Call} {bt:Operand→AV} {L:List (Nat×List AV)} {H:List Blk} (ai:o.op= .call c) (h:j_ P o bt L H fun r=>Kp r L H):kt P [] o bt L H Kp:=by
 have h':=E_ h
 obtain⟨dst,op,ty,pos,after,guard⟩:=o
 cases ai
 obtain⟨callee,args,argTypes⟩:=c
 cases callee with
 | builtin b=>
  cases b with
  | len=>exact h'
  | _=>exact h'.elim
 | value f=>
  have h':mh (bt f) fun g caps=>p5 P g (args.toList.map bt++caps) L H fun r=>Kp r L H:=h'
  show mh (bt f) fun g caps=>lQ P g (args.toList.map bt++caps) L H Kp
  cases hf:bt f with
  | fn g caps=>rw[hf] at h';exact .inl h'
  | _=>rw[hf] at h';exact h'.elim
 | _=>exact h'.elim
end
section
variable {P:Program} {cf:gV P} {s:TS} {R:Exit→TS→Prop}
variable {K:TV→TS→aI} {Kp:AV→List (Nat×List AV)→List Blk→Prop}
theorem akk {o:Oper} {t:TypeId} {m:Nat} {ps:Array (Nat×Operand)} {bt:Operand→AV} {L:List (Nat×List AV)} {H:List Blk} (ai:o.op= .buildSlice t m ps) (h:j_ P o bt L H fun r=>Kp r L H):kt P [] o bt L H Kp:=by
 have h':=E_ h
 obtain⟨dst,op,ty,pos,after,guard⟩:=o
 cases ai
 obtain⟨h1,h2⟩:=rn (show eM (ps.toList.all fun p=>eL (bt p.2)) (y0 P t m (ps.toList.map fun p=>(p.1,bt p.2)) fun r=>Kp r L H) from h')
 show eM (ps.toList.all fun p=>eL (bt p.2)) (wK P (wR [] dst) (xY []) t m (ps.toList.map fun p=>(p.1,bt p.2)) L H Kp)
 rw[h1];exact abu h2
end
section
variable [Z:FZ] {P:Program} {cf:gV P} {s:TS} {R:Exit→TS→Prop}
def yM (cf:gV P) (s:TS) (R:Exit→TS→Prop) (K:TV→TS→aI) (Kp:pU Prop):Prop:=
 ∀v s' (Z':FZ),(K v s').den R→ @Fits Z' s'→s'.tT cf.n=s.tT cf.n→Kp v.bk s'.b8 (@TS.aj Z' cf.n s').H
variable {K:TV→TS→aI} {Kp:AV→List (Nat×List AV)→List Blk→Prop}
theorem am6 (ag:cf.n≤1000000) {t:TypeId} {b g m c:Nat} {i:Int} {v:TV} {K:TS→aI} {Kp:List (Nat×List AV)→List Blk→Prop} (aB:Fits s) (hK: ∀s' (Z':FZ),(K s').den R→ @Fits Z' s'→s'.tT cf.n=s.tT cf.n→Kp s'.b8 (@TS.aj Z' cf.n s').H) (h:(O7 P cf.n t b g i m c v s K).den R):
  eM (eL v.bk) (mM P t (.ptr b g i.toNat c) v.bk (s.aj cf.n).L (s.aj cf.n).H Kp):=by
 unfold O7 at h
 split at h
 ·exact h.elim
 ·rename_i hv
  obtain⟨e,xs,fh,hm,h,hb,av⟩:=yV (n:=cf.n) h
  obtain⟨qI,o,h,_⟩:=EP aB (n:=cf.n) h
  obtain⟨h1,h2,au,a8,bQ,cv,h⟩:=h
  refine GN (GH hv) ?_
  have aQ:i.toNat<xs.length:=by omega
  have hs:=HI h2
  unfold mM
  rw[if_pos hs]
  refine ec av ⟨rfl,ec (Mi aQ true) ⟨?_,?_⟩⟩
  ·rw[wN];exact Nat.le_of_ble_eq_true au
  ·have:=hK _ Z h (rW aB) (rV ag)
   rw[yU hb,bQ] at this
   rw[a8]
   have aW: ∀y:e.T,(xs.map (cu true e)).set i.toNat (cu true e y)=(xs.set i.toNat y).map (cu true e):=fun y=>by rw[List.map_set]
   rw[aW];exact this
theorem aju (ag:cf.n≤1000000) (aB:Fits s) {t:TypeId} {e:bg} {l c:TV} (hK:yM cf s R K Kp) (h:(Me P cf.n t e l c s K).den R):Ac P t l.bk c.bk (s.aj cf.n).L (s.aj cf.n).H Kp:=by
 unfold Me at h
 split at h
 ·split at h
  ·obtain⟨h1,h2,au,cO,a8,h⟩:=h
   rename_i Gw z7 l p6 ahD c
   subst h2
   obtain⟨o9,z,q1,q2,q3,q4,cs,cD⟩:=VZ h1
   refine ec q1 (ec q2 ?_)
   rw[if_pos ⟨q3,q4⟩]
   refine⟨a8.1,Int.le_refl _,by rw[←cD];exact a8.2.1,a8.2.2,?_⟩
   have:=hK _ _ Z h (rW aB) (rV ag)
   rw[EH cO,au] at this
   rw[HK cO,←cs]
   have aB:z.length=e.mA:=by
    have:=congrArg List.length cs
    rw[List.length_map,wN] at this;exact this.symm
   rw[aB]
   have aw: ∀aM:e.T,(List.replicate l.toNat aM).length=l.toNat:=fun aM=>List.length_replicate
   show Kp (.ref s.a_ 0 0 l.toNat false) _ ((s.aj cf.n).H++[⟨0,e.mA,List.replicate l.toNat (cu true e _)⟩])
   rw[←List.map_replicate]
   have this:Kp (.ref s.a_ 0 0 (List.replicate l.toNat _).length false) (s.aj cf.n).L ((s.aj cf.n).H++[⟨0,e.mA,(List.replicate l.toNat _).map (cu true e)⟩]):=this
   rw[aw] at this
   exact this
  ·exact h.elim
 ·exact h.elim
theorem aa7 (ag:cf.n≤1000000) (aB:Fits s) {t t2:TypeId} {v x:TV} (hK:yM cf s R K Kp) (h:(Ih P cf.n t t2 v x s K).den R):eL v.bk=true∧eL x.bk=true∧wF P t t2 v.bk x.bk (s.aj cf.n).L (s.aj cf.n).H Kp:=by
 unfold Ih at h
 split at h
 ·rename_i e ys jV fr
  split at h
  ·exact h.elim
  ·rename_i hc
   simp only[Bool.and_eq_true] at hc
   have eH: ∀(iL:List e.T) (k:Nat),e.mA=k→sK k (iL.map (cu true e)):=fun iL k hk row ao=>by
    obtain⟨y,_,rfl⟩:=List.mem_map.1 ao
    refine⟨by rw[wN,hk],fun a aG=>List.all_eq_true.1 (acS (fr:=true) hc.2 y) a aG⟩
   have dD: ∀{o9},jp P t=some o9→r0 P t=P.bytesOf o9:=fun h=>by unfold r0;rw[h]
   split at h
   ·split at h
    ·rename_i full an8
     obtain⟨h1,h2,cO,au,h⟩:=h
     obtain⟨o9,z,q1,q2,q3,q4,cs⟩:=P5 h1
     refine⟨rfl,rfl,ec q1 (ec q2 ?_)⟩
     rw[if_pos q3]
     show _∧_
     have hx:l2 fr (List.map (cu false e) ys)=ys.map (cu true e):=Xk hc.1 ys
     rw[hx]
     refine⟨eH ys _ q4,rfl,(fun row h=>by cases h),?_,?_,(fun h=>absurd rfl h),?_⟩
     ·rw[List.length_map,←dD q1];simpa using au.1
     ·rw[List.length_map];simpa using au.2
     ·have:=hK _ _ Z h (rW aB) (rV ag)
      rw[EH cO,h2] at this
      rw[HK cO,←q4,List.length_map]
      simp only[List.length_nil,Nat.zero_add,List.nil_append]
      exact this
    ·exact h.elim
   ·rename_i b g m dK
    obtain⟨cA,xs,fh,hm,h,hb,av⟩:=yV (n:=cf.n) h
    split at h
    ·rename_i he
     subst he
     obtain⟨h1,h2,au,a8,wS⟩:=h
     subst h1
     obtain⟨o9,z,q1,q2,q3,q4,cs⟩:=P5 h2
     refine⟨rfl,rfl,ec q1 (ec q2 ?_)⟩
     rw[if_pos q3]
     show _∧_
     have hx:l2 fr (List.map (cu false e) ys)=ys.map (cu true e):=Xk hc.1 ys
     rw[hx]
     refine⟨eH ys _ q4,rfl,ec av ⟨rfl,q4,by rw[List.length_map];exact hm,?_,?_,?_⟩⟩
     ·rw[List.length_map,←hm,←dD q1];exact a8.1
     ·rw[List.length_map,←hm];exact a8.2
     ·have:=hK _ _ Z wS (rW aB) (rV ag)
      rw[yU hb,au] at this
      rw[←q4,List.length_map,←hm,←List.map_append,←List.length_append]
      exact this
    ·exact h.elim
   ·exact h.elim
 ·exact h.elim
theorem JA (ag:cf.n≤1000000) (aB:Fits s) {o:Oper} {v:TV} {l:List (Nat×TV)} {vs:List (Nat×Nat)} (hK:yM cf s R K Kp) (h:(Ca cf s o v l vs K).den R):kt P [] o (b6 (s.aj cf.n).T) (s.aj cf.n).L (s.aj cf.n).H Kp:=by
 unfold Ca at h
 split at h
 ·rename_i hb
  obtain⟨e,h⟩:=h
  rw[lu,show(fun x=>(cr cf.n s x).bk)=(fun x=>(cr cf.n s x).bk) from rfl]
  have e:=congrFun (congrFun e (s.aj cf.n).H) Kp
  have e:kt P [] o (fun x=>(cr cf.n s x).bk) (s.aj cf.n).L (s.aj cf.n).H Kp=_:=e
  rw[e]
  have:=hK _ _ Z h (BN hb aB) (BM ag hb)
  rw[BL hb] at this;exact this
 ·exact h.elim
end
def LO:TV→Bool
 | .kO _ _ _=>true
 | _=>false
theorem abm {Z Z':FZ} {v:TV} (h:LO v=false): @TV.eh Z' v= @TV.eh Z v:=by cases v<;>first | rfl | cases h
def De (s:TS) (b:Nat):Nat→Bool
 | 0=>true
 | k+1=>(Nat.beq k b || !LO (s.get (bw k)))&&De s b k
theorem Wn {s:TS} {b:Nat}: ∀{n:Nat},De s b n=true→ ∀k,k<n→k≠b→LO (s.get (bw k))=false
 | 0,_,k,h,_=>by omega
 | n+1,h,k,hk,bU=>by
  simp only[De,Bool.and_eq_true,Bool.or_eq_true,Bool.not_eq_true'] at h
  rcases Nat.lt_or_ge k n with q | q
  ·exact Wn h.2 k q bU
  ·have:k=n:=by omega
   subst this
   rcases h.1 with e | e
   ·exact absurd (Nat.eq_of_beq_eq_true e) bU
   ·exact e
theorem anz {Z Z':FZ} {n:Nat} {s s':TS} {b g m:Nat} {ids:List Nat} {V PQ:List aq} {af5:List Nat} {bB Wh:Nat} {hv:V.length=bB} {jW:PQ.length=Wh} (hb:b<s.a_) (zv:s'.a_=s.a_) (he: ∀k,k≠b→s'.get (bw k)=s.get (bw k)) (ax:s'.get (bw b)= .kO g m ids) (hw:De s b s.a_=true)
  (h1:s.get dy= .gM V af5 bB hv) (h2:s'.get dy= .gM PQ ids Wh jW):(@TS.aj Z' n s').H=(@TS.gw Z s).set b ⟨g,5,aR m Z'.ws ids⟩++List.map bh Z'.bs:=by
 rw[th h2]
 congr 1
 apply List.ext_getElem?
 intro i
 rw[@rH Z' s' i,List.getElem?_set,@rH Z s i,@oi Z s,zv]
 by_cases hi:b=i
 ·subst hi;rw[if_pos hb,if_pos rfl,if_pos hb,ax];rfl
 ·rw[if_neg hi,he i (fun e=>hi e.symm)]
  by_cases h:i<s.a_
  ·rw[if_pos h,if_pos h,abm (Z:=Z) (Wn hw i h (fun e=>hi e.symm))]
  ·rw[if_neg h,if_neg h]
theorem D3 {n:Nat} {s:TS} {l:List (Nat×TV)} (ag:n≤1000000) (h: ∀p∈l,1000000≤p.1):(s.add l s.vs s.a_).tT n=s.tT n:=by
 show(List.range n).map _=(List.range n).map _
 refine List.map_congr_left fun t a6=> ?_
 have a6:t<n:=List.mem_range.1 a6
 rw[TS.jd,vq fun v hv=>by have:=h _ hv;simp only at this;omega]
def Na (c:Nat) (v:TV) (h:aq) (K:aq→aI):aI:=match v with
 | .i k x=>if k= .i64 then(match c with
  | 0=>K {h with ar:=x}
  | 1=>K {h with a7:=x}
  | 4=>K {h with bG:=x}
  | _=> .no) else .no
 | .b x=>(match c with
  | 3=>K {h with bI:=x.den}
  | _=> .no)
 | _=> .no
theorem XN {c:Nat} {v:TV} {w:aq} {b:List Bool} {K:aq→aI} {R:Exit→TS→Prop} (h:(Na c v {w with ah:=b} K).den R):
  ∃x:aq,x.ah=w.ah∧(K {x with ah:=b}).den R∧(∀m id,fe (kv m w id) c (e7 v.bk)=kv m x id)∧c+(e7 v.bk).length≤5:=by
 unfold Na at h
 split at h
 ·rename_i k x
  split at h
  ·rename_i hk
   subst hk
   split at h
   ·exact⟨{w with ar:=x},rfl,h,fun m id=>rfl,(show(0+1:Nat)≤5 by decide)⟩
   ·exact⟨{w with a7:=x},rfl,h,fun m id=>rfl,(show(1+1:Nat)≤5 by decide)⟩
   ·exact⟨{w with bG:=x},rfl,h,fun m id=>rfl,(show(4+1:Nat)≤5 by decide)⟩
   ·exact h.elim
  ·exact h.elim
 ·rename_i x
  split at h
  ·exact⟨{w with bI:=x.den},rfl,h,fun m id=>rfl,(show(3+1:Nat)≤5 by decide)⟩
  ·exact h.elim
 ·exact h.elim
theorem fP.aiR {ws:List aq} {ids:List Nat} {bs:List (List Bool)} (G:fP ws ids bs) {i id:Nat} {x:aq} (hi:i<ws.length) (h1:id<bs.length) (h2:bs.getD id []=x.ah) (au: ∀j:Nat,ids[j]?≠some id):
  fP (ws.set i x) (ids.set i id) bs∧view (ws.set i x) (ids.set i id) bs=(view ws ids bs).set i x:=by
 have aw:=G.ok.len
 refine⟨⟨⟨by rw[List.length_set,List.length_set];exact aw,fun j k hk=> ?_,fun j k h aG hk=> ?_⟩,fun a b k aG hb=> ?_,G.len⟩,?_⟩
 ·rw[List.getElem?_set] at hk
  split at hk
  ·split at hk
   ·cases hk;exact h1
   ·cases hk
  ·exact G.ok.lt j k hk
 ·rw[List.getElem?_set] at aG hk
  split at aG
  ·rename_i e;subst e
   rw[if_pos rfl,if_pos (by omega)] at hk
   cases aG;cases hk;rw[h2]
  ·rename_i e
   rw[if_neg e] at hk
   exact G.ok.ah j k h aG hk
 ·rw[List.getElem?_set] at aG hb
  split at aG
  ·split at aG
   ·cases aG
    split at hb
    ·rename_i aW _ e2;omega
    ·exact absurd hb (au b)
   ·cases aG
  ·split at hb
   ·split at hb
    ·cases hb;exact absurd aG (au a)
    ·cases hb
   ·exact G.kF a b k aG hb
 ·apply List.ext_getElem?
  intro j
  unfold view
  rw[List.getElem?_zipWith,List.getElem?_set,List.getElem?_set,List.getElem?_set,List.getElem?_zipWith,List.length_zipWith]
  by_cases e:i=j
  ·subst e
   rw[if_pos rfl,if_pos rfl,if_pos rfl,if_pos hi,if_pos (by omega),if_pos (by omega)]
   show some ({x with ah:=bs.getD id []}:aq)=some x
   rw[h2]
  ·rw[if_neg e,if_neg e,if_neg e]
theorem fP.snoc {ws:List aq} {ids:List Nat} {bs:List (List Bool)} (G:fP ws ids bs) {xs:List Bool} (hx:xs.length≤1048576):fP ws ids (bs++[xs])∧view ws ids (bs++[xs])=view ws ids bs:=by
 have ax: ∀id,id<bs.length→(bs++[xs]).getD id []=bs.getD id []:=fun id h=>by
  rw[List.getD_eq_getElem?_getD,List.getD_eq_getElem?_getD,List.getElem?_append_left h]
 refine⟨⟨⟨G.ok.len,fun i id h=>by have:=G.ok.lt i id h;rw[List.length_append];omega,fun i id h h1 h2=>by rw[ax id (G.ok.lt i id h2)];exact G.ok.ah i id h h1 h2⟩,G.kF,fun b hb=> ?_⟩,?_⟩
 ·rcases List.mem_append.1 hb with hb | hb
  ·exact G.len b hb
  ·rw[List.mem_singleton.1 hb];exact hx
 ·apply List.ext_getElem?
  intro j
  unfold view
  rw[List.getElem?_zipWith,List.getElem?_zipWith]
  cases h1:ws[j]? with
  | none=>rfl
  | some w=>
   cases h2:ids[j]? with
   | none=>rfl
   | some id=>simp only[ax id (G.ok.lt j id h2)]
def Pa (P:Program) (t:TypeId) (b g:Nat) (i:Int) (c:Nat) (v:TV) (s:TS) (dq hE:Nat) (ids:List Nat) (K:TS→aI):aI:=match s.get dy with
 | .gM V cR bB hv=> .eq dq g (.eq cR ids (.eq (Nat.blt b s.a_&&De s b s.a_&&yi P t v.bk) true (match v with
  | .agg l=>(match l with
   | [.i dk aj,.i gb go,.Dc id m k,.b e5,.i mz oj]=>(match s.get fS with
    | .new fE xs=>
     let s':=s.add [(dy,.gM (V.set i.toNat (aq.mk aj go xs e5.den oj)) (ids.set i.toNat id) bB ((List.length_set ..).trans hv)),(bw b,.kO g hE (ids.set i.toNat id)),(fS,.u)] s.vs s.a_
     .eq c 0 (.eq (dk,gb,mz) (IntKind.i64,IntKind.i64,IntKind.i64) (.eq fE id (.eq m hE (.eq k xs.length (.eq s'.b8 s.b8 (.p (i.toNat<V.length) (K s')))))))
    | _=> .no)
   | _=> .no)
  | v=>Na c v (nth V i) fun y=>
   let s':=s.add [(dy,.gM (V.set i.toNat y) ids bB ((List.length_set ..).trans hv))] s.vs s.a_
   .eq s'.b8 s.b8 (.p (i.toNat<V.length) (K s')))))
 | _=> .no
section
variable [Z:FZ] {P:Program} {cf:gV P} {s:TS} {R:Exit→TS→Prop}
theorem anj (ag:cf.n≤1000000) {t:TypeId} {b g c dq hE:Nat} {ids:List Nat} {i:Int} {v:TV} {K:TS→aI} {Kp:List (Nat×List AV)→List Blk→Prop} (aB:Fits s) (ax:s.get (bw b)= .kO dq hE ids)
  (hK: ∀s' (Z':FZ),(K s').den R→ @Fits Z' s'→s'.tT cf.n=s.tT cf.n→Kp s'.b8 (@TS.aj Z' cf.n s').H) (h:(Pa P t b g i c v s dq hE ids K).den R):
  mM P t (.ptr b g i.toNat c) v.bk (s.aj cf.n).L (s.aj cf.n).H Kp:=by
 unfold Pa at h
 split at h
 ·rename_i V cR bB kZ hk
  obtain⟨h1,h2,au,h⟩:=h
  subst h1;subst h2
  simp only[Bool.and_eq_true] at au
  obtain⟨⟨hb,hw⟩,aS⟩:=au
  have hb:b<s.a_:=by rw[←Nat.blt_eq];exact hb
  obtain⟨G,e,jh⟩:=aB V cR _ _ hk
  have hs:=HI aS
  have oG:=i_ G.ok
  rw[e] at oG
  have av:(s.aj cf.n).H[b]?=some ⟨dq,5,aR hE Z.ws cR⟩:=by rw[uw hb,ax];rfl
  have aex:(s.aj cf.n).H=s.gw++List.map bh Z.bs:=th hk
  unfold mM
  rw[if_pos hs]
  have fin: ∀{s':TS} {ws2:List aq} {ids2:List Nat} {V2:List aq} {n2:Nat} {hv2:V2.length=n2} {cells row':List AV},i.toNat<V.length→c+cells.length≤5→fe (kv hE (nth Z.ws i) (nth cR i)) c cells=row'→(aR hE Z.ws cR).set i.toNat row'=aR hE ws2 ids2→s'.a_=s.a_→(∀k,k≠b→s'.get (bw k)=s.get (bw k))→s'.get (bw b)= .kO dq hE ids2→s'.get dy= .gM V2 ids2 n2 hv2→
    s'.b8=s.b8→(K s').den R→ @Fits ⟨ws2,Z.bs⟩ s'→s'.tT cf.n=s.tT cf.n→(cC (s.aj cf.n).H[b]? fun blk=>blk.bf=dq∧cC blk.rows[i.toNat]? fun row=>c+cells.length≤row.length∧Kp (s.aj cf.n).L ((s.aj cf.n).H.set b {blk with rows:=blk.rows.set i.toNat (fe row c cells)})):=by
   intro s' ws2 ids2 V2 n2 hv2 cells row' hi hc xb ln zv kY nQ FH bC aez hf b7
   refine ec av ⟨rfl,ec (dx G.ok.len (by omega)) ⟨hc,?_⟩⟩
   have:=hK s' ⟨ws2,Z.bs⟩ aez hf b7
   rw[bC,anz (Z:=Z) (Z':=⟨ws2,Z.bs⟩) hb zv kY nQ hw hk FH] at this
   rw[aex,List.set_append_left _ _ (by rw[oi];exact hb),xb]
   show Kp s.b8 (s.gw.set b ⟨dq,5,(aR hE Z.ws cR).set i.toNat row'⟩++_)
   rw[ln];exact this
  split at h
  ·split at h
   ·rename_i dk aj gb go id m k e5 mz oj
    split at h
    ·rename_i fE xs zw
     obtain⟨h1,h2,a8,bQ,cv,gO,tp,h⟩:=h
     subst h1;subst a8;subst bQ;subst cv
     cases h2
     obtain⟨gf,n2,pF⟩:=jh _ _ zw
     obtain⟨pc,cA⟩:=G.aiR (i:=i.toNat) (id:=fE) (x:=aq.mk aj go xs e5.den oj) (by omega) gf n2 pF
     refine fin (s':=s.add [(dy,.gM (V.set i.toNat (aq.mk aj go xs e5.den oj)) (cR.set i.toNat fE) bB ((List.length_set ..).trans kZ)),(bw b,.kO dq m (cR.set i.toNat fE)),(fS,.u)] s.vs s.a_) (ws2:=Z.ws.set i.toNat (aq.mk aj go xs e5.den oj)) (V2:=V.set i.toNat (aq.mk aj go xs e5.den oj)) (n2:=bB) (hv2:=(List.length_set ..).trans kZ) (ids2:=cR.set i.toNat fE) (row':=kv m (aq.mk aj go xs e5.den oj) fE) tp (Nat.le_refl 5) ?_ (zl G.ok.len) rfl (fun k hk=> ?_) ?_ ?_ gO h ?_ (D3 ag ?_)
     ·rfl
     ·rw[TS.jd,hl,if_neg (by unfold dy bw;omega),hl,if_neg (by unfold bw;omega),hl,if_neg (by unfold fS bw;omega)];rfl
     ·rw[TS.jd,hl,if_neg (by unfold dy bw;omega),hl,if_pos rfl]
     ·rw[TS.jd,hl,if_pos rfl]
     ·intro V3 F5 pF FQ au
      rw[TS.jd,hl,if_pos rfl] at au
      cases au
      refine⟨pc,by rw[←e];exact cA,fun id xs hx=> ?_⟩
      rw[TS.jd,hl,if_neg (by unfold dy fS;omega),hl,if_neg (by unfold bw fS;omega),hl,if_pos rfl] at hx
      cases hx
     ·intro p ae
      simp only[List.mem_cons,List.not_mem_nil,or_false] at ae
      rcases ae with rfl | rfl | rfl
      ·exact Nat.le_refl _
      ·show 1000000≤bw b;unfold bw;omega
      ·show 1000000≤fS;unfold fS;omega
    ·exact h.elim
   ·exact h.elim
  ·have FD:i.toNat<V.length∨ ¬i.toNat<V.length:=by omega
   by_cases hi:i.toNat<V.length
   ·have hv:=HX G.ok (i:=i) (by rw[e];exact hi)
    rw[e] at hv
    rw[hv] at h
    obtain⟨x,aL,h,bO,aai⟩:=XN h
    obtain⟨gO,tp,h⟩:=h
    have F:=(G.at' (j:=i) (by omega)).sL x (by rw[aL];have:=(G.at' (j:=i) (by omega)).rU;exact this)
    have gm:(nth (view Z.ws cR Z.bs) i).ah=Z.bs.getD (nth cR i) []:=by rw[e,hv]
    rw[gm,e] at F
    refine fin (s':=s.add [(dy,.gM (V.set i.toNat {x with ah:=Z.bs.getD (nth cR i) []}) cR bB ((List.length_set ..).trans kZ))] s.vs s.a_) (ws2:=Z.ws.set i.toNat x) (ids2:=cR) (V2:=V.set i.toNat {x with ah:=Z.bs.getD (nth cR i) []}) (n2:=bB) (hv2:=(List.length_set ..).trans kZ) tp aai (bO hE (nth cR i)) (kw G.ok.len (by omega)) rfl (fun k hk=> ?_) ?_ ?_ gO h ?_ (D3 ag ?_)
    ·rw[TS.jd,hl,if_neg (by unfold dy bw;omega)];rfl
    ·rw[TS.jd,hl,if_neg (by unfold dy bw;omega)];exact ax
    ·rw[TS.jd,hl,if_pos rfl]
    ·intro V3 F5 pF FQ au
     rw[TS.jd,hl,if_pos rfl] at au
     cases au
     refine⟨F.G,F.ht,fun id xs hx=> ?_⟩
     rw[TS.jd,hl,if_neg (by unfold dy fS;omega)] at hx
     exact jh id xs hx
    ·intro p ae
     rw[List.mem_singleton.1 ae];exact Nat.le_refl _
   ·obtain⟨x,aL,h,_⟩:=XN (w:=nth V i) (b:=(nth V i).ah) h
    exact absurd h.2.1 hi
 ·exact h.elim
def D5 (P:Program) (t:TypeId) (w:Int) (ids:List Nat) (m:Nat) (j:Int) (v:TV) (s:TS) (K:TS→aI):aI:=match s.get dy with
 | .gM V cR bB hv=> .eq cR ids (.eq m s.a_ (.eq (yi P t v.bk) true (match v with
  | .b x=>
   let s':=s.add [(dy,.gM (V.set w.toNat {nth V w with ah:=(nth V w).ah.set j.toNat x.den}) ids bB ((List.length_set ..).trans hv))] s.vs s.a_
   .eq s'.b8 s.b8 (.p (w.toNat<V.length∧j.toNat<(nth V w).ah.length) (K s'))
  | _=> .no)))
 | _=> .no
theorem ane (ag:cf.n≤1000000) {t:TypeId} {m:Nat} {ids:List Nat} {w j:Int} {v:TV} {K:TS→aI} {Kp:List (Nat×List AV)→List Blk→Prop} (aB:Fits s)
  (hK: ∀s' (Z':FZ),(K s').den R→ @Fits Z' s'→s'.tT cf.n=s.tT cf.n→Kp s'.b8 (@TS.aj Z' cf.n s').H) (h:(D5 P t w ids m j v s K).den R):
  mM P t (.ptr (nth ids w+m) 0 j.toNat 0) v.bk (s.aj cf.n).L (s.aj cf.n).H Kp:=by
 unfold D5 at h
 split at h
 ·rename_i V cR bB kZ hk
  obtain⟨h1,h2,au,h⟩:=h
  subst h1;subst h2
  have hs:=HI au
  unfold mM
  rw[if_pos hs]
  split at h
  ·rename_i x
   obtain⟨a8,bQ,h⟩:=h
   obtain⟨G,e,jh⟩:=aB V cR _ _ hk
   have oG:=i_ G.ok
   rw[e] at oG
   have hv:=HX G.ok (i:=w) (by rw[e];exact bQ.1)
   rw[e] at hv
   have dd:=G.at' (j:=w) (by omega)
   have F:=dd.M_ ((nth V w).ah.set j.toNat x.den) (by rw[List.length_set,e])
   rw[e] at F
   have hid:=G.ok.lt w.toNat _ (fM (xs:=cR) (i:=w) (by have:=G.ok.len;omega))
   refine ec (Jf aB hk bQ.1) ⟨rfl,ec (BV bQ.2) ⟨Nat.le_refl 1,?_⟩⟩
   have b7:=D3 (n:=cf.n) (s:=s) (l:=[(dy,TV.gM (V.set w.toNat {nth V w with ah:=(nth V w).ah.set j.toNat x.den}) cR bB ((List.length_set ..).trans kZ))]) ag (fun p ae=>by rw[List.mem_singleton.1 ae];exact Nat.le_refl _)
   have px: @Fits ⟨Z.ws,Z.bs.set (nth cR w) ((nth V w).ah.set j.toNat x.den)⟩ (s.add [(dy,TV.gM (V.set w.toNat {nth V w with ah:=(nth V w).ah.set j.toNat x.den}) cR bB ((List.length_set ..).trans kZ))] s.vs s.a_):=by
    intro V3 F5 pF FQ au
    rw[TS.jd,hl,if_pos rfl] at au
    cases au
    refine⟨F.G,F.ht,fun id xs hx=> ?_⟩
    rw[TS.jd,hl,if_neg (by unfold dy fS;omega)] at hx
    obtain⟨gf,n2,pF⟩:=jh id xs hx
    refine⟨by show id<(Z.bs.set (nth cR w) ((nth V w).ah.set j.toNat x.den)).length;rw[List.length_set];exact gf,?_,pF⟩
    show(Z.bs.set (nth cR w) ((nth V w).ah.set j.toNat x.den)).getD id []=xs
    have bU:nth cR w≠id:=fun q=>pF w.toNat (by rw[fM (xs:=cR) (i:=w) (by have:=G.ok.len;omega),q])
    rw[List.getD_eq_getElem?_getD,List.getElem?_set,if_neg bU,←List.getD_eq_getElem?_getD];exact n2
   have:=hK _ ⟨Z.ws,Z.bs.set (nth cR w) ((nth V w).ah.set j.toNat x.den)⟩ h px b7
   rw[a8] at this
   have Fu:(s.aj cf.n).H=s.gw++List.map bh Z.bs:=th hk
   have ic: ∀Z':FZ,Z'.ws=Z.ws→ @TS.gw Z' (s.add [(dy,TV.gM (V.set w.toNat {nth V w with ah:=(nth V w).ah.set j.toNat x.den}) cR bB ((List.length_set ..).trans kZ))] s.vs s.a_)= @TS.gw Z s:=fun Z' hw=>by
    show(List.range s.a_).map _=(List.range s.a_).map _
    refine List.map_congr_left fun b _=> ?_
    rw[TS.jd,hl,if_neg (by unfold dy bw;omega)]
    show @TV.eh Z' (s.get (bw b))= @TV.eh Z (s.get (bw b))
    cases s.get (bw b)<;>first | rfl | (simp only[TV.eh,hw])
   have JE:= @th ⟨Z.ws,Z.bs.set (nth cR w) ((nth V w).ah.set j.toNat x.den)⟩ cf.n (s.add [(dy,TV.gM (V.set w.toNat {nth V w with ah:=(nth V w).ah.set j.toNat x.den}) cR bB ((List.length_set ..).trans kZ))] s.vs s.a_) (V.set w.toNat {nth V w with ah:=(nth V w).ah.set j.toNat x.den}) cR bB ((List.length_set ..).trans kZ) (by rw[TS.jd,hl,if_pos rfl])
   rw[JE,ic ⟨Z.ws,Z.bs.set (nth cR w) ((nth V w).ah.set j.toNat x.den)⟩ rfl] at this
   rw[Fu,List.set_append_right _ _ (by rw[oi];omega),oi,Nat.add_sub_cancel]
   have hO:({bh (nth V w).ah with rows:=(bh (nth V w).ah).rows.set j.toNat (fe (aP (nth (nth V w).ah j)) 0 (e7 (TV.b x).bk))}:Blk)=bh ((nth V w).ah.set j.toNat x.den):=by
    show(⟨0,1,(List.map aP (nth V w).ah).set j.toNat (aP x.den)⟩:Blk)=⟨0,1,_⟩
    rw[Ir]
   show Kp s.b8 (s.gw++(List.map bh Z.bs).set (nth cR w) {bh (nth V w).ah with rows:=(bh (nth V w).ah).rows.set j.toNat (fe (aP (nth (nth V w).ah j)) 0 (e7 (TV.b x).bk))})
   rw[hO,Jg]
   exact this
  ·exact h.elim
 ·exact h.elim
def Md (P:Program) (t:TypeId) (l c:TV) (s:TS) (K:TV→TS→aI):aI:=match l with
 | .i _ l=>(match c with
  | .i _ c=>(match s.get dy with
   | .gM V ids _ _=> .all Nat fun id=>
    let s':=s.add [(fS,.new id (List.replicate l.toNat false))] s.vs s.a_
    .eq (Gz P t) (some ([AV.bool false],r0 P t)) (.eq l c (.eq s'.b8 s.b8 (.p (0≤l∧(r0 P t:Int)*l≤140737488355328∧l≤1048576) (K (.Dc id s.a_ (List.replicate l.toNat false).length) s'))))
   | _=> .no)
  | _=> .no)
 | _=> .no
theorem ajs (ag:cf.n≤1000000) (aB:Fits s) {t:TypeId} {l c:TV} {K:TV→TS→aI} {Kp:AV→List (Nat×List AV)→List Blk→Prop} (hK:yM cf s R K Kp) (h:(Md P t l c s K).den R):Ac P t l.bk c.bk (s.aj cf.n).L (s.aj cf.n).H Kp:=by
 unfold Md at h
 split at h
 ·split at h
  ·split at h
   ·rename_i Gw z7 l p6 ahD c aoE V ids bB kZ hk
    obtain⟨h1,h2,au,a8,bz⟩:=h Z.bs.length
    subst h2
    obtain⟨o9,z,q1,q2,q3,q4,cs,cD⟩:=VZ h1
    refine ec q1 (ec q2 ?_)
    rw[if_pos ⟨q3,q4⟩]
    refine⟨a8.1,Int.le_refl _,by rw[←cD];exact a8.2.1,by have:=a8.2.2;omega,?_⟩
    obtain⟨G,e,jh⟩:=aB V ids _ _ hk
    have rc:(List.replicate l.toNat false).length≤1048576:=by rw[List.length_replicate];have:=a8.2.2;omega
    obtain⟨pc,cA⟩:=G.snoc rc
    have b7:=D3 (n:=cf.n) (s:=s) (l:=[(fS,TV.new Z.bs.length (List.replicate l.toNat false))]) ag (fun p ae=>by rw[List.mem_singleton.1 ae];show 1000000≤fS;unfold fS;omega)
    have Sv:(s.add [(fS,TV.new Z.bs.length (List.replicate l.toNat false))] s.vs s.a_).get dy= .gM V ids bB kZ:=by rw[TS.jd,hl,if_neg (by unfold dy fS;omega)];exact hk
    have px: @Fits ⟨Z.ws,Z.bs++[List.replicate l.toNat false]⟩ (s.add [(fS,TV.new Z.bs.length (List.replicate l.toNat false))] s.vs s.a_):=by
     intro V3 F5 pF FQ au
     rw[Sv] at au
     cases au
     refine⟨pc,cA.trans e,fun id xs hx=> ?_⟩
     rw[TS.jd,hl,if_pos rfl] at hx
     cases hx
     refine⟨by show Z.bs.length<(Z.bs++[List.replicate l.toNat false]).length;rw[List.length_append];simp,by show(Z.bs++[List.replicate l.toNat false]).getD Z.bs.length []=_;rw[List.getD_eq_getElem?_getD,List.getElem?_append_right (Nat.le_refl _)];simp,fun j al=> ?_⟩
     have:=G.ok.lt j _ al;omega
    have:=hK _ _ ⟨Z.ws,Z.bs++[List.replicate l.toNat false]⟩ bz px b7
    rw[au] at this
    have Fu:(s.aj cf.n).H=s.gw++List.map bh Z.bs:=th hk
    have JE:= @th ⟨Z.ws,Z.bs++[List.replicate l.toNat false]⟩ cf.n _ V ids bB kZ Sv
    have ic: @TS.gw ⟨Z.ws,Z.bs++[List.replicate l.toNat false]⟩ (s.add [(fS,TV.new Z.bs.length (List.replicate l.toNat false))] s.vs s.a_)= @TS.gw Z s:=by
     show(List.range s.a_).map _=(List.range s.a_).map _
     refine List.map_congr_left fun b _=> ?_
     rw[TS.jd,hl,if_neg (by unfold fS bw;omega)]
     show @TV.eh _ (s.get (bw b))= @TV.eh Z (s.get (bw b))
     cases s.get (bw b)<;>rfl
    rw[JE,ic] at this
    have hlen:(s.aj cf.n).H.length=Z.bs.length+s.a_:=by rw[Fu,List.length_append,oi,List.length_map];omega
    have nb:z.length=1:=by have:=congrArg List.length cs;simpa using this.symm
    rw[hlen,nb,←cs,Fu]
    show Kp (.ref (Z.bs.length+s.a_) 0 0 l.toNat false) s.b8 (s.gw++List.map bh Z.bs++[⟨0,1,List.replicate l.toNat [AV.bool false]⟩])
    rw[show List.replicate l.toNat [AV.bool false]=List.map aP (List.replicate l.toNat false) by rw[List.map_replicate];rfl,List.append_assoc,ti]
    have acJ:(List.replicate l.toNat false).length=l.toNat:=List.length_replicate
    rw[acJ] at this
    exact this
   ·exact h.elim
  ·exact h.elim
 ·exact h.elim
def ZO (P:Program) (t:TypeId) (b g:Nat) (i:Int) (c:Nat) (v:TV) (s:TS) (dq:Nat) (ay:List TV) (K:TS→aI):aI:=
 let b4:=ay.take c++rY v++ay.drop (c+(rY v).length)
 let s':=s.gJ b s.a_ (.fc g b4)
 .eq dq g (.eq i 0 (.eq (Nat.blt b s.a_&&Ai v&&yi P t v.bk&&Nat.ble (c+(e7 v.bk).length) ay.length) true (.eq (fe (cz ay) c (e7 v.bk)) (cz b4) (.eq b4.length ay.length (.eq s'.b8 s.b8 (K s'))))))
theorem anh (ag:cf.n≤1000000) {t:TypeId} {b g c dq:Nat} {ay:List TV} {i:Int} {v:TV} {K:TS→aI} {Kp:List (Nat×List AV)→List Blk→Prop} (aB:Fits s) (ax:s.get (bw b)= .fc dq ay)
  (hK: ∀s' (Z':FZ),(K s').den R→ @Fits Z' s'→s'.tT cf.n=s.tT cf.n→Kp s'.b8 (@TS.aj Z' cf.n s').H) (h:(ZO P t b g i c v s dq ay K).den R):
  mM P t (.ptr b g i.toNat c) v.bk (s.aj cf.n).L (s.aj cf.n).H Kp:=by
 obtain⟨h1,h2,au,a8,bQ,cv,h⟩:=h
 subst h1;subst h2
 simp only[Bool.and_eq_true] at au
 obtain⟨⟨⟨hb,_⟩,aS⟩,hle⟩:=au
 have hb:b<s.a_:=by rw[←Nat.blt_eq];exact hb
 have hs:=HI aS
 unfold mM
 rw[if_pos hs]
 refine ec (by rw[uw hb,ax]) ⟨rfl,ec (a:=cz ay) rfl ⟨by rw[pi,List.length_map];exact Nat.le_of_ble_eq_true hle,?_⟩⟩
 have:=hK _ Z h (rW aB) (rV ag)
 rw[yU hb,cv] at this
 show Kp s.b8 ((s.aj cf.n).H.set b ⟨dq,ay.length,[fe (cz ay) c (e7 v.bk)]⟩)
 rw[a8,←bQ]
 exact this
end
inductive pe where
 | v (e:bg)
 | fr
 | w
def pe.es:List pe→List bg
 | []=>[]
 | .v e::r=>e::pe.es r
 | .fr::r=>pe.es r
 | .w::r=> .int::pe.es r
def B2 (ax:Nat):(l:List pe)→ck (pe.es l)→List AV
 | [],_=>[]
 | .v e::r,x=>pr e x.1::B2 ax r x.2
 | .fr::r,x=> .ptr 0 ax 0 0::B2 ax r x
 | .w::r,x=> .ptr 3 0 (show Int from x.1).toNat 0::B2 ax r x.2
def He (F:Frame):List TV:=[.b (.v F.ok),.ref 1 0 F.aN.length false,.ref 2 0 F.aH.length false,.ref 3 0 F.O.length false]
def Jr [Z:FZ] (ax:Nat) (ids:List Nat) (F:Frame):List Blk:=
 [⟨ax,4,[cz (He F)]⟩,⟨0,1,F.aN.map (cu true .bool)⟩,⟨0,2,F.aH.map (cu true .ij)⟩,⟨0,5,aR 4 Z.ws ids⟩]++Z.bs.map bh
def H4 [Z:FZ] (ids:List Nat) (F:Frame):Prop:=fP Z.ws ids Z.bs∧view Z.ws ids Z.bs=F.O
def aaE (P:Program) (f:FuncId) (ax:Nat) (args:List AV) (F:Frame) (PL:Frame) (v:AV):Prop:=
 ∀(Z:FZ) (ids:List Nat),@H4 Z ids F→c0 P f args (@Jr Z ax ids F) fun r H'=>r=v∧ ∃(Z':FZ) (cR:List Nat),@H4 Z' cR PL∧H'= @Jr Z' ax cR PL
def Ab (ax:Nat) (ids:List Nat) (F:Frame):List (Nat×TV):=
 [(bw 0,.fc ax (He F)),(bw 1,.blk 0 .bool F.aN F.aN.length rfl),(bw 2,.blk 0 .ij F.aH F.aH.length rfl),(bw 3,.kO 0 4 ids),(dy,.gM F.O ids F.O.length rfl)]
def Jq (s:TS) (K:Nat→Frame→List Nat→aI):aI:=match s.get (bw 0) with
 | .fc g ay=>(match ay with
  | [.b k,.ref b1 g1 gf f1,.ref b2 g2 n2 f2,.ref rR g3 pF f3]=>(match s.get (bw 1) with
   | .blk h1 aW o m1 _=>if q1:aW=bg.bool then(match s.get (bw 2) with
    | .blk h2 e2 q m2 _=>if q2:e2=bg.ij then(match s.get (bw 3) with
     | .kO au hE ids=>(match s.get dy with
      | .gM V cR bB _=> .eq s.a_ 4 (.eq (b1,g1,gf,f1) (1,0,m1,false) (.eq (b2,g2,n2,f2) (2,0,m2,false) (.eq (rR,g3,pF,f3) (3,0,bB,false) (.eq (h1,h2,au,hE) (0,0,0,4)
       (.eq cR ids (K g ⟨k.den,mi q1 o,mi q2 q,V⟩ ids))))))
      | _=> .no)
     | _=> .no) else .no
    | _=> .no) else .no
   | _=> .no)
  | _=> .no)
 | _=> .no
theorem adW [Z:FZ] {n:Nat} {s:TS} {K:Nat→Frame→List Nat→aI} {R:Exit→TS→Prop} (aB:Fits s) (h:(Jq s K).den R): ∃g F ids,(K g F ids).den R∧H4 ids F∧(s.aj n).H=Jr g ids F∧s.a_=4∧s.get dy= .gM F.O ids F.O.length rfl:=by
 unfold Jq at h
 split at h
 ·rename_i g ay tw
  split at h
  ·split at h
   ·rename_i h1 aW o m1 afc mn
    split at h
    ·rename_i q1
     subst q1
     split at h
     ·rename_i h2 e2 q m2 sf sa
      split at h
      ·rename_i q2
       subst q2
       split at h
       ·rename_i au hE ids ae4
        split at h
        ·rename_i V cR bB kZ hk
         obtain⟨aZ,dk,gb,mz,ahB,LR,h⟩:=h
         cases dk;cases gb;cases mz;cases ahB;subst LR;subst afc;subst sf;subst kZ
         obtain⟨G,e,_⟩:=aB V cR _ _ hk
         refine⟨_,_,_,h,⟨G,e⟩,?_,aZ,hk⟩
         rw[th hk]
         have iA:s.gw=[(s.get (bw 0)).eh,(s.get (bw 1)).eh,(s.get (bw 2)).eh,(s.get (bw 3)).eh]:=by unfold TS.gw;rw[aZ];rfl
         rw[iA,tw,mn,sa,ae4];rfl
        ·exact h.elim
       ·exact h.elim
      ·exact h.elim
     ·exact h.elim
    ·exact h.elim
   ·exact h.elim
  ·exact h.elim
 ·exact h.elim
structure uC (P:Program) where
 f:FuncId
 jy:List pe
 rs:List bg
 pre:ck (pe.es jy)→Frame→Prop
 fn:ck (pe.es jy)→Frame→Frame
 ca:ck (pe.es jy)→Frame→ck rs
 ok: ∀ax x F,pre x F→aaE P f ax (B2 ax jy x) F (fn x F) (r2 rs (ca x F))
def mg:(l:List pe)→List TV→ck (pe.es l)
 | [],_=>()
 | .v e::r,v::vs=>(ad3 e v,mg r vs)
 | .fr::r,_::vs=>mg r vs
 | .w::r,v::vs=>((match v with
  | .ptr _ _ i _ _=>i
  | _=>(0:Int)),mg r vs)
 | .v e::r,[]=>(e.xy.default,mg r [])
 | .fr::r,[]=>mg r []
 | .w::r,[]=>((0:Int),mg r [])
def Fk {P:Program}:List (uC P)→FuncId→(uC P→aI)→aI→aI
 | [],_,_,t=>t
 | c::r,f,K,t=>match Nat.beq c.f f with
  | true=>K c
  | false=>Fk r f K t
def Iy {P:Program} (c:uC P) (args:List TV) (s:TS) (K:TV→TS→aI):aI:=Jq s fun g F ids=>
 .eq (cz args) (B2 g c.jy (mg c.jy args)) (.eq ((cz args).all eL&&(cz args).all kG) true (.p (c.pre (mg c.jy args) F) (.all (List Nat) fun cR=>
  let s':=s.add ((fS,.u)::Ab g cR (c.fn (mg c.jy args) F)) s.vs s.a_
  .eq s'.b8 s.b8 (.eq (Ag (r2 c.rs (c.ca (mg c.jy args) F))) true (K (Hc c.rs (c.ca (mg c.jy args) F)) s')))))
theorem ajp (ax:Nat) (ids:List Nat) (F:Frame) (s:TS):let s':=s.add ((fS,.u)::Ab ax ids F) s.vs s.a_
  s'.get (bw 0)= .fc ax (He F)∧s'.get (bw 1)= .blk 0 .bool F.aN F.aN.length rfl∧s'.get (bw 2)= .blk 0 .ij F.aH F.aH.length rfl∧s'.get (bw 3)= .kO 0 4 ids∧s'.get dy= .gM F.O ids F.O.length rfl∧s'.get fS= .u:=by
 intro s'
 have az:fS≠bw 0∧fS≠bw 1∧fS≠bw 2∧fS≠bw 3∧fS≠dy:=by unfold fS bw dy;omega
 have e: ∀k,s'.get k=g_ ((fS,.u)::Ab ax ids F) k (s.get k):=fun k=>TS.jd ..
 refine⟨?_,?_,?_,?_,?_,?_⟩<;>rw[e]<;>rfl
theorem abZ [Z:FZ] {P:Program} {n:Nat} (ag:n≤1000000) {c:uC P} {args:List TV} {s:TS} {K:TV→TS→aI} {R:Exit→TS→Prop} {Kp:AV→List (Nat×List AV)→List Blk→Prop} (aB:Fits s)
  (hK: ∀v s' (Z':FZ),(K v s').den R→ @Fits Z' s'→s'.tT n=s.tT n→Kp v.bk s'.b8 (@TS.aj Z' n s').H) (h:(Iy c args s K).den R):lQ P c.f (cz args) (s.aj n).L (s.aj n).H Kp:=by
 unfold Iy at h
 obtain⟨g,F,ids,bz,h1,h2,au,_⟩:=adW (n:=n) aB h
 obtain⟨dk,gb,mz,hk⟩:=bz
 simp only[Bool.and_eq_true] at gb
 refine .inr (.inr (.inl ⟨gb.1,gb.2,?_⟩))
 rw[h2,dk]
 refine(c.ok g _ F mz Z ids h1).mono fun r H' U=> ?_
 obtain⟨rfl,Z',cR,q1,rfl⟩:=U
 obtain⟨LR,ahC,hk⟩:=hk cR
 refine⟨ahC,?_⟩
 obtain⟨m0,m1,m2,m3,m4,m5⟩:=ajp g cR (c.fn (mg c.jy args) F) s
 have px: @Fits Z' (s.add ((fS,.u)::Ab g cR (c.fn (mg c.jy args) F)) s.vs s.a_):=by
  intro V3 F5 pF FQ au
  rw[m4] at au
  cases au
  refine⟨q1.1,q1.2,fun id xs hx=> ?_⟩
  rw[m5] at hx;cases hx
 have:=hK _ _ Z' hk px (D3 ag fun p ae=>by
  simp only[Ab,List.mem_cons,List.not_mem_nil,or_false] at ae
  rcases ae with rfl | rfl | rfl | rfl | rfl | rfl
  ·show 1000000≤fS;unfold fS;omega
  ·show 1000000≤bw 0;unfold bw;omega
  ·show 1000000≤bw 1;unfold bw;omega
  ·show 1000000≤bw 2;unfold bw;omega
  ·show 1000000≤bw 3;unfold bw;omega
  ·exact Nat.le_refl _)
 rw[LR,MV,@th Z' n _ _ _ _ _ m4] at this
 have iA: @TS.gw Z' (s.add ((fS,.u)::Ab g cR (c.fn (mg c.jy args) F)) s.vs s.a_)=[@TV.eh Z' (.fc g (He (c.fn (mg c.jy args) F))),@TV.eh Z' (.blk 0 .bool (c.fn (mg c.jy args) F).aN _ rfl),@TV.eh Z' (.blk 0 .ij (c.fn (mg c.jy args) F).aH _ rfl),@TV.eh Z' (.kO 0 4 cR)]:=by
  rw[←m0,←m1,←m2,←m3]
  show(List.range s.a_).map _=_
  rw[au];rfl
 rw[iA] at this
 exact this
inductive mS where
 | v (e:bg)
 | p
def mS.es:List mS→List bg
 | []=>[]
 | .v e::r=>e::mS.es r
 | .p::r=>mS.es r
def E5 (g:Nat):(l:List mS)→ck (mS.es l)→List AV
 | [],_=>[]
 | .v e::r,x=>pr e x.1::E5 g r x.2
 | .p::r,x=> .ptr 0 g 0 0::E5 g r x
structure rN (P:Program) where
 f:FuncId
 ce:bg
 jy:List mS
 rs:List bg
 pre:ck (mS.es jy)→ce.T→Prop
 fn:ck (mS.es jy)→ce.T→ce.T
 ca:ck (mS.es jy)→ce.T→ck rs
 ok: ∀g x c,pre x c→wv P f g (E5 g jy x) (cu false ce c) (cu false ce (fn x c)) (r2 rs (ca x c))
def WV:List mS→List TV→TV
 | .p::_,v::_=>v
 | .v _::r,_::vs=>WV r vs
 | _,_=> .u
def JM:List mS→Bool
 | []=>false
 | .p::_=>true
 | .v _::r=>JM r
def M4:TS:=⟨[],[],[],0⟩
def EQ (p:AV):(l:List mS)→List TV→(ck (mS.es l)→List Prop→aI)→aI
 | [],[],K=>K () []
 | .v e::r,v::vs,K=>conv M4 e v fun x o=>EQ p r vs fun y lZ=>K (x,y) (o++lZ)
 | .p::r,v::vs,K=> .eq v.bk p (EQ p r vs K)
 | _,_,_=> .no
def ajC (e:bg):Bool:=e.qj
def IF {P:Program} (c:rN P) (args:List TV) (p:AV) (cells:List TV) (K:TV→c.ce.T→aI):aI:=
 .eq (cz cells) (cu false c.ce (c.ce.mk (qW c.ce.ew cells))) (.eq (JM c.jy&&ajC c.ce&&(cz args).all eL) true (EQ p c.jy args fun x o=>
  GQ (o++[c.pre x (c.ce.mk (qW c.ce.ew cells))]) (K (Hc c.rs (c.ca x (c.ce.mk (qW c.ce.ew cells)))) (c.fn x (c.ce.mk (qW c.ce.ew cells))))))
def IG {P:Program} (c:rN P) (args:List TV) (s:TS) (K:TV→TS→aI):aI:=match WV c.jy args with
 | .ptr b g _ _ _=>(match s.get (bw b) with
  | .fc dq cells=>(match Nat.blt b s.a_ with
   | true=> .eq dq g (IF c args (.ptr b g 0 0) cells fun v y=>
     let s':=s.gJ b s.a_ (.fc g (jR false c.ce y))
     .eq s'.b8 s.b8 (K v s'))
   | false=> .no)
  | _=> .no)
 | .lp v _=>(match k6 s.vs v with
  | some m=>IF c args (.fp v 0) (hN s v 0 m) fun w y=>
    let s':=s.add (wL v 0 (jR false c.ce y)) s.vs s.a_
    .eq s'.b8 (lE s.b8 v (cu false c.ce y)) (.eq (qN (wL v 0 (jR false c.ce y))) true (K w s'))
  | none=> .no)
 | _=> .no
def Fl {P:Program}:List (rN P)→FuncId→(rN P→aI)→aI→aI
 | [],_,_,t=>t
 | c::r,f,K,t=>match Nat.beq c.f f with
  | true=>K c
  | false=>Fl r f K t
theorem Rj {P:Program} {f:FuncId} {K:rN P→aI} {t:aI} {R:Exit→TS→Prop}: ∀{rI:List (rN P)},(Fl rI f K t).den R→(∃m,m.f=f∧(K m).den R)∨t.den R
 | [],h=> .inr h
 | c::r,h=>by
  unfold Fl at h
  split at h
  ·rename_i hf;exact .inl ⟨c,Nat.eq_of_beq_eq_true hf,h⟩
  ·exact Rj h
theorem E4 {e:bg} (h:e.qj=true) (x:e.T):(cu false e x).all xz=true∧(cu false e x).all jQ=true:=by cases e<;>first | exact⟨rfl,rfl⟩ | cases h
theorem IE {p:AV} {g:Nat} {R:Exit→TS→Prop}: ∀{l:List mS} {vs:List TV} {K:ck (mS.es l)→List Prop→aI},(EQ p l vs K).den R→ ∃x o,(K x o).den R∧((∀φ∈o,φ)→af (wq p (.ptr 0 g 0 0)) (cz vs) (E5 g l x))∧(JM l=true→p∈cz vs)
 | [],[],K,h=>⟨(),[],h,fun _=>af.nil,fun h=>by cases h⟩
 | .v e::r,v::vs,K,h=>by
  letI Z:FZ:=⟨[],[]⟩
  obtain⟨x,o,h,dk⟩:=ID (n:=0) (Fits.none (s:=M4) rfl) (show(conv M4 e v _).den R from h)
  obtain⟨y,lZ,h,gb,mz⟩:=IE (l:=r) h
  exact⟨(x,y),o++lZ,h,fun ai=>af.cons (.inr (dk fun φ eK=>ai φ (List.mem_append_left _ eK))) (gb fun φ eK=>ai φ (List.mem_append_right _ eK)),fun ae=>List.mem_cons_of_mem _ (mz ae)⟩
 | .p::r,v::vs,K,h=>by
  obtain⟨e,h⟩:=h
  obtain⟨y,lZ,h,gb,mz⟩:=IE (l:=r) h
  exact⟨y,lZ,h,fun ai=>af.cons (.inl ⟨e,rfl⟩) (gb ai),fun _=>by rw[cz,e];exact List.mem_cons_self ..⟩
 | [],_::_,K,h=>h.elim
 | .v _::_,[],K,h=>h.elim
 | .p::_,[],K,h=>h.elim
theorem QF {P:Program} {c:rN P} {args:List TV} {p:AV} {cells:List TV} {K:TV→c.ce.T→aI} {R:Exit→TS→Prop} (g:Nat) (h:(IF c args p cells K).den R):
  ∃eg x y t,(K t y).den R∧(cz args).all eL=true∧cz cells=cu false c.ce x∧c.ce.qj=true∧p∈cz args∧af (wq p (.ptr 0 g 0 0)) (cz args) eg∧wv P c.f g eg (cu false c.ce x) (cu false c.ce y) t.bk:=by
 obtain⟨h1,h2,h⟩:=h
 simp only[Bool.and_eq_true] at h2
 obtain⟨x,o,h,gb,mz⟩:=IE (g:=g) h
 obtain⟨ai,h⟩:=Wr h
 refine⟨_,_,_,_,h,h2.2,h1,h2.1.2,mz h2.1.1,gb fun φ eK=>ai φ (List.mem_append_left _ eK),?_⟩
 rw[MV]
 exact c.ok g x _ (ai _ (List.mem_append_right _ (List.mem_singleton.2 rfl)))
theorem Xf {c:List TV} {e:bg} {x:e.T} (h:cz c=cu false e x):c.length=(cu false e x).length:=by rw[←h,pi,List.length_map]
theorem ab7 [Z:FZ] {P:Program} {n:Nat} (ag:n≤1000000) {c:rN P} {args:List TV} {s:TS} {K:TV→TS→aI} {R:Exit→TS→Prop} {Kp:AV→List (Nat×List AV)→List Blk→Prop} (aB:Fits s)
  (hK: ∀v s' (Z':FZ),(K v s').den R→ @Fits Z' s'→s'.tT n=s.tT n→Kp v.bk s'.b8 (@TS.aj Z' n s').H) (h:(IG c args s K).den R):lQ P c.f (cz args) (s.aj n).L (s.aj n).H Kp:=by
 unfold IG at h
 split at h
 ·rename_i b g i m col ae
  split at h
  ·rename_i dq cells ax
   split at h
   ·rename_i hb
    have hb:b<s.a_:=by rw[←Nat.blt_eq];exact hb
    obtain⟨e,h⟩:=h
    subst e
    obtain⟨eg,x,y,t,bz,h1,h2,au,a8,bQ,cv⟩:=QF dq h
    obtain⟨bC,bz⟩:=bz
    refine .inr (.inr (.inr ⟨h1,eg,cu false c.ce x,cu false c.ce y,t.bk,(E4 au x).1,(E4 au y).2,.inl ⟨b,dq,?_,a8,bQ,cv,?_⟩⟩))
    ·rw[uw hb,ax]
     show some (Blk.mk dq cells.length [cz cells])=_
     rw[Xf h2,h2]
    ·have:=hK _ _ Z bz (rW aB) (rV ag)
     rw[bC,yU hb] at this
     have aW:TV.eh (.fc dq (jR false c.ce y))=Blk.mk dq (cu false c.ce x).length [cu false c.ce y]:=by
      show Blk.mk dq (jR false c.ce y).length [cz (jR false c.ce y)]=_
      rw[Xf (EM false c.ce y),EM,wN,wN]
     rw[aW] at this
     exact this
   ·exact h.elim
  ·exact h.elim
 ·rename_i v col ae
  split at h
  ·rename_i m hm
   obtain⟨eg,x,y,t,bz,h1,h2,au,a8,bQ,cv⟩:=QF 0 h
   obtain⟨bC,hb,bz⟩:=bz
   refine .inr (.inr (.inr ⟨h1,eg,cu false c.ce x,cu false c.ce y,t.bk,(E4 au x).1,(E4 au y).2,.inr ⟨v,?_,a8,bQ,cv,?_⟩⟩))
   ·rw[yj,hm,←h2];rfl
   ·have:=hK _ _ Z bz (BN hb aB) (BM ag hb)
    rw[bC,BL hb] at this
    exact this
  ·exact h.elim
 ·exact h.elim
structure rO (P:Program) where
 len:List Nat
 oj:List (uC P)
 HT:List (rN P)
def O_ (P:Program) (n:Nat) (t:TypeId) (b g:Nat) (i:Int) (m c:Nat) (v:TV) (s:TS) (w:TV) (K:TS→aI):aI:=match w with
 | .kO dq hE ids=>(match Ai v with
  | true=>Pa P t b g i c v s dq hE ids K
  | false=> .no)
 | .fc dq ay=>ZO P t b g i c v s dq ay K
 | _=>O7 P n t b g i m c v s K
section
variable {P:Program} (cf:gV P) (s:TS)
def HY (ep:rO P) (o:Oper) (K:TV→TS→aI):aI:=match o.op with
 | .store t a v=>(match cr cf.n s a with
  | .lp x c=>qV (cr cf.n s v) fun w=>Ca cf s o (.tup []) (wL x c (rY w)) s.vs K
  | .ptr b g i m c=>qV (cr cf.n s v) fun w=>O_ P cf.n t b g i m c w s (s.get (bw b)) fun s'=>K (.tup []) s'
  | .zf w ids m j=>qV (cr cf.n s v) fun x=>D5 P t w ids m j x s fun s'=>K (.tup []) s'
  | _=> .no)
 | .alloc e=>(match o.dst with
  | some d=>Ca cf s o (.lp d 0) (wL d 0 (Eh P e)) ((d,(Eh P e).length)::s.vs) K
  | none=> .no)
 | .box _ x=>(match o.dst with
  | some d=>qV (cr cf.n s x) fun w=>Ca cf s o (.lp d 0) (wL d 0 (rY w)) ((d,(rY w).length)::s.vs) K
  | none=> .no)
 | .makeSlice t l c=>(match ju s with
  | true=>Aa cf.I0 t fun e=>Me P cf.n t e (cr cf.n s l) (cr cf.n s c) s K
  | false=>Md P t (cr cf.n s l) (cr cf.n s c) s K)
 | .buildSlice t m ps=>Aa cf.I0 t fun e=>Gu s e (ps.toList.map fun p=>cr cf.n s p.2) fun xs=>tn (fun H Q=>j_ P o (fun x=>(cr cf.n s x).bk) s.b8 H Q) (fun v=>K v s) (.v (VP e xs (ps.toList.map fun p=>cr cf.n s p.2)))
 | .binOp op t x y _=>(match cr cf.n s x with
  | .l e xs _ _=>(match op with
   | .eql=> .eq (sw y&&(jp P t).isSome) true (.two (.kd (xs≠[]) (K (.b .f) s)) (.kd (xs=[]) (.all Bool fun b=>K (.b (.v b)) s)))
   | _=> .no)
  | _=>uh cf s o fun v=>K v s)
 | .call c=>(match c.callee with
  | .builtin b=>(match b with
   | .len=>(match c.args.toList,c.argTypes.toList with
    | [x],[t]=>(match cr cf.n s x with
     | .l e xs dK fr=>(match o.dst with
      | some d=>(match ep.len.any (Nat.beq d) with
       | true=>uh cf s o fun v=>K v s
       | false=> .eq (kf P t (TV.l e xs dK fr).bk) true (.kd (xs.length≤4611686018427387904) (K (.i .i64 xs.length) s)))
      | none=> .no)
     | _=>uh cf s o fun v=>K v s)
    | _,_=> .no)
   | .append=>(match c.args.toList,c.argTypes.toList with
    | [x,y],[t,t2]=>Ih P cf.n t t2 (cr cf.n s x) (cr cf.n s y) s K
    | _,_=> .no)
   | _=> .no)
  | .value f=>(match cr cf.n s f with
   | .fn g caps=>Fk ep.oj g (fun m=>Iy m (c.args.toList.map (cr cf.n s)++caps) s K) (Fl ep.HT g (fun m=>IG m (c.args.toList.map (cr cf.n s)++caps) s K) (uh cf s o fun v=>K v s))
   | _=> .no)
  | _=> .no)
 | _=>uh cf s o fun v=>K v s
end
section
variable {P:Program} {cf:gV P} {s:TS} {R:Exit→TS→Prop}
variable {K:TV→TS→aI} {Kp:AV→List (Nat×List AV)→List Blk→Prop}
theorem anc {t:TypeId} {m:Nat} {ids:List Nat} {w j:Int} {v:TV} {K:TS→aI} (h:(D5 P t w ids m j v s K).den R):eL v.bk=true:=by
 unfold D5 at h
 split at h
 ·obtain⟨_,_,_,h⟩:=h
  split at h
  ·rfl
  ·exact h.elim
 ·exact h.elim
end
section
variable {P:Program} {cf:gV P} {s:TS} {R:Exit→TS→Prop}
variable {K:TV→TS→aI} {Kp:AV→List (Nat×List AV)→List Blk→Prop}
theorem Ri {f:FuncId} {K:uC P→aI} {t:aI}: ∀{rI:List (uC P)},(Fk rI f K t).den R→(∃m,m.f=f∧(K m).den R)∨t.den R
 | [],h=> .inr h
 | c::r,h=>by
  unfold Fk at h
  split at h
  ·rename_i hf;exact .inl ⟨c,Nat.eq_of_beq_eq_true hf,h⟩
  ·exact Ri h
end
section
variable [Z:FZ] {P:Program} {cf:gV P} {s:TS} {R:Exit→TS→Prop}
variable {K:TV→TS→aI} {Kp:AV→List (Nat×List AV)→List Blk→Prop}
theorem ang (ag:cf.n≤1000000) (aB:Fits s) {t:TypeId} {b g m c:Nat} {i:Int} {v:TV} {K:TS→aI} {Kp:List (Nat×List AV)→List Blk→Prop} (hK: ∀s' (Z':FZ),(K s').den R→ @Fits Z' s'→s'.tT cf.n=s.tT cf.n→Kp s'.b8 (@TS.aj Z' cf.n s').H)
  (h:(O_ P cf.n t b g i m c v s (s.get (bw b)) K).den R):eM (eL v.bk) (mM P t (.ptr b g i.toNat c) v.bk (s.aj cf.n).L (s.aj cf.n).H Kp):=by
 unfold O_ at h
 split at h
 ·rename_i dq hE ids ax
  split at h
  ·rename_i hv
   exact GN (GH hv) (anj ag aB ax hK h)
  ·exact h.elim
 ·rename_i dq ay ax
  have au:(Nat.blt b s.a_&&Ai v&&yi P t v.bk&&Nat.ble (c+(e7 v.bk).length) ay.length)=true:=h.2.2.1
  simp only[Bool.and_eq_true] at au
  exact GN (GH au.1.1.2) (anh ag aB ax hK h)
 ·exact am6 ag aB hK h
theorem aaf (ag:cf.n≤1000000) (aB:Fits s) {ep:rO P} {o:Oper} (hK:yM cf s R K Kp) (h:(HY cf s ep o K).den R):kt P [] o (b6 (s.aj cf.n).T) (s.aj cf.n).L (s.aj cf.n).H Kp:=by
 have Dv: ∀v,(K v s).den R→Kp v.bk (s.aj cf.n).L (s.aj cf.n).H:=fun v hv=>hK v s Z hv aB rfl
 have rd:(uh cf s o fun v=>K v s).den R→j_ P o (b6 (s.aj cf.n).T) (s.aj cf.n).L (s.aj cf.n).H fun r=>Kp r (s.aj cf.n).L (s.aj cf.n).H:=fun h=>Xh aB (Kp:=fun r=>Kp r (s.aj cf.n).L (s.aj cf.n).H) Dv h
 unfold HY at h
 split at h
 ·rename_i t a v fL
  split at h
  ·rw[r6] at h;exact JA ag aB hK h
  ·rename_i b g i m c aG
   rw[r6] at h
   obtain⟨dst,op,ty,pos,after,guard⟩:=o
   cases fL
   show eM (eL (b6 (s.aj cf.n).T v)) (mM P t (b6 (s.aj cf.n).T a) (b6 (s.aj cf.n).T v) _ _ _)
   rw[lu]
   show eM (eL (cr cf.n s v).bk) (mM P t (cr cf.n s a).bk (cr cf.n s v).bk _ _ _)
   rw[aG]
   exact ang ag aB (fun s' Z' h1 hf h2=>hK (.tup []) s' Z' h1 hf h2) h
  ·rename_i w ids m j aG
   rw[r6] at h
   obtain⟨dst,op,ty,pos,after,guard⟩:=o
   cases fL
   show eM (eL (b6 (s.aj cf.n).T v)) (mM P t (b6 (s.aj cf.n).T a) (b6 (s.aj cf.n).T v) _ _ _)
   rw[lu]
   show eM (eL (cr cf.n s v).bk) (mM P t (cr cf.n s a).bk (cr cf.n s v).bk _ _ _)
   rw[aG]
   refine GN ?_ (ane ag aB (fun s' Z' h1 hf h2=>hK (.tup []) s' Z' h1 hf h2) h)
   exact anc h
  ·exact h.elim
 ·split at h
  ·exact JA ag aB hK h
  ·exact h.elim
 ·split at h
  ·rw[r6] at h;exact JA ag aB hK h
  ·exact h.elim
 ·rename_i t l c fL
  obtain⟨dst,op,ty,pos,after,guard⟩:=o
  cases fL
  show Ac P t (b6 (s.aj cf.n).T l) (b6 (s.aj cf.n).T c) _ _ _
  rw[lu]
  split at h
  ·obtain⟨e,h⟩:=L5 h
   exact aju ag aB hK h
  ·exact ajs ag aB hK h
 ·rename_i t m ps fL
  obtain⟨e,h⟩:=L5 h
  obtain⟨xs,h⟩:=L4 (n:=cf.n) aB h
  refine akk fL ?_
  rw[lu]
  exact uY (F:=fun H Q=>j_ P o _ _ H Q) (s.aj cf.n).H (Kp:=fun r=>Kp r (s.aj cf.n).L (s.aj cf.n).H) Dv h
 ·rename_i op t x y ty2 fL
  split at h
  ·rename_i e xs dK fr hx
   split at h
   ·obtain⟨h1,h2,au⟩:=h
    obtain⟨dst,op,ty,pos,after,guard⟩:=o
    cases fL
    show uP P .eql t (b6 (s.aj cf.n).T x) _ (sw y) _
    rw[lu]
    show uP P .eql t (cr cf.n s x).bk _ (sw y) _
    rw[hx]
    show if sw y=true∧(jp P t).isSome=true then _ else _
    rw[if_pos (by simpa using h1)]
    refine⟨fun bU=> ?_,fun he b=> ?_⟩
    ·exact Dv (.b .f) (h2 fun e=>bU (by rw[e];rfl))
    ·exact Dv (.b (.v b)) (au (by simpa using he) b)
   ·exact h.elim
  ·refine Xi (rd h) (fun c=>by rw[fL];intro e;cases e) (fun t m ps=>by rw[fL];intro e;cases e)
 ·rename_i c fL
  obtain⟨callee,args,argTypes⟩:=c
  split at h
  ·rename_i b hb
   cases hb
   split at h
   ·split at h
    ·rename_i x t h1 h2
     simp only at h1 h2
     split at h
     ·rename_i e xs dK fr hx
      split at h
      ·split at h
       ·exact MR fL (rd h)
       ·obtain⟨aW,h⟩:=h
        obtain⟨dst,op,ty,pos,after,guard⟩:=o
        cases fL
        show(match args.toList,argTypes.toList with
         | [x],[t]=>eM (kf P t (b6 (s.aj cf.n).T x)) (tX (b6 (s.aj cf.n).T x) fun r=>Kp r _ _)
         | _,_=>False)
        simp only[h1,h2]
        rw[lu]
        show eM (kf P t (cr cf.n s x).bk) (tX (cr cf.n s x).bk _)
        rw[hx,aW]
        show(List.map _ _).length≤_→Kp (.int .i64 ((List.map _ _).length:Nat)) _ _
        rw[List.length_map]
        exact fun aw=>Dv _ (h aw)
      ·exact h.elim
     ·exact MR fL (rd h)
    ·exact h.elim
   ·split at h
    ·rename_i x y t t2 h1 h2
     simp only at h1 h2
     obtain⟨dst,op,ty,pos,after,guard⟩:=o
     cases fL
     show(match args.toList,argTypes.toList with
      | [s',x],[t,t2]=>eL (b6 (s.aj cf.n).T s')=true∧eL (b6 (s.aj cf.n).T x)=true∧wF P t t2 (b6 (s.aj cf.n).T s') (b6 (s.aj cf.n).T x) _ _ _
      | _,_=>False)
     simp only[h1,h2]
     rw[lu]
     exact aa7 ag aB hK h
    ·exact h.elim
   ·exact h.elim
  ·rename_i f hf
   cases hf
   split at h
   ·rename_i g caps hc
    rcases Ri h with⟨m,e,hm⟩ | hm
    ·subst e
     obtain⟨dst,op,ty,pos,after,guard⟩:=o
     cases fL
     show mh (b6 (s.aj cf.n).T f) fun g caps=>lQ P g (args.toList.map (b6 (s.aj cf.n).T)++caps) _ _ Kp
     rw[lu]
     show mh (cr cf.n s f).bk fun g caps=>lQ P g (args.toList.map (fun x=>(cr cf.n s x).bk)++caps) _ _ Kp
     rw[hc]
     have:=abZ (n:=cf.n) ag aB (fun v s' Z' h1 h2 au=>hK v s' Z' h1 h2 au) hm
     rw[pi,List.map_append,List.map_map] at this
     show lQ P m.f (_++cz caps) _ _ Kp
     rw[pi];exact this
    ·rcases Rj hm with⟨m,e,ae⟩ | hm
     ·subst e
      obtain⟨dst,op,ty,pos,after,guard⟩:=o
      cases fL
      show mh (b6 (s.aj cf.n).T f) fun g caps=>lQ P g (args.toList.map (b6 (s.aj cf.n).T)++caps) _ _ Kp
      rw[lu]
      show mh (cr cf.n s f).bk fun g caps=>lQ P g (args.toList.map (fun x=>(cr cf.n s x).bk)++caps) _ _ Kp
      rw[hc]
      have:=ab7 (n:=cf.n) (Kp:=Kp) ag aB (fun v s' Z' h1 h2 au=>hK v s' Z' h1 h2 au) ae
      rw[pi,List.map_append,List.map_map] at this
      show lQ P m.f (_++cz caps) _ _ Kp
      rw[pi];exact this
     ·exact MR fL (rd hm)
   ·exact h.elim
  ·exact h.elim
 ·rename_i h1 h2 au a8 bQ cv gO
  exact Xi (rd h) (fun c=>gO c) (fun t m ps=>bQ t m ps)
end
def xH (b:Bool):TV:= .b (match b with
 | true=> .t
 | false=> .f)
theorem VQ (b:Bool):(xH b).bk= .bool b:=by cases b<;>rfl
def HF (x:ek) (s:TS) (K:Bool→TS→aI):aI:=match x with
 | .t=>K true s
 | .f=>K false s
 | x=> .jj x s (K true ⟨[],s.T++s.B,s.vs,s.a_⟩) (K false ⟨[],s.T++s.B,s.vs,s.a_⟩)
def HQ (d:Nat) (v:TV):TV:=match v with
 | .b x=>(match x with
  | .v p=> .b (.at d p)
  | x=> .b x)
 | v=>v
theorem ann (d:Nat) (v:TV):(HQ d v).bk=v.bk:=by
 unfold HQ
 split
 ·split<;>rfl
 ·rfl
def kK (n:Nat) (s:TS) (d:Option Nat) (v:TV):TS:=match d with
 | none=>s
 | some d=>match Nat.blt d n with
  | true=>s.put d (HQ d v)
  | false=>s
theorem am4 [FZ] {n:Nat} {s s':TS} (hv:s'.vs=s.vs) (hb:s'.a_=s.a_) (h: ∀k,s'.get k=s.get k):s'.aj n=s.aj n:=by
 have hc: ∀v c m,hN s' v c m=hN s v c m:=by
  intro v c m
  induction m generalizing c with
  | zero=>rfl
  | succ m br=>rw[hN,hN,h _,br]
 have av:=O6 (n:=n) hb (fun b=>h _) (h dy)
 have b7:s'.tT n=s.tT n:=by unfold TS.tT;simp only[h]
 have bC:s'.b8=s.b8:=by unfold TS.b8;simp only[hv,hc]
 show(⟨s'.tT n,s'.b8,(s'.aj n).H⟩:St)=_
 rw[b7,bC,av];rfl
theorem ZG (s:TS) (k:Nat):TS.get ⟨[],s.T++s.B,s.vs,s.a_⟩ k=s.get k:=by unfold TS.get;simp only;rw[xI];rfl
theorem am0 [FZ] {n:Nat} (s:TS):TS.aj n ⟨[],s.T++s.B,s.vs,s.a_⟩=s.aj n:=am4 rfl rfl (ZG s)
theorem O5 [FZ] {n:Nat} {x:ek} {s:TS} {K:Bool→TS→aI} {R:Exit→TS→Prop} (h:(HF x s K).den R): ∃s',s'.aj n=s.aj n∧(∀k,s'.get k=s.get k)∧(K x.den s').den R:=by
 have key:(aI.jj x s (K true ⟨[],s.T++s.B,s.vs,s.a_⟩) (K false ⟨[],s.T++s.B,s.vs,s.a_⟩)).den R→ ∃s',s'.aj n=s.aj n∧(∀k,s'.get k=s.get k)∧(K x.den s').den R:=fun h=>by
  refine⟨_,am0 s,ZG s,?_⟩
  ·cases hx:x.den with
   | true=>exact h.1 hx
   | false=>exact h.2 hx
 cases x with
 | t=>exact⟨s,rfl,fun _=>rfl,h⟩
 | f=>exact⟨s,rfl,fun _=>rfl,h⟩
 | _=>exact key h
theorem G0 {s:TS} {d k:Nat} {v:TV} (h:d<1000000) (hk:1000000≤k):(s.put d v).get k=s.get k:=by rw[TS.Jx,if_neg (by omega)]
theorem MC [FZ] {s:TS} {d:Nat} {v:TV} (h:d<1000000) (f:Fits s):Fits (s.put d v):=f.congr fun k h1 _=>G0 h h1
theorem W0 {s:TS} {d:Nat} {v:TV} (h:d<1000000):(s.put d v).b8=s.b8:=by
 have hc: ∀eu c m,hN (s.put d v) eu c m=hN s eu c m:=by
  intro eu c m
  induction m generalizing c with
  | zero=>rfl
  | succ m br=>rw[hN,hN,G0 h (by unfold fF;omega),br]
 show s.vs.map _=s.vs.map _
 simp only[hc]
theorem WZ [FZ] {n:Nat} {s:TS} {d:Nat} {v:TV} (h:d<1000000):((s.put d v).aj n).H=(s.aj n).H:=O6 rfl (fun b=>G0 h (by unfold bw;omega)) (G0 h (by unfold dy;omega))
theorem Dn [FZ] {n:Nat} (ag:n≤1000000) (s:TS) (d:Option Nat) (v:TV):(kK n s d v).aj n=⟨putA (s.aj n).T d v.bk,(s.aj n).L,(s.aj n).H⟩:=by
 cases d with
 | none=>rfl
 | some d=>
  unfold kK
  simp only
  split
  ·rename_i aV
   have aV:d<n:=by rw[←Nat.blt_eq];exact aV
   rw[←ann d v]
   generalize HQ d v=v
   have b7:(s.put d v).tT n=(s.tT n).set d v.bk:=by
    apply List.ext_getElem?
    intro t
    show((List.range n).map fun t=>((s.put d v).get t).bk)[t]?=(((List.range n).map fun t=>(s.get t).bk).set d v.bk)[t]?
    rw[List.getElem?_set]
    simp only[List.getElem?_map,List.length_map,List.length_range]
    rcases Nat.lt_or_ge t n with h | h
    ·rw[List.getElem?_range h]
     simp only[Option.map_some]
     rw[TS.Jx]
     by_cases e:d=t
     ·simp[e,h]
     ·simp[e]
    ·rw[List.getElem?_eq_none (l:=List.range n) (by simpa using h)]
     by_cases e:d=t
     ·omega
     ·simp[e]
   have bC:=W0 (s:=s) (v:=v) (show d<1000000 by omega)
   have av:=WZ (n:=n) (s:=s) (v:=v) (show d<1000000 by omega)
   show(⟨(s.put d v).tT n,(s.put d v).b8,((s.put d v).aj n).H⟩:St)=_
   rw[b7,bC,av];rfl
  ·rename_i aV
   have aV: ¬d<n:=fun h=>by rw[←Nat.blt_eq] at h;rw[h] at aV;cases aV
   show s.aj n=⟨(s.aj n).T.set d v.bk,_,_⟩
   rw[List.set_eq_of_length_le]
   show((List.range n).map _).length≤d
   simp;omega
theorem Dm [FZ] {n:Nat} (ag:n≤1000000) {s:TS} {d:Option Nat} {v:TV} (f:Fits s):Fits (kK n s d v):=by
 unfold kK
 split
 ·exact f
 ·split
  ·rename_i aV
   exact MC (by rw[Nat.blt_eq] at aV;omega) f
  ·exact f
theorem W3 [FZ] {n:Nat} {s:TS} {t:Nat} {v:TV} (a6:t<1000000) (h:(s.get t).bk=v.bk):(s.put t v).aj n=s.aj n:=by
 have b7:(s.put t v).tT n=s.tT n:=by
  unfold TS.tT
  refine List.map_congr_left fun k _=> ?_
  rw[TS.Jx];split
  ·rename_i e;subst e;exact h.symm
  ·rfl
 have bC:=W0 (s:=s) (v:=v) a6
 have av:=WZ (n:=n) (s:=s) (v:=v) a6
 show(⟨(s.put t v).tT n,(s.put t v).b8,((s.put t v).aj n).H⟩:St)=_
 rw[b7,bC,av];rfl
section
variable {P:Program} (cf:gV P)
def GU (c x y:Operand) (s:TS) (K:TV→TS→aI):aI:=match cr cf.n s c with
 | .b z=>HF z s fun b s=>
  let s:=match c with
   | .tmp t=>s.put t (xH b)
   | _=>s
  qV (cr cf.n s (bif b then x else y)) fun v=>K v s
 | _=> .no
def Fm (ops:Array Oper) (o:Oper) (s:TS) (run skip:TS→aI):aI:=match o.guard with
 | none=>run s
 | some g=>match(ops[g.1]?).bind (·.dst) with
  | none=> .no
  | some t=>match cr cf.n s (.tmp t) with
   | .b z=>HF z s fun b s=>bif b==g.2 then run (s.put t (xH b)) else skip (s.put t (xH b))
   | .tup c=>match c with
    | []=>skip s
    | _=> .no
   | _=> .no
def stepT (ep:rO P) (o:Oper) (s:TS) (K:TV→TS→aI):aI:=match o.op with
 | .pick c x y=>GU cf c x y s K
 | _=>HY cf s ep o K
def Hd (ep:rO P) (ops:Array Oper):List Oper→TS→(TS→aI)→aI
 | [],s,K=>K s
 | o::r,s,K=>Fm cf ops o s (fun s=>stepT cf ep o s fun v s=>Hd ep ops r (kK cf.n s o.dst v) K) (fun s=>Hd ep ops r (kK cf.n s o.dst (.tup [])) K)
def Jp (ops:Array Oper) (s:TS):List Nat→aI→aI
 | [],k=>k
 | i::r,k=> .eq ((opI ops i).guard.isNone&&(opI ops i).dst.isSome) true (.eq (fun(Z:FZ) H Q=>lR P (opI ops i) (fun x=>(cr cf.n s x).bk) s.b8 (@TS.gw Z s++H) Q) (fun _ _ Q=>Q (match(opI ops i).dst with
  | some d=>(cr cf.n s (.tmp d)).bk
  | none=> .undef)) (Jp ops s r k))
def vM (ep:rO P) (ops:Array Oper):List Item→TS→(TS→aI)→aI
 | [],s,K=>K s
 | x::r,s,K=>Fm cf ops (opI ops x.i) s
   (fun s=>match x.q with
    | true=>(match rk (opI ops x.i) with
     | true=>(match(opI ops x.i).dst with
      | some d=> .eq (fun H Q=>lR P (opI ops x.i) (fun x=>(cr cf.n s x).bk) s.b8 H Q) (fun _ Q=>Q (.fp d 0)) (vM ep ops r (kK cf.n s (opI ops x.i).dst (.lp d 0)) K)
      | none=> .no)
     | false=>(match(opI ops x.i).op with
      | .pick c a b=>GU cf c a b s fun v s=>vM ep ops r (kK cf.n s (opI ops x.i).dst v) K
      | _=>uh cf s (opI ops x.i) fun v=>vM ep ops r (kK cf.n s (opI ops x.i).dst v) K))
    | false=>(match(opI ops x.i).op with
     | .pick _ _ _=> .no
     | _=>HY cf s ep (opI ops x.i) fun v s=>Jp cf ops s x.jV (vM ep ops r (kK cf.n s (opI ops x.i).dst v) K)))
   (fun s=>vM ep ops r (kK cf.n s (opI ops x.i).dst (.tup [])) K)
def Ei (P:Program) (ops:Array Oper):List Item→List (Nat×List TV)
 | []=>[]
 | x::r=>match x.q with
  | true=>(match(opI ops x.i).op with
   | .alloc e=>(match(opI ops x.i).dst with
    | some d=>(d,Eh P e)::Ei P ops r
    | none=>Ei P ops r)
   | _=>Ei P ops r)
  | false=>Ei P ops r
def PJ:List (Nat×List TV)→List (Nat×TV)
 | []=>[]
 | (d,c)::r=>wL d 0 c++PJ r
def IT (ep:rO P) (ops:Array Oper) (ord:List Item) (km:List (List Nat)) (s:TS) (K:TS→aI):aI:=
 let iL:=Ei P ops ord
 let s':=s.add (PJ iL) (iL.map (fun p=>(p.1,p.2.length))++s.vs) s.a_
 match qN (PJ iL) with
 | false=> .no
 | true=> .eq (P.follows .mixedOrders) true (.eq km.length ops.size (.eq (y3 ops ord (BO km)) true (.eq (ord.all (·.lit)) true (.eq s'.b8 (iL.map (fun p=>(p.1,cz p.2))++s.b8)
  (.eq (wP (iL.map fun p=>(p.1,cz p.2)) s.b8) true (.eq (wE ops s.b8 ord) true (vM cf ep ops ord s' K)))))))
end
section
variable {P:Program} {cf:gV P} {R:Exit→TS→Prop}
theorem L9 {n t:Nat} {s:TS} {v:TV} (h:cr n s (.tmp t)=v) (hv:v≠ .u):t<n∧s.get t=v:=by
 have h:(match Nat.blt t n with
  | true=>s.get t
  | false=>TV.u)=v:=h
 split at h
 ·rename_i hb;exact⟨by rw[←Nat.blt_eq];exact hb,h⟩
 ·exact absurd h.symm hv
end
section
variable {P:Program} {cf:gV P} {R:Exit→TS→Prop}
theorem akX {T:List AV} {t:Nat} {a:AV} (h:T.getD t .undef=a):T.set t a=T∨a= .undef:=by
 by_cases aw:t<T.length
 ·left
  rw[List.getD_eq_getElem?_getD,List.getElem?_eq_getElem aw] at h
  have h:T[t]=a:=h
  rw[←h];exact List.set_getElem_self ..
 ·right;rw[←h,List.getD_eq_getElem?_getD,List.getElem?_eq_none (by omega)];rfl
end
section
variable {P:Program} {cf:gV P} {R:Exit→TS→Prop}
theorem ajX {o:Oper} {T:List AV} {K:AV→Prop} {E2:Prop} (h: ∀c x y,o.op≠ .pick c x y):xR true o T K E2=E2:=by
 unfold xR
 split
 ·rename_i c x y e;exact absurd e (h c x y)
 ·rfl
end
section
variable [Z:FZ] {P:Program} {cf:gV P} {R:Exit→TS→Prop}
theorem Ry (ag:cf.n≤1000000) {ops:Array Oper} {o:Oper} {s:TS} {run skip:TS→aI} {x y:List AV→Prop} (aB:Fits s) (hx: ∀s',Fits s'→s'.aj cf.n=s.aj cf.n→(run s').den R→x (s.aj cf.n).T) (bi: ∀s',Fits s'→s'.aj cf.n=s.aj cf.n→(skip s').den R→y (s.aj cf.n).T)
  (h:(Fm cf ops o s run skip).den R):pu ops true o (s.aj cf.n).T x y:=by
 unfold Fm at h
 unfold pu
 split at h
 ·rename_i ax;rw[ax];exact hx s aB rfl h
 ·rename_i g ax
  obtain⟨j,dc⟩:=g
  rw[ax]
  simp only at h ⊢
  split at h
  ·exact h.elim
  ·rename_i t a6
   rw[a6]
   simp only
   have b7:(s.aj cf.n).T.getD t .undef=(cr cf.n s (.tmp t)).bk:=by
    have:=congrFun (lu cf.n s) (.tmp t);exact this
   split at h
   ·rename_i z sk
    rw[sk] at b7
    rw[b7]
    show qO true z.den _ _
    obtain⟨aw,gY⟩:=L9 sk (fun e=>by cases e)
    obtain⟨s',aW,e2,h⟩:=O5 (n:=cf.n) h
    have pz:Fits (s'.put t (xH z.den)):=MC (by omega) (aB.congr fun k _ _=>e2 k)
    have tD:(s'.put t (xH z.den)).aj cf.n=s.aj cf.n:=by
     rw[W3 (by omega) (by rw[e2,gY,VQ];rfl),aW]
    have ln: ∀b,z.den=b→(s.aj cf.n).T.set t (.bool b)=(s.aj cf.n).T:=fun b hb=>by
     rcases akX (show(s.aj cf.n).T.getD t .undef= .bool b by rw[b7,←hb];rfl) with q | q
     ·exact q
     ·cases q
    cases re:z.den with
    | true=>
     rw[re] at h tD pz
     show if dc=true then _ else _
     rw[ln true re]
     cases dc with
     | true=>rw[if_pos rfl];exact hx _ pz tD h
     | false=>rw[if_neg (by simp)];exact bi _ pz tD h
    | false=>
     rw[re] at h tD pz
     show if dc=true then _ else _
     rw[ln false re]
     cases dc with
     | true=>rw[if_pos rfl];exact bi _ pz tD h
     | false=>rw[if_neg (by simp)];exact hx _ pz tD h
   ·rename_i c sk
    rw[sk] at b7
    split at h
    ·rw[b7];exact bi s aB rfl h
    ·exact h.elim
   ·exact h.elim
theorem WG (ag:cf.n≤1000000) {c x y:Operand} {s:TS} {K:TV→TS→aI} {Kp:AV→Prop} (aB:Fits s) (hK: ∀v s',Fits s'→s'.aj cf.n=s.aj cf.n→(K v s').den R→Kp v.bk) (h:(GU cf c x y s K).den R):
  p4 (b6 (s.aj cf.n).T c) fun z=>qO true z (Kp (b6 (s.aj cf.n).T x)) (Kp (b6 (s.aj cf.n).T y)):=by
 unfold GU at h
 split at h
 ·rename_i z sk
  obtain⟨s',aW,e2,h⟩:=O5 (n:=cf.n) h
  simp only at h
  rw[r6] at h
  generalize CB:(match c with
   | .tmp t=>s'.put t (xH z.den)
   | _=>s')=s2 at h
  have cF:s2.aj cf.n=s.aj cf.n:=by
   rw[←CB,←aW]
   split
   ·rename_i t
    obtain⟨aw,gY⟩:=L9 sk (fun e=>by cases e)
    exact W3 (by omega) (by rw[e2,gY,VQ];rfl)
   ·rfl
  have hf2:Fits s2:=by
   rw[←CB]
   split
   ·rename_i t
    obtain⟨aw,gY⟩:=L9 sk (fun e=>by cases e)
    exact MC (by omega) (aB.congr fun k _ _=>e2 k)
   ·exact aB.congr fun k _ _=>e2 k
  have:=hK _ _ hf2 cF h
  have ai: ∀o,(cr cf.n s2 o).bk=b6 (s.aj cf.n).T o:=fun o=>by rw[←cF,lu]
  rw[ai] at this
  have hc:b6 (s.aj cf.n).T c= .bool z.den:=by
   have:=congrFun (lu cf.n s) c
   rw[this]
   show(cr cf.n s c).bk=_
   rw[sk];rfl
  rw[hc]
  show qO true z.den _ _
  cases re:z.den with
  | true=>rw[re] at this;exact this
  | false=>rw[re] at this;exact this
 ·exact h.elim
theorem am9 (ag:cf.n≤1000000) {ep:rO P} {o:Oper} {s:TS} {K:TV→TS→aI} {Kp:AV→List (Nat×List AV)→List Blk→Prop} (aB:Fits s) (hK:yM cf s R K Kp) (h:(stepT cf ep o s K).den R):
  xR true o (s.aj cf.n).T (fun v=>Kp v (s.aj cf.n).L (s.aj cf.n).H) (kt P [] o (b6 (s.aj cf.n).T) (s.aj cf.n).L (s.aj cf.n).H Kp):=by
 unfold stepT at h
 split at h
 ·rename_i c x y fL
  unfold xR
  rw[fL]
  exact WG ag (Kp:=fun v=>Kp v (s.aj cf.n).L (s.aj cf.n).H) aB (fun v s' hf e hv=>by
   have eT:s'.tT cf.n=s.tT cf.n:=congrArg St.T e
   have gW:s'.b8=s.b8:=congrArg St.L e
   have:=hK v s' Z hv hf eT
   rw[gW,e] at this;exact this) h
 ·rename_i bU
  rw[ajX fun c x y=>bU c x y]
  exact aaf ag aB hK h
end
section
variable {P:Program} {cf:gV P} {R:Exit→TS→Prop}
theorem MX (ag:cf.n≤1000000) {ep:rO P} {ops:Array Oper} {K:TS→aI} {Kp:List AV→List (Nat×List AV)→List Blk→Prop} (hK: ∀s (Z:FZ),(K s).den R→ @Fits Z s→Kp (s.tT cf.n) s.b8 (@TS.aj Z cf.n s).H): ∀(l:List Oper) (Z:FZ) (s:TS),@Fits Z s→(Hd cf ep ops l s K).den R→
  evOps P [] ops (l.map fun o=>(o,true)) (s.tT cf.n) s.b8 (@TS.aj Z cf.n s).H Kp
 | [],Z,s,aB,h=>hK s Z h aB
 | o::r,Z,s,aB,h=>by
  refine Ry (Z:=Z) ag aB (fun s' hf e h=> ?_) (fun s' hf e h=> ?_) h
  ·have gW:s'.b8=s.b8:=congrArg St.L e
   rw[←e,←gW]
   exact am9 (Z:=Z) ag (Kp:=fun v L' H'=>evOps P [] ops (r.map fun o=>(o,true)) (putA (s'.tT cf.n) o.dst v) L' H' Kp) hf (fun v s2 Z2 hv hf2 e2=>by
    have:=MX ag hK r Z2 _ (@Dm Z2 _ ag _ _ _ hf2) hv
    have cF:= @Dn Z2 cf.n ag s2 o.dst v
    have eT:(kK cf.n s2 o.dst v).tT cf.n=putA (s2.tT cf.n) o.dst v.bk:=congrArg St.T cF
    have IY:(kK cf.n s2 o.dst v).b8=s2.b8:=congrArg St.L cF
    rw[eT,IY,cF] at this
    rw[←e2];exact this) h
  ·have:=MX ag hK r Z _ (Dm ag hf) h
   have cF:= @Dn Z cf.n ag s' o.dst (.tup [])
   have eT:(kK cf.n s' o.dst (.tup [])).tT cf.n=putA (s'.tT cf.n) o.dst (.tup []):=congrArg St.T cF
   have IY:(kK cf.n s' o.dst (.tup [])).b8=s'.b8:=congrArg St.L cF
   rw[eT,IY,cF] at this
   have iA:s'.tT cf.n=s.tT cf.n:=congrArg St.T e
   have hO:s'.b8=s.b8:=congrArg St.L e
   rw[iA,hO,e] at this
   exact this
end
section
variable [Z:FZ] {P:Program} {cf:gV P} {R:Exit→TS→Prop}
theorem Rk {ops:Array Oper} {s:TS} {k:aI}: ∀{jV:List Nat},(Jp cf ops s jV k).den R→tl P ops jV (s.aj cf.n).T (s.aj cf.n).L (s.aj cf.n).H∧k.den R
 | [],h=>⟨trivial,h⟩
 | i::r,h=>by
  obtain⟨h1,h2,au⟩:=h
  simp only[Bool.and_eq_true] at h1
  obtain⟨q1,q2⟩:=Rk au
  refine⟨⟨⟨h1.1,h1.2,?_⟩,q1⟩,q2⟩
  rw[lu]
  have:=congrFun (congrFun (congrFun h2 Z) (hj s)) (fun v=>v=uS (opI ops i) (s.aj cf.n).T)
  have this:lR P (opI ops i) (fun x=>(cr cf.n s x).bk) (s.aj cf.n).L (s.aj cf.n).H (fun v=>v=uS (opI ops i) (s.aj cf.n).T)=_:=this
  rw[this]
  unfold uS
  cases(opI ops i).dst with
  | none=>rfl
  | some d=>
   have:=congrFun (lu cf.n s) (.tmp d)
   exact this.symm
end
section
variable {P:Program} {cf:gV P} {R:Exit→TS→Prop}
theorem aj3 (Z:FZ) (ag:cf.n≤1000000) (s:TS) (d:Option Nat) (v:TV):(kK cf.n s d v).tT cf.n=putA (s.tT cf.n) d v.bk∧(kK cf.n s d v).b8=s.b8∧(@TS.aj Z cf.n (kK cf.n s d v)).H=(@TS.aj Z cf.n s).H:=by
 have cF:= @Dn Z cf.n ag s d v
 exact⟨congrArg St.T cF,congrArg St.L cF,by rw[cF]⟩
theorem Xt (ag:cf.n≤1000000) {ep:rO P} {ops:Array Oper} {K:TS→aI} {Kp:List AV→List (Nat×List AV)→List Blk→Prop} (hK: ∀s (Z:FZ),(K s).den R→ @Fits Z s→Kp (s.tT cf.n) s.b8 (@TS.aj Z cf.n s).H): ∀(l:List Item) (Z:FZ) (s:TS),@Fits Z s→l.all (·.lit)=true→(vM cf ep ops l s K).den R→
  ku P [] ops l (s.tT cf.n) s.b8 (@TS.aj Z cf.n s).H Kp
 | [],Z,s,aB,_,h=>hK s Z h aB
 | x::r,Z,s,aB,aw,h=>by
  simp only[List.all_cons,Bool.and_eq_true] at aw
  show pu ops x.lit (opI ops x.i) _ _ _
  rw[aw.1]
  have next: ∀(s' s2:TS) (Z2:FZ) (v:TV),@Fits Z2 s2→s2.tT cf.n=s'.tT cf.n→(vM cf ep ops r (kK cf.n s2 (opI ops x.i).dst v) K).den R→ku P [] ops r (putA (s'.tT cf.n) (opI ops x.i).dst v.bk) s2.b8 (@TS.aj Z2 cf.n s2).H Kp:=fun s' s2 Z2 v hf e hv=>by
   have:=Xt ag hK r Z2 _ (@Dm Z2 _ ag _ _ _ hf) aw.2 hv
   obtain⟨q1,q2,q3⟩:=aj3 (cf:=cf) Z2 ag s2 (opI ops x.i).dst v
   rw[q1,q2,q3] at this
   rw[←e];exact this
  refine Ry (Z:=Z) ag aB (fun s' hf e h=> ?_) (fun s' hf e h=> ?_) h
  ·have gW:s'.b8=s.b8:=congrArg St.L e
   rw[←e,←gW]
   cases U:x.q with
   | true=>
    rw[U] at h
    show lR P (opI ops x.i) (b6 (s'.aj cf.n).T) (s'.aj cf.n).L (s'.aj cf.n).H _
    cases aG:rk (opI ops x.i) with
    | true=>
     rw[aG] at h
     simp only at h
     split at h
     ·rename_i d aV
      obtain⟨h1,h2⟩:=h
      rw[lu]
      have:=congrFun (congrFun h1 (s'.aj cf.n).H) (fun v=>ku P [] ops r (putA (s'.aj cf.n).T (opI ops x.i).dst v) (s'.aj cf.n).L (s'.aj cf.n).H Kp)
      have this:lR P (opI ops x.i) (fun x=>(cr cf.n s' x).bk) (s'.aj cf.n).L (s'.aj cf.n).H (fun v=>ku P [] ops r (putA (s'.aj cf.n).T (opI ops x.i).dst v) (s'.aj cf.n).L (s'.aj cf.n).H Kp)=_:=this
      refine Eq.mpr this ?_
      exact next s' s' Z (.lp d 0) hf rfl h2
     ·exact h.elim
    | false=>
     rw[aG] at h
     rw[y_ aG]
     simp only at h
     split at h
     ·rename_i c a b fL
      have:=WG (Z:=Z) ag (Kp:=fun v=>ku P [] ops r (putA (s'.aj cf.n).T (opI ops x.i).dst v) (s'.aj cf.n).L (s'.aj cf.n).H Kp) hf (fun v s2 hf2 e2 hv=>by
       have:=next s' s2 Z v hf2 (congrArg St.T e2) hv
       have cF:s2.b8=s'.b8:=congrArg St.L e2
       rw[cF,e2] at this;exact this) h
      unfold j_
      rw[fL];exact this
     ·exact Xh hf (Kp:=fun v=>ku P [] ops r (putA (s'.aj cf.n).T (opI ops x.i).dst v) (s'.aj cf.n).L (s'.aj cf.n).H Kp) (fun v hv=>next s' s' Z v hf rfl hv) h
   | false=>
    rw[U] at h
    simp only at h
    split at h
    ·exact h.elim
    ·exact aaf (Z:=Z) ag hf (Kp:=fun v L' H'=>tl P ops x.jV (s'.tT cf.n) L' H'∧ku P [] ops r (putA (s'.tT cf.n) (opI ops x.i).dst v) L' H' Kp) (fun v s2 Z2 hv hf2 e2=>by
      obtain⟨q1,q2⟩:=Rk (Z:=Z2) hv
      have q1:tl P ops x.jV (s2.tT cf.n) s2.b8 (@TS.aj Z2 cf.n s2).H:=q1
      rw[e2] at q1
      exact⟨q1,next s' s2 Z2 v hf2 e2 q2⟩) h
  ·have:=next s' s' Z (.tup []) hf rfl h
   have iA:s'.tT cf.n=s.tT cf.n:=congrArg St.T e
   have hO:s'.b8=s.b8:=congrArg St.L e
   rw[iA,hO,e] at this
   exact this
end
end Go.Proofs.YtejmihecgodhnaaGreatDoor.Fw
