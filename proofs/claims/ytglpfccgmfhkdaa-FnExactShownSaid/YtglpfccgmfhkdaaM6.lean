/- Walks and summaries of functions, printed by a program of mine (tools/mk2.py), with the proofs of what they owe. -/
import Derived.Test.YtglpfccgmfhkdaaM5
set_option linter.unusedVariables false
set_option maxRecDepth 100000
set_option maxHeartbeats 4000000
set_option linter.unusedSimpArgs false
namespace Go.Proofs.Ytglpfccgmfhkdaa.Fw
open Go
attribute [local irreducible] evS evSD WpS Weak Oper.looksAt
noncomputable def Yo:Code:=jo Try.f41
def Ly (a0:aG) (J:Frame) (ac:Bool):Prop:=
  (K8 a0 (af J).ok (af J).aA (af J).av (af J).M (List.range (af J).M.length) (List.map ab.U (af J).M))∧(∀(ev:List ab) (i28:List Nat) (k1:List (List Bool)),yE a0 (af J).ok (af J).aA (af J).av (af J).M (List.range (af J).M.length) (List.map ab.U (af J).M) (af J).aA (af J).av ev i28 k1→(((af J).aA.length≤4611686018427387904∧(af J).av.length≤4611686018427387904∧(kV ev i28 k1∧ev.length≤4611686018427387904∧(∀x∈k1,List.length x≤4611686018427387904))∧K4 J (Frame.mk (af J).ok (af J).aA (af J).av (view ev i28 k1)))∧((lC J (Frame.mk (af J).ok (af J).aA (af J).av (view ev i28 k1)))=ac)))
def Dd (a0:aG) (J:Frame) (ac:Bool) (v76 cx:Int):Prop:=
  ((cx !=v76)=true→(0≤cx∧cx.toNat<a0.bA.length)∧((0≤v76∧v76.toNat<(nth a0.bA cx).length)∧((nth (nth a0.bA cx) v76)=true→(0≤cx∧cx.toNat<J.M.length)∧(((nth J.M cx).au !=0)=true→0≤v76∧v76.toNat<J.M.length))))∧(((cx !=v76)&&((nth (nth a0.bA cx) v76)&&(((nth J.M cx).au !=0)&&((nth J.M v76).au !=0))))=true→false=ac)
def De (aX:Int→Int→Prop) (aY:Int→Int→Nat) (bw:cN Prop) (bu:cN Nat) (a0:aG) (J:Frame) (ac:Bool) (dk v76 cx:Int):Prop:=
  ((decide (v76<(J.M.length:Int)))=false→aX dk (IntKind.i64.wrap (cx+1))∧aY dk (IntKind.i64.wrap (cx+1))<aY dk cx)∧((decide (v76<(J.M.length:Int)))=true→(Dd a0 J ac v76 cx)∧((!((cx !=v76)&&((nth (nth a0.bA cx) v76)&&(((nth J.M cx).au !=0)&&((nth J.M v76).au !=0)))))=true→bw dk cx (IntKind.i64.wrap (v76+1))∧bu dk cx (IntKind.i64.wrap (v76+1))<bu dk cx v76))
def Df (ai:Int→Prop) (al:Int→Nat) (aX:Int→Int→Prop) (aY:Int→Int→Nat) (bw:cN Prop) (bu:cN Nat) (a0:aG) (J:Frame) (ac:Bool) (dk:Int):Prop:=
  ((decide (dk<(J.av.length:Int)))=false→J.M.length≤4611686018427387904→aX dk 0∧ ∀(cx:Int),aX dk cx→(((decide (cx<(J.M.length:Int)))=false→(l8 J)∧(Ly a0 J ac))∧((decide (cx<(J.M.length:Int)))=true→((Gp a0 J cx)∧((!(fE a0 J cx))=true→false=ac))∧((!(!(fE a0 J cx)))=true→bw dk cx 0∧ ∀(v76:Int),bw dk cx v76→(De aX aY bw bu a0 J ac dk v76 cx)))))∧((decide (dk<(J.av.length:Int)))=true→((0≤dk∧dk.toNat<J.av.length)∧(((!(bK (nth J.av dk).b1 1 2)) || (!(bK (nth J.av dk).aQ 0 2)))=true→false=ac))∧((!((!(bK (nth J.av dk).b1 1 2)) || (!(bK (nth J.av dk).aQ 0 2))))=true→ai (IntKind.i64.wrap (dk+1))∧al (IntKind.i64.wrap (dk+1))<al dk))
def Dg (ai:Int→Prop) (al:Int→Nat) (aX:Int→Int→Prop) (aY:Int→Int→Nat) (bw:cN Prop) (bu:cN Nat) (a0:aG) (J:Frame) (ac:Bool):Prop:=
  (((!(ft a0)) || ((!J.ok) || (((J.aA.length:Int) !=a0.ah) || (((J.av.length:Int) !=(a0.bD.length:Int)) || ((J.M.length:Int) !=(a0.M.length:Int))))))=true→false=ac)∧((!((!(ft a0)) || ((!J.ok) || (((J.aA.length:Int) !=a0.ah) || (((J.av.length:Int) !=(a0.bD.length:Int)) || ((J.M.length:Int) !=(a0.M.length:Int)))))))=true→J.av.length≤4611686018427387904→ai 0∧ ∀(dk:Int),ai dk→(Df ai al aX aY bw bu a0 J ac dk))
def Dc (a0:aG) (J:Frame) (ac:Bool) (ai:Int→Prop) (al:Int→Nat) (aX:Int→Int→Prop) (aY:Int→Int→Nat) (bw:cN Prop) (bu:cN Nat):Prop:=
 Dg ai al aX aY bw bu a0 J ac
theorem Yq (a0:aG) (J:Frame) (ac:Bool) (ai:Int→Prop) (al:Int→Nat) (aX:Int→Int→Prop) (aY:Int→Int→Nat) (bw:cN Prop) (bu:cN Nat) (h:Dc a0 J ac ai al aX aY bw bu):bf Try.prog 41 [.agg (bW false a0),.agg (ck false J)] (ax ac):=by
 unfold Dc at h
 refine c8.go (fn:=Try.f41) [(0,.agg (bW false a0)),(1,.agg (ck false J))] Try.func41 (fun _ _=> ?_)
 show WpS _ (bC Yo 1) _ ⟨bq 119 [(0,.agg (bW false a0)),(1,.agg (ck false J))],[],[]⟩
 refine WpS.oS ?_ (nb (s'':=⟨(bq 119 [(0,.agg (bW false a0)),(1,.agg (ck false J))]),[],[⟨0,4,[]⟩]⟩) (Weak.Cj (T:=(bq 119 [(0,.agg (bW false a0)),(1,.agg (ck false J))])) (L:=[]) (H:=[]) 4) (by kernel_rfl))
 refine r7 [2000009] 0 [(4,ax false),(3,aW 3 0),(2,aW 2 0)] [0,1,2] [] [(3,(ck false J)),(2,(bW false a0))] [⟨0,4,[]⟩] ?_
 unfold Dg at h
 obtain⟨KC,h⟩:=h
 refine dA [] [2] ((!((!(ft a0)) || ((!J.ok) || (((J.aA.length:Int) !=a0.ah) || (((J.av.length:Int) !=(a0.bD.length:Int)) || ((J.M.length:Int) !=(a0.M.length:Int)))))))=true) ?_ (fun q2=> ?_)
 ·
  replace h:=KC
  refine dA [(43,ax ((!(ft a0)) || ((!J.ok) || (((J.aA.length:Int) !=a0.ah) || (((J.av.length:Int) !=(a0.bD.length:Int)) || ((J.M.length:Int) !=(a0.M.length:Int)))))))] [2] (True) ?_ (fun q3=> ?_)
  ·
   refine b3 [2000009] 1 ?_
   refine tk 2 (some 11) [(10,.agg (bW false a0))] [.agg (bW false a0)] (YG a0) (aK.cons (dE.agg (aK.cons (.int _ _) (aK.cons fi (aK.cons fi (aK.cons fi (aK.cons (.int _ _) aK.nil)))))) aK.nil) ?_
   refine nS 2 13 (!(ft a0)) [(12,ax (!(ft a0)))] (fun q4=> ?_) (fun q4=> ?_)
   ·
    exact cI ([(43,ax true)]++fB [42,41,40,39,38,37,36]++[(35,ax true),(34,ax true)]++fB [33,32,31,30,29,28,27]++[(26,ax true),(25,ax true)]++fB [24,23,22,21,20,19]++[(18,ax true),(17,ax true)]++fB [16,15,14]) trivial (by simp only[q4]<;>kernel_rfl)
   ·
    refine nS 5 18 (!J.ok) [(17,ax (!J.ok)),(16,ax (!J.ok)),(15,ax J.ok),(14,aW 3 0)] (fun cw=> ?_) (fun cw=> ?_)
    ·
     exact cI ([(43,ax true)]++fB [42,41,40,39,38,37,36]++[(35,ax true),(34,ax true)]++fB [33,32,31,30,29,28,27]++[(26,ax true),(25,ax true)]++fB [24,23,22,21,20,19]) trivial (by simp only[q4,cw]<;>kernel_rfl)
    ·
     refine sLen 3 (some 21) [(20,bp aT J.aA),(19,aW 3 1)] aT J.aA (fun cr=> ?_)
     refine nS 5 26 ((J.aA.length:Int) !=a0.ah) [(25,ax ((J.aA.length:Int) !=a0.ah)),(24,ax ((J.aA.length:Int) !=a0.ah)),(23,ar a0.ah),(22,aW 2 0)] (fun gw=> ?_) (fun gw=> ?_)
     ·
      exact cI ([(43,ax true)]++fB [42,41,40,39,38,37,36]++[(35,ax true),(34,ax true)]++fB [33,32,31,30,29,28,27]) trivial (by simp only[q4,cw,gw]<;>kernel_rfl)
     ·
      refine sLen 3 (some 29) [(28,bp bn J.av),(27,aW 3 2)] bn J.av (fun iP=> ?_)
      refine sLen 3 (some 32) [(31,bp ca a0.bD),(30,aW 2 1)] ca a0.bD (fun jT=> ?_)
      refine nS 3 35 ((J.av.length:Int) !=(a0.bD.length:Int)) [(34,ax ((J.av.length:Int) !=(a0.bD.length:Int))),(33,ax ((J.av.length:Int) !=(a0.bD.length:Int)))] (fun gL=> ?_) (fun gL=> ?_)
      ·
       exact cI ([(43,ax true)]++fB [42,41,40,39,38,37,36]) trivial (by simp only[q4,cw,gw,gL]<;>kernel_rfl)
      ·
       refine sLen 3 (some 38) [(37,bp (cl false) J.M),(36,aW 3 3)] (cl false) J.M (fun jS=> ?_)
       refine sLen 3 (some 41) [(40,bp (dI false) a0.M),(39,aW 2 2)] (dI false) a0.M (fun mU=> ?_)
       exact cI [(43,ax ((J.M.length:Int) !=(a0.M.length:Int))),(42,ax ((J.M.length:Int) !=(a0.M.length:Int)))] trivial (by simp only[q4,cw,gw,gL]<;>kernel_rfl)
  refine gq (fun fI=> ?_) (fun fI=> ?_)
  ·
   replace h:=h fI
   refine hD [2000009] 2 [(4,ax false)] [1] [] ?_
   exact ij (cL.ret (rc (ax false) (jj.h0 (ru h))))
  ·
   refine fc ?_
   exact cL.normal (by simp only[fI]<;>rfl) fb
 replace h:=h q2
 refine iF ?_
 refine dA [(45,bp bn J.av),(46,ar (J.av.length:Int)),(47,ar 0)] [2] (J.av.length≤4611686018427387904) ?_ (fun oF=> ?_)
 ·
  refine b3 [2000009] 3 ?_
  refine sLen 3 (some 46) [(45,bp bn J.av),(44,aW 3 2)] bn J.av (fun nM=> ?_)
  exact cI [(47,ar 0)] nM
 replace h:=h oF
 refine hC 0 ?_
 obtain⟨vw,h⟩:=h
 refine ml (fun(v:Int)=>(⟨(bq 119 [(2,aW 2 0),(3,aW 3 0),(45,bp bn J.av),(46,ar (J.av.length:Int)),(47,ar v)]),[(3,(ck false J)),(2,(bW false a0))],[⟨0,4,[]⟩]⟩:St)) (fun(v:Int)=>ai v) (fun(v:Int)=>al v) 0 (gz []) vw (fun dk aV=> ?_)
 replace h:=h dk aV
 refine hD [2000009] 4 [(48,ax (decide (dk<(J.av.length:Int))))] [1] [5] ?_
 unfold Df at h
 obtain⟨yq,h⟩:=h
 refine dA [] [0,1,5] ((decide (dk<(J.av.length:Int)))=true) ?_ (fun l5=> ?_)
 ·
  replace h:=yq
  refine gq (fun hM=> ?_) (fun hM=> ?_)
  ·
   refine fc ?_
   exact cL.normal (by simp only[q2,hM]<;>rfl) fb
  ·
   replace h:=h hM
   refine kx 0 ?_
   refine cL.exit ?_
   refine ef.exit ?_
   refine dz.here ?_
   refine dH.normal ?_
   refine iF ?_
   refine jK ⟨(bq 119 [(2,aW 2 0),(3,aW 3 0),(64,ar (J.M.length:Int)),(65,ar 0)]),[(3,(ck false J)),(2,(bW false a0))],[⟨0,4,[]⟩]⟩ (J.M.length≤4611686018427387904) ?_ (fun kh=> ?_)
   ·
    refine b3 [2000009] 9 ?_
    refine sLen 3 (some 64) [(63,bp (cl false) J.M),(62,aW 3 3)] (cl false) J.M (fun mW=> ?_)
    exact cI [(65,ar 0)] mW
   replace h:=h kh
   refine hC 2 ?_
   obtain⟨CE,h⟩:=h
   refine ml (fun(v:Int)=>(⟨(bq 119 [(2,aW 2 0),(3,aW 3 0),(64,ar (J.M.length:Int)),(65,ar v)]),[(3,(ck false J)),(2,(bW false a0))],[⟨0,4,[]⟩]⟩:St)) (fun(v:Int)=>aX dk v) (fun(v:Int)=>aY dk v) 0 (gz []) CE (fun cx aV=> ?_)
   replace h:=h cx aV
   refine hD [2000009] 10 [(66,ax (decide (cx<(J.M.length:Int))))] [1] [4] ?_
   obtain⟨td,h⟩:=h
   refine dA [] [0,1,4] ((decide (cx<(J.M.length:Int)))=true) ?_ (fun ki=> ?_)
   ·
    replace h:=td
    refine gq (fun iB=> ?_) (fun iB=> ?_)
    ·
     refine fc ?_
     exact cL.normal (by simp only[q2,hM,iB]<;>rfl) fb
    ·
     replace h:=h iB
     refine kx 2 ?_
     refine cL.exit ?_
     refine ef.exit ?_
     refine dz.here ?_
     refine dH.normal ?_
     obtain⟨oI,h⟩:=h
     refine jK ⟨(bq 119 [(2,aW 2 0),(3,aW 3 0),(9,.ptr 0 1 0 0)]),[(3,(ck false J)),(2,(bW false a0))],(⟨1,4,[[ax (af J).ok,ay 1 0 (af J).aA.length,ay 2 0 (af J).av.length,ay 3 0 (af J).M.length]]⟩::⟨0,1,List.map aT (af J).aA⟩::⟨0,2,List.map bn (af J).av⟩::⟨0,5,bd 4 (af J).M (List.range (af J).M.length)⟩::List.map bz (List.map ab.U (af J).M))⟩ (True) ?_ (fun jc=> ?_)
     ·
      replace h:=oI
      refine b3 [2000009] 21 ?_
      have kj:=h
      refine yC 2 (some 113) [(112,.agg (ck false J))] [.agg (ck false J)] (.agg [ax (af J).ok,ay 1 0 (af J).aA.length,ay 2 0 (af J).av.length,ay 3 0 (af J).M.length]) (⟨0,4,[]⟩::⟨0,1,List.map aT (af J).aA⟩::⟨0,2,List.map bn (af J).av⟩::⟨0,5,bd 4 (af J).M (List.range (af J).M.length)⟩::List.map bz (List.map ab.U (af J).M)) (YL J kj) (aK.cons (dE.agg (aK.cons (.bool _) (aK.cons fi (aK.cons fi (aK.cons fi aK.nil))))) aK.nil) JY (tp XD (by kernel_rfl)) ?_ (er:=by simp[m3,oP,h6])
      refine CY 1 [(9,.ptr 0 1 0 0)] [(3,(ck false J)),(2,(bW false a0))] (⟨1,4,[[ax false,bh,bh,bh]]⟩::⟨0,1,List.map aT (af J).aA⟩::⟨0,2,List.map bn (af J).av⟩::⟨0,5,bd 4 (af J).M (List.range (af J).M.length)⟩::List.map bz (List.map ab.U (af J).M)) ?_
      refine Xp 1 [] (⟨1,4,[[ax (af J).ok,ay 1 0 (af J).aA.length,ay 2 0 (af J).av.length,ay 3 0 (af J).M.length]]⟩::⟨0,1,List.map aT (af J).aA⟩::⟨0,2,List.map bn (af J).av⟩::⟨0,5,bd 4 (af J).M (List.range (af J).M.length)⟩::List.map bz (List.map ab.U (af J).M)) (φ:=1=1) (ψ:=4≤4) rfl (by decide) ?_
      exact cI [] trivial
     unfold Ly at h
     refine iF ?_
     refine b3 [2000009] 22 ?_
     obtain⟨mY,h⟩:=h
     refine CX 2 (some 115) [(114,.agg (bW false a0))] [.agg (bW false a0),.ptr 0 1 0 0] _ (Y3 a0 1 (af J).ok (af J).aA (af J).av (af J).M (List.range (af J).M.length) (List.map ab.U (af J).M) mY) (fun r H' ag=>by obtain⟨_,_,_,rfl,_⟩:=ag;rfl) ?_
     rintro r H' ⟨ev,i28,k1,rfl,rfl,oH⟩
     replace h:=h ev i28 k1 oH
     refine fA [] ?_
     refine dH.normal ?_
     obtain⟨kl,h⟩:=h
     refine jK ⟨(bq 119 [(4,ax (lC J (Frame.mk (af J).ok (af J).aA (af J).av (view ev i28 k1))))]),[(3,(ck false J)),(2,(bW false a0))],(⟨1,4,[[ax (af J).ok,ay 1 0 (af J).aA.length,ay 2 0 (af J).av.length,ay 3 0 ev.length]]⟩::⟨0,1,List.map aT (af J).aA⟩::⟨0,2,List.map bn (af J).av⟩::⟨0,5,bd 4 ev i28⟩::List.map bz k1)⟩ (True) ?_ (fun pJ=> ?_)
     ·
      replace h:=kl
      refine b3 [2000009] 23 ?_
      refine yB 2 (some 117) (.agg [ax (af J).ok,ay 1 0 (af J).aA.length,ay 2 0 (af J).av.length,ay 3 0 ev.length]) [(116,.agg (ck false J))] (φ:=1=1) rfl ?_
      obtain⟨mX,nN,kk,oG⟩:=h
      refine tk 1 (some 118) [] [.agg (ck false J),.agg [ax (af J).ok,ay 1 0 (af J).aA.length,ay 2 0 (af J).av.length,ay 3 0 ev.length]] (Y0 J (Frame.mk (af J).ok (af J).aA (af J).av (view ev i28 k1)) oG) (aK.cons (dE.agg (aK.cons (.bool _) (aK.cons fi (aK.cons fi (aK.cons fi aK.nil))))) (aK.cons (dE.agg (aK.cons (.bool _) (aK.cons (re (sz:=1) (by simp) rfl (xP) mX) (aK.cons (re (sz:=2) (by simp) rfl (Br) nN) (aK.cons (yD (s:=4) (ws:=ev) (ids:=i28) (bs:=k1) (by simp) rfl (fun id k h=>by simpa using h) kk.1 kk.2.1 kk.2.2) aK.nil))))) aK.nil)) ?_
      exact cI [(4,ax (lC J (Frame.mk (af J).ok (af J).aA (af J).av (view ev i28 k1))))] trivial
     exact ij (rc (ax (lC J (Frame.mk (af J).ok (af J).aA (af J).av (view ev i28 k1)))) (jj.h0 (ru h)))
   replace h:=h ki
   refine iF ?_
   refine hC 3 ?_
   refine hD [2000009] 11 [(7,ar cx),(67,ar cx)] [1] [4] ?_
   obtain⟨WG,h⟩:=h
   refine dA [] [5] ((!(!(fE a0 J cx)))=true) ?_ (fun lv=> ?_)
   ·
    replace h:=WG
    obtain⟨lx,h⟩:=h
    refine dA [(72,ax (!(fE a0 J cx)))] [5] (True) ?_ (fun q7=> ?_)
    ·
     replace h:=lx
     refine b3 [2000009] 12 ?_
     have q8:=h
     refine tk 4 (some 71) [(70,ar cx),(69,.agg (ck false J)),(68,.agg (bW false a0))] [.agg (bW false a0),.agg (ck false J),ar cx] (YO a0 J cx q8) (aK.cons (dE.agg (aK.cons (.int _ _) (aK.cons fi (aK.cons fi (aK.cons fi (aK.cons (.int _ _) aK.nil)))))) (aK.cons (dE.agg (aK.cons (.bool _) (aK.cons fi (aK.cons fi (aK.cons fi aK.nil))))) (aK.cons (dE.h0 (.int _ _)) aK.nil))) ?_
     exact cI [(72,ax (!(fE a0 J cx)))] trivial
    refine gq (fun kM=> ?_) (fun kM=> ?_)
    ·
     replace h:=h kM
     refine hD [2000009] 13 [(4,ax false)] [1] [] ?_
     exact ij (cL.ret (dz.ret (dH.ret (ef.ret (dz.ret (dH.ret (rc (ax false) (jj.h0 (ru h)))))))))
    ·
     refine fc ?_
     exact cL.normal (by simp only[q2,hM,ki,kM]<;>rfl) fb
   replace h:=h lv
   refine dA [(75,ar (J.M.length:Int)),(76,ar 0)] [5] (True) ?_ (fun mZ=> ?_)
   ·
    refine b3 [2000009] 14 ?_
    refine sLen 3 (some 75) [(74,bp (cl false) J.M),(73,aW 3 3)] (cl false) J.M (fun oJ=> ?_)
    exact cI [(76,ar 0)] trivial
   refine hC 4 ?_
   obtain⟨oL,h⟩:=h
   refine ml (fun(v:Int)=>(⟨(bq 119 [(2,aW 2 0),(3,aW 3 0),(7,ar cx),(64,ar (J.M.length:Int)),(65,ar cx),(75,ar (J.M.length:Int)),(76,ar v)]),[(3,(ck false J)),(2,(bW false a0))],[⟨0,4,[]⟩]⟩:St)) (fun(v:Int)=>bw dk cx v) (fun(v:Int)=>bu dk cx v) 0 (gz []) oL (fun v76 aV=> ?_)
   replace h:=h v76 aV
   refine hD [2000009] 15 [(77,ax (decide (v76<(J.M.length:Int))))] [1] [7] ?_
   unfold De at h
   obtain⟨nQ,h⟩:=h
   refine dA [] [0,1,7] ((decide (v76<(J.M.length:Int)))=true) ?_ (fun ly=> ?_)
   ·
    replace h:=nQ
    refine gq (fun iO=> ?_) (fun iO=> ?_)
    ·
     refine fc ?_
     exact cL.normal (by simp only[q2,hM,ki,lv,iO]<;>rfl) fb
    ·
     replace h:=h iO
     refine kx 4 ?_
     refine cL.exit ?_
     refine ef.exit ?_
     refine dz.here ?_
     refine dz.normal ?_
     refine dH.normal ?_
     refine b3 [2000009] 20 ?_
     refine fA [(65,ar (IntKind.i64.wrap (cx+1))),(111,ar (IntKind.i64.wrap (cx+1)))] ?_
     exact ef.again (IntKind.i64.wrap (cx+1)) h (gz [])
   replace h:=h ly
   obtain⟨vu,h⟩:=h
   refine dA [] [7] ((!((cx !=v76)&&((nth (nth a0.bA cx) v76)&&(((nth J.M cx).au !=0)&&((nth J.M v76).au !=0)))))=true) ?_ (fun vr=> ?_)
   ·
    replace h:=vu
    refine hC 5 ?_
    refine hD [2000009] 16 [(8,ar v76),(78,ar v76)] [1] [7] ?_
    unfold Dd at h
    obtain⟨m0,h⟩:=h
    refine dA [(109,ax ((cx !=v76)&&((nth (nth a0.bA cx) v76)&&(((nth J.M cx).au !=0)&&((nth J.M v76).au !=0)))))] [0,1,7] (True) ?_ (fun nO=> ?_)
    ·
     replace h:=m0
     refine b3 [2000009] 17 ?_
     refine nS 4 82 (cx !=v76) [(81,ax (cx !=v76)),(80,ar v76),(79,ar cx)] (fun nP=> ?_) (fun nP=> ?_)
     ·
      replace h:=h nP
      obtain⟨vt,h⟩:=h
      refine m2 4 (some 86) [(85,ar cx),(84,bp (e3 aT false) a0.bA),(83,aW 2 3)] (e3 aT false) a0.bA 1 vt ?_
      obtain⟨lz,h⟩:=h
      refine m2 3 (some 89) [(88,ar v76),(87,bp aT (nth a0.bA cx))] aT (nth a0.bA cx) 1 lz ?_
      refine nS 3 92 (nth (nth a0.bA cx) v76) [(91,ax (nth (nth a0.bA cx) v76)),(90,ax (nth (nth a0.bA cx) v76))] (fun oK=> ?_) (fun oK=> ?_)
      ·
       replace h:=h oK
       obtain⟨q_,h⟩:=h
       refine m2 4 (some 96) [(95,ar cx),(94,bp (cl false) J.M),(93,aW 3 3)] (cl false) J.M 5 q_ ?_
       refine nS 5 101 ((nth J.M cx).au !=0) [(100,ax ((nth J.M cx).au !=0)),(99,ax ((nth J.M cx).au !=0)),(98,ar (nth J.M cx).au),(97,.cD (cl false (nth J.M cx)) 0)] (fun tb=> ?_) (fun tb=> ?_)
       ·
        replace h:=h tb
        have CD:=h
        refine m2 4 (some 105) [(104,ar v76),(103,bp (cl false) J.M),(102,aW 3 3)] (cl false) J.M 5 CD ?_
        exact cI [(109,ax ((nth J.M v76).au !=0)),(108,ax ((nth J.M v76).au !=0)),(107,ar (nth J.M v76).au),(106,.cD (cl false (nth J.M v76)) 0)] trivial (by simp only[q2,hM,ki,lv,ly,nP,oK,tb]<;>kernel_rfl)
       ·
        exact cI ([(109,ax false)]++fB [108,107,106,105,104,103,102]) trivial (by simp only[q2,hM,ki,lv,ly,nP,oK,tb]<;>kernel_rfl)
      ·
       exact cI ([(109,ax false)]++fB [108,107,106,105,104,103,102]++[(101,ax false),(100,ax false)]++fB [99,98,97,96,95,94,93]) trivial (by simp only[q2,hM,ki,lv,ly,nP,oK]<;>kernel_rfl)
     ·
      exact cI ([(109,ax false)]++fB [108,107,106,105,104,103,102]++[(101,ax false),(100,ax false)]++fB [99,98,97,96,95,94,93]++[(92,ax false),(91,ax false)]++fB [90,89,88,87,86,85,84,83]) trivial (by simp only[q2,hM,ki,lv,ly,nP]<;>kernel_rfl)
    refine gq (fun tc=> ?_) (fun tc=> ?_)
    ·
     replace h:=h tc
     refine hD [2000009] 18 [(4,ax false)] [1] [] ?_
     exact ij (dz.ret (cL.ret (ef.ret (dz.ret (dz.ret (dH.ret (ef.ret (dz.ret (dH.ret (rc (ax false) (jj.h0 (ru h))))))))))))
    ·
     refine fc ?_
     refine dz.normal ?_
     exact cL.normal (by simp only[q2,hM,ki,lv,ly,tc]<;>rfl) fb
   replace h:=h vr
   refine b3 [2000009] 19 ?_
   refine fA [(76,ar (IntKind.i64.wrap (v76+1))),(110,ar (IntKind.i64.wrap (v76+1)))] ?_
   exact ef.again (IntKind.i64.wrap (v76+1)) h (gz [])
 replace h:=h l5
 obtain⟨yp,h⟩:=h
 refine gH [] [5] (fun L=>(6,(bn (nth J.av dk)))::L) id ((!((!(bK (nth J.av dk).b1 1 2)) || (!(bK (nth J.av dk).aQ 0 2))))=true) ?_ (fun ym=> ?_)
 ·
  replace h:=yp
  refine hC 1 ?_
  obtain⟨yo,h⟩:=h
  refine gH [(6,aW 6 0)] [5] (fun L=>(6,(bn (nth J.av dk)))::L) id (True) ?_ (fun CF=> ?_)
  ·
   replace h:=yo
   refine b3 [2000009] 5 ?_
   have yn:=h
   refine m2 1 (some 49) [] bn J.av 2 yn ?_
   exact cI [(6,aW 6 0),(50,.agg (bn (nth J.av dk)))] trivial
  refine dA [(60,ax ((!(bK (nth J.av dk).b1 1 2)) || (!(bK (nth J.av dk).aQ 0 2))))] [0,1,5] (True) ?_ (fun CG=> ?_)
  ·
   refine b3 [2000009] 6 ?_
   refine tk 3 (some 53) [(52,ar (nth J.av dk).b1),(51,aW 6 0)] [ar (nth J.av dk).b1,ar 1,ar 2] (Dh (nth J.av dk).b1 1 2) (aK.cons (dE.h0 (.int _ _)) (aK.cons (dE.h0 (.int _ _)) (aK.cons (dE.h0 (.int _ _)) aK.nil))) ?_
   refine nS 2 55 (!(bK (nth J.av dk).b1 1 2)) [(54,ax (!(bK (nth J.av dk).b1 1 2)))] (fun vv=> ?_) (fun vv=> ?_)
   ·
    exact cI ([(60,ax true)]++fB [59,58,57,56]) trivial (by simp only[q2,l5,vv]<;>kernel_rfl)
   ·
    refine tk 3 (some 58) [(57,ar (nth J.av dk).aQ),(56,aW 6 1)] [ar (nth J.av dk).aQ,ar 0,ar 2] (Dh (nth J.av dk).aQ 0 2) (aK.cons (dE.h0 (.int _ _)) (aK.cons (dE.h0 (.int _ _)) (aK.cons (dE.h0 (.int _ _)) aK.nil))) ?_
    exact cI [(60,ax (!(bK (nth J.av dk).aQ 0 2))),(59,ax (!(bK (nth J.av dk).aQ 0 2)))] trivial (by simp only[q2,l5,vv]<;>kernel_rfl)
  refine gq (fun te=> ?_) (fun te=> ?_)
  ·
   replace h:=h te
   refine hD [2000009] 7 [(4,ax false)] [1] [] ?_
   exact ij (dz.ret (cL.ret (ef.ret (dz.ret (dH.ret (rc (ax false) (jj.h0 (ru h))))))))
  ·
   refine fc ?_
   refine dz.normal ?_
   exact cL.normal (by simp only[q2,l5,te]<;>rfl) fb
 replace h:=h ym
 refine b3 [2000009] 8 ?_
 refine fA [(47,ar (IntKind.i64.wrap (dk+1))),(61,ar (IntKind.i64.wrap (dk+1)))] ?_
 exact ef.again (IntKind.i64.wrap (dk+1)) h (gz [6])
theorem Yn (a0:aG) (J:Frame) (ak:la a0 J):bf Try.prog 41 [.agg (bW false a0),.agg (ck false J)] (ax (gd a0 J)):=Yq a0 J (gd a0 J) (b4 J.av.length (fun j=>(!(bK (nth J.av j).b1 1 2)) || (!(bK (nth J.av j).aQ 0 2)))) (cn J.av.length) (fun _ i=>(∀x∈J.av,kK x=true)∧b4 J.M.length (fun i=> !(fE a0 J i) || tj a0 J J.M.length i) i) (fun _=>cn J.M.length) (fun _ i=>b4 J.M.length (fun k=>jn a0 J i k)) (fun _ _=>cn J.M.length) (by
 unfold Dc Dg
 have hs:l8 J:=ak
 have no: ∀φ:Prop,(gd a0 J=true→φ)→ ¬φ→false=gd a0 J:=fun φ h1 h2=>by
  cases h:gd a0 J with
  | false=>rfl
  | true=>exact absurd (h1 h) h2
 have D:=fun h=>(sk (p:=a0) (f:=J)).1 h
 refine⟨fun ag=>no _ D (fun aZ=>by have:=aZ.1;unfold o7 at this;rw[ag] at this;cases this),fun ag ap=>⟨c6 (cQ _),fun v aV=> ?_⟩⟩
 have mz:o7 a0 J=true:=ag
 obtain⟨hg,b7,wB,NJ,zi⟩:=uf.1 mz
 have fD:=Cu hg
 have cV:=Kb hg
 unfold Df
 refine⟨fun hv hm=> ?_,fun hv=>⟨⟨cq aV hv,fun hb=>no _ D fun aZ=> ?_⟩,fun hb=>cX (c0 ap) aV hv (not_eq hb)⟩⟩
 ·have iH: ∀x∈J.av,kK x=true:=fun x hx=>by
   have:=jY (q:=fun x:b8=>(!(bK x.b1 1 2)) || (!(bK x.aQ 0 2))) (e_ aV hv) x hx
   unfold kK
   simpa[Bool.and_eq_true] using this
  refine⟨⟨iH,c6 (cQ _)⟩,fun i gf=>⟨fun hi=> ?_,fun hi=> ?_⟩⟩
  ·have ds:=e_ gf.2 hi
   have uB: ∀i:Int,0≤i→i<J.M.length→fE a0 J i=true:=fun i i0 i1=>by
    have:=ds i i0 i1
    rw[Bool.or_eq_false_iff] at this
    simpa using this.1
   have AP: ∀i k:Int,0≤i→i<J.M.length→0≤k→k<J.M.length→jn a0 J i k=false:=fun i k i0 i1 a7 cY=>by
    have:=ds i i0 i1
    rw[Bool.or_eq_false_iff] at this
    have h2:=this.2
    unfold tj at h2
    rw[List.any_eq_false] at h2
    have:=h2 k.toNat (List.mem_range.2 (by omega))
    rw[Int.toNat_of_nonneg a7] at this
    simpa using this
   have dn:n3 a0 J:=Ax mz fun i i0 i1=>by
    have:=uB i i0 i1
    rw[xp,Bool.and_eq_true] at this;exact this.1
   obtain⟨dr,dT,fh⟩:=Fo J.M
   have QO:ie J.M (List.range J.M.length) (J.M.map ab.U):=⟨dr,dT,fun b hb=>by
    obtain⟨h,bH,rfl⟩:=List.mem_map.1 hb;exact hs.2.2.2 h bH⟩
   have G5:cy J.ok J.aA J.av J.M (List.range J.M.length) (J.M.map ab.U)=J:=by unfold cy;rw[fh]
   refine⟨hs,⟨QO,?_⟩,fun w i b oi=> ?_⟩
   ·show vJ a0 (cy J.ok J.aA J.av J.M (List.range J.M.length) (J.M.map ab.U))
    rw[G5];exact⟨fD,dn⟩
   ·obtain⟨G,hv⟩:=oi
    replace hv:view w i b=(kO a0 (cy J.ok J.aA J.av J.M (List.range J.M.length) (J.M.map ab.U))).M:=hv
    rw[G5] at hv
    have aE:w.length=J.M.length:=by rw[←h9 G.ok,hv];exact rl _ _ _
    have F7:=yF dn J.M.length
    obtain⟨s1,s2,gM,Xg⟩:=hs
    have mF:(kO a0 J).M.length=J.M.length:=rl _ _ _
    have sp: ∀h∈(kO a0 J).M,h.U.length≤1048576:=fun h bH=>by
     obtain⟨j,aC,rfl⟩:=List.mem_iff_getElem.1 bH
     have:=F7.U j _ _ (List.getElem?_eq_getElem aC) (List.getElem?_eq_getElem (by omega))
     rw[this]
     have:=(fD.ah _ (List.getElem_mem (show j<a0.M.length by omega))).2.1
     omega
    refine⟨⟨by show J.aA.length≤_;omega,by show J.av.length≤_;omega,⟨G.ok,by omega,fun x hx=>by have:=G.len x hx;omega⟩,?_,⟨s1,s2,gM,Xg⟩,⟨s1,s2,?_,?_⟩,fun j x y bi e2=> ?_⟩,?_⟩
    ·show J.M.length=(view w i b).length;rw[h9 G.ok,aE]
    ·show(view w i b).length≤_;rw[h9 G.ok];omega
    ·show ∀h∈view w i b,_
     rw[hv];exact sp
    ·replace e2:(view w i b)[j]?=some y:=e2
     rw[hv] at e2
     have aC:=(List.getElem?_eq_some_iff.1 bi).1
     have hw:=List.getElem?_eq_getElem (show j<a0.M.length by omega)
     rw[dn.U j _ _ bi hw,F7.U j _ _ e2 hw]
    ·unfold lC
     show decide (J.M=view w i b)=_
     rw[hv]
     by_cases h:J.M=(kO a0 J).M
     ·rw[decide_eq_true h,sk.2 ⟨mz,iH,uB,AP,h⟩]
     ·rw[decide_eq_false h]
      exact no _ D fun aZ=>h aZ.2.2.2.2
  ·have dp:=cq gf.2 hi
   refine⟨⟨⟨fD,hs,zi,dp.1,by omega⟩,fun hb=>no _ D fun aZ=> ?_⟩,fun hb=>⟨c6 (cQ _),fun k hK=> ?_⟩⟩
   ·rw[aZ.2.2.1 i dp.1 (by omega)] at hb;cases hb
   ·have hb:fE a0 J i=true:=by simpa using hb
    unfold De
    refine⟨fun hk=> ?_,fun hk=>⟨?_,fun ag=>cX (c0 hm) hK hk (not_eq ag)⟩⟩
    ·have:=cX (c0 hm) gf.2 hi (show(!(fE a0 J i) || tj a0 J J.M.length i)=false by
      rw[hb]
      exact List.any_eq_false.2 fun k hG=>by rw[e_ hK hk k (by omega) (by have:=List.mem_range.1 hG;omega)];simp)
     exact⟨⟨iH,this.1⟩,this.2⟩
    ·have qy:=cq hK hk
     have gl:=cV.len
     have dR:=cV.row i dp.1 (by omega)
     unfold Dd
     refine⟨fun _=>⟨⟨dp.1,by omega⟩,⟨qy.1,by omega⟩,fun _=>⟨dp,fun _=>qy⟩⟩,fun ag=>no _ D fun aZ=> ?_⟩
     have:=aZ.2.2.2.1 i k dp.1 (by omega) qy.1 (by omega)
     have ag:jn a0 J i k=true:=ag
     rw[this] at ag;cases ag
 ·have:=aZ.2.1 _ (ek (cq aV hv).2)
  unfold kK at this
  rw[Bool.and_eq_true] at this
  rw[this.1,this.2] at hb;cases hb)
def Yp:cd Try.prog:=⟨41,[.c7,.frame],[.bool],some fun x=>la x.1 x.2.1,fun x=>((gd x.1 x.2.1),()),fun x h=>Yn x.1 x.2.1 h⟩
def Sr:List Item:=[aj 0,aj 1,aj 2,aj 3,aj 4,aj 5]
def Ss:List (List Nat):=[[],[],[],[1,2],rg 0 4,rg 0 5]
def He (bw:cN Prop) (bu:cN Nat) (a0:aG) (J:Frame) (ac:Bool) (dW jD b6:Int):Prop:=
  ((((nth J.M b6).au !=0)=true→(0≤jD∧jD.toNat<J.M.length)∧(((nth J.M jD).au !=0)=true→(0≤b6∧b6.toNat<a0.bA.length)∧(0≤jD∧jD.toNat<(nth a0.bA b6).length)))∧((((nth J.M b6).au !=0)&&(((nth J.M jD).au !=0)&&(nth (nth a0.bA b6) jD)))=true→false=ac))∧((!(((nth J.M b6).au !=0)&&(((nth J.M jD).au !=0)&&(nth (nth a0.bA b6) jD))))=true→bw dW b6 (IntKind.i64.wrap (jD+1))∧bu dW b6 (IntKind.i64.wrap (jD+1))<bu dW b6 jD)
def Hf (aX:Int→Int→Prop) (aY:Int→Int→Nat) (bw:cN Prop) (bu:cN Nat) (a0:aG) (J:Frame) (ac:Bool) (dW b6:Int):Prop:=
  ((((nth J.M b6).au==0)=true→(nth J.M b6).an=true→false=ac)∧(((nth J.M b6).au==0)=false→(bif ((nth J.M b6).au==2) then((nth J.M b6).au==2) else((nth J.M b6).au==3))=true→(!(nth J.M b6).an)=true→false=ac))∧((bif ((nth J.M b6).au==0) then(!(nth J.M b6).an) else(!(bif ((nth J.M b6).au==2) then((nth J.M b6).au==2) else((nth J.M b6).au==3)) || (!(!(nth J.M b6).an))))=true→bw dW b6 0∧ ∀(jD:Int),bw dW b6 jD→(((decide (jD<b6))=false→aX dW (IntKind.i64.wrap (b6+1))∧aY dW (IntKind.i64.wrap (b6+1))<aY dW b6)∧((decide (jD<b6))=true→He bw bu a0 J ac dW jD b6)))
def Hg (aX:Int→Int→Prop) (aY:Int→Int→Nat) (bw:cN Prop) (bu:cN Nat) (a0:aG) (J:Frame) (ac:Bool) (dW b6:Int):Prop:=
  ((((nth J.M b6).au==3)=true→((decide ((nth J.M b6).ao<1)) || (decide ((nth J.M b6).ao>a0.dV)))=true→false=ac)∧(((nth J.M b6).au==3)=false→((nth J.M b6).ao !=0)=true→false=ac))∧((bif ((nth J.M b6).au==3) then(!((decide ((nth J.M b6).ao<1)) || (decide ((nth J.M b6).ao>a0.dV)))) else(!((nth J.M b6).ao !=0)))=true→Hf aX aY bw bu a0 J ac dW b6)
def Hh (aX:Int→Int→Prop) (aY:Int→Int→Nat) (bw:cN Prop) (bu:cN Nat) (a0:aG) (J:Frame) (ac:Bool) (dW b6:Int):Prop:=
  ((((nth J.M b6).au !=4)=true→(((nth J.M b6).aa !=0) || (hF (nth J.M b6).U true))=true→false=ac)∧(((nth J.M b6).au !=4)=false→(0≤(nth J.M b6).aa∧(nth J.M b6).aa≤((nth J.M b6).U.length:Int))∧((hF ((nth J.M b6).U.take (nth J.M b6).aa.toNat) false)=true→false=ac)))∧((bif ((nth J.M b6).au !=4) then(!(((nth J.M b6).aa !=0) || (hF (nth J.M b6).U true))) else(!(hF ((nth J.M b6).U.take (nth J.M b6).aa.toNat) false)))=true→Hg aX aY bw bu a0 J ac dW b6)
def Hi (aX:Int→Int→Prop) (aY:Int→Int→Nat) (bw:cN Prop) (bu:cN Nat) (a0:aG) (J:Frame) (ac:Bool) (dW b6:Int):Prop:=
  (((decide ((nth J.M b6).au<0)) || ((decide ((nth J.M b6).au>4)) || ((((nth J.M b6).U.length:Int) !=((nth a0.M b6).ah.length:Int)) || ((decide ((nth J.M b6).aa<0)) || (decide ((nth J.M b6).aa ≥ ((nth a0.M b6).ah.length:Int)))))))=true→false=ac)∧((!((decide ((nth J.M b6).au<0)) || ((decide ((nth J.M b6).au>4)) || ((((nth J.M b6).U.length:Int) !=((nth a0.M b6).ah.length:Int)) || ((decide ((nth J.M b6).aa<0)) || (decide ((nth J.M b6).aa ≥ ((nth a0.M b6).ah.length:Int))))))))=true→Hh aX aY bw bu a0 J ac dW b6)
def Hj (ai:Int→Prop) (al:Int→Nat) (J:Frame) (ac:Bool) (dW:Int):Prop:=
  ((0≤dW∧dW.toNat<J.av.length)∧((bif ((nth J.av dW).b1 !=1) then(((nth J.av dW).b1 !=2) || ((decide ((nth J.av dW).aQ<0)) || (decide ((nth J.av dW).aQ>2)))) else((decide ((nth J.av dW).aQ<0)) || (decide ((nth J.av dW).aQ>2))))=true→false=ac))∧((!(bif ((nth J.av dW).b1 !=1) then(((nth J.av dW).b1 !=2) || ((decide ((nth J.av dW).aQ<0)) || (decide ((nth J.av dW).aQ>2)))) else((decide ((nth J.av dW).aQ<0)) || (decide ((nth J.av dW).aQ>2)))))=true→ai (IntKind.i64.wrap (dW+1))∧al (IntKind.i64.wrap (dW+1))<al dW)
def Hk (ai:Int→Prop) (al:Int→Nat) (aX:Int→Int→Prop) (aY:Int→Int→Nat) (bw:cN Prop) (bu:cN Nat) (a0:aG) (J:Frame) (ac:Bool) (dW:Int):Prop:=
  ((decide (dW<(J.av.length:Int)))=false→J.M.length≤4611686018427387904→aX dW 0∧ ∀(b6:Int),aX dW b6→(((decide (b6<(J.M.length:Int)))=false→(vJ a0 J)∧((rf J (kO a0 J))=ac))∧((decide (b6<(J.M.length:Int)))=true→(0≤b6∧b6.toNat<J.M.length)∧((0≤b6∧b6.toNat<a0.M.length)∧((nth a0.M b6).ah.length≤4611686018427387904→Hi aX aY bw bu a0 J ac dW b6)))))∧((decide (dW<(J.av.length:Int)))=true→Hj ai al J ac dW)
def Hl (ai:Int→Prop) (al:Int→Nat) (aX:Int→Int→Prop) (aY:Int→Int→Nat) (bw:cN Prop) (bu:cN Nat) (a0:aG) (J:Frame) (ac:Bool):Prop:=
  (((!(ft a0)) || ((!J.ok) || (((J.aA.length:Int) !=a0.ah) || (((J.av.length:Int) !=(a0.bD.length:Int)) || ((J.M.length:Int) !=(a0.M.length:Int))))))=true→false=ac)∧((!((!(ft a0)) || ((!J.ok) || (((J.aA.length:Int) !=a0.ah) || (((J.av.length:Int) !=(a0.bD.length:Int)) || ((J.M.length:Int) !=(a0.M.length:Int)))))))=true→J.av.length≤4611686018427387904→ai 0∧ ∀(dW:Int),ai dW→(Hk ai al aX aY bw bu a0 J ac dW))
def Hd (a0:aG) (J:Frame) (ac:Bool) (ai:Int→Prop) (al:Int→Nat) (aX:Int→Int→Prop) (aY:Int→Int→Nat) (bw:cN Prop) (bu:cN Nat):Prop:=
 Hl ai al aX aY bw bu a0 J ac
theorem Sp (a0:aG) (J:Frame) (ak:la a0 J):bf Try.prog 43 [.agg (bW false a0),.agg (ck false J)] (ax (gd a0 J)):=(fun(ai:Int→Prop) (al:Int→Nat) (aX:Int→Int→Prop) (aY:Int→Int→Nat) (bw:cN Prop) (bu:cN Nat) (h:Hd a0 J (gd a0 J) ai al aX aY bw bu)=>bf.run (ps:=[.c7,.frame]) (rs:=[.bool]) (x:=(a0,J,())) (r:=((gd a0 J),())) ⟨190,cm,[S3,S_,S7,X0]⟩ ⟨[],[(40,Sr,Ss)],[],[],[]⟩ (dq [2,3,46,47] [(3,4),(2,5)] 48 ai al fun aS=>(dq [2,3,72,73] [(3,4),(2,5)] 74 (aX aS) (aY aS) fun bQ=>(dq [2,3,7,8,72,73,74,157] [(8,5),(3,4),(2,5)] 158 (bw aS bQ) (bu aS bQ) fun _=> .nil))) Try.func43 h) (b4 J.av.length (fun j=> !kK (nth J.av j))) (cn J.av.length) (fun _ i=>(∀x∈J.av,kK x=true)∧b4 J.M.length (fun i=> !(fE a0 J i) || tj a0 J i.toNat i) i) (fun _=>cn J.M.length) (fun _ i=>b4 i (fun k=>jn a0 J i k)) (fun _ i=>cn i) (by
 unfold Hd Hl
 have hs:l8 J:=ak
 have no: ∀φ:Prop,(gd a0 J=true→φ)→ ¬φ→false=gd a0 J:=fun φ h1 h2=>by
  cases h:gd a0 J with
  | false=>rfl
  | true=>exact absurd (h1 h) h2
 have D:=fun h=>(sk (p:=a0) (f:=J)).1 h
 refine⟨fun ag=>no _ D (fun aZ=>by have:=aZ.1;unfold o7 at this;rw[ag] at this;cases this),fun ag ap=>⟨c6 (cQ _),fun v aV=> ?_⟩⟩
 have mz:o7 a0 J=true:=ag
 obtain⟨hg,b7,wB,NJ,zi⟩:=uf.1 mz
 have fD:=Cu hg
 have cV:=Kb hg
 unfold Hk
 refine⟨fun hv hm=> ?_,fun hv=> ?_⟩
 ·have iH: ∀x∈J.av,kK x=true:=fun x hx=>by
   simpa using jY (q:=fun x:b8=> !kK x) (e_ aV hv) x hx
  refine⟨⟨iH,c6 (cQ _)⟩,fun i gf=>⟨fun hi=> ?_,fun hi=> ?_⟩⟩
  ·have ds:=e_ gf.2 hi
   have uB: ∀i:Int,0≤i→i<J.M.length→fE a0 J i=true:=fun i i0 i1=>by
    have:=ds i i0 i1
    rw[Bool.or_eq_false_iff] at this
    simpa using this.1
   have GK: ∀i k:Int,0≤i→i<J.M.length→0≤k→k<i→jn a0 J i k=false:=fun i k i0 i1 a7 cY=>by
    have:=ds i i0 i1
    rw[Bool.or_eq_false_iff] at this
    have h2:=this.2
    unfold tj at h2
    rw[List.any_eq_false] at h2
    have:=h2 k.toNat (List.mem_range.2 (by omega))
    rw[Int.toNat_of_nonneg a7] at this
    simpa using this
   have AP: ∀i k:Int,0≤i→i<J.M.length→0≤k→k<J.M.length→jn a0 J i k=false:=fun i k i0 i1 a7 cY=>by
    rcases Int.lt_trichotomy k i with h | h | h
    ·exact GK i k i0 i1 a7 h
    ·unfold jn;rw[h];simp
    ·rw[NK cV zi i0 i1 a7 cY];exact GK k i a7 cY i0 h
   have dn:n3 a0 J:=Ax mz fun i i0 i1=>by
    have:=uB i i0 i1
    rw[xp,Bool.and_eq_true] at this;exact this.1
   refine⟨⟨fD,dn⟩,?_⟩
   obtain⟨s1,s2,gM⟩:=yG a0 J J.M.length
   unfold rf
   rw[show(kO a0 J).aA=J.aA from s2,show(kO a0 J).av=J.av from gM]
   unfold eqv
   by_cases h:J.M=(kO a0 J).M
   ·rw[decide_eq_true h,sk.2 ⟨mz,iH,uB,AP,h⟩];simp
   ·rw[decide_eq_false h,Bool.and_false]
    exact no _ D fun aZ=>h aZ.2.2.2.2
  ·have dp:=cq gf.2 hi
   have gv:i<(J.M.length:Int):=by simpa using hi
   have qT: ∀c:Bool,c=false→(fE a0 J i=true→c=true)→false=gd a0 J:=fun c hc h=>no _ D fun aZ=>by
    have:=h (aZ.2.2.1 i dp.1 (by omega));rw[hc] at this;cases this
   have P:=xp a0 J i
   refine⟨dp,⟨dp.1,by omega⟩,fun sC=> ?_⟩
   unfold Hi
   refine⟨fun ag=>qT (pe a0 J i) (by unfold pe;rw[ag];rfl) fun h=>by rw[P,Bool.and_eq_true] at h;exact h.1,fun Ba=> ?_⟩
   have h1:pe a0 J i=true:=Ba
   rw[h1,Bool.true_and] at P
   have Rk:0≤(nth J.M i).aa∧(nth J.M i).aa≤((nth J.M i).U.length:Int):=by
    unfold pe at h1
    simp only[Bool.not_eq_true',Bool.or_eq_false_iff,bne_eq_false_iff_eq,decide_eq_false_iff_not] at h1
    omega
   unfold Hh
   refine⟨⟨fun bj ag=>qT (qs J i) (by unfold qs;rw[bj,ag];rfl) fun h=>by rw[P,Bool.and_eq_true] at h;exact h.1,
    fun bj=>⟨Rk,fun ag=>qT (qs J i) (by unfold qs;rw[bj,ag];rfl) fun h=>by rw[P,Bool.and_eq_true] at h;exact h.1⟩⟩,fun jz=> ?_⟩
   have h2:qs J i=true:=jz
   rw[h2,Bool.true_and] at P
   unfold Hg
   refine⟨⟨fun bj ag=>qT (qt a0 J i) (by unfold qt;rw[bj,ag];rfl) fun h=>by rw[P,Bool.and_eq_true] at h;exact h.1,
    fun bj ag=>qT (qt a0 J i) (by unfold qt;rw[bj,ag];rfl) fun h=>by rw[P,Bool.and_eq_true] at h;exact h.1⟩,fun RO=> ?_⟩
   have aJ:qt a0 J i=true:=RO
   rw[aJ,Bool.true_and] at P
   unfold Hf
   refine⟨⟨fun bj ag=>qT (qu J i) (by unfold qu;rw[bj,ag];rfl) fun h=>by rw[P] at h;exact h,
    fun bj hc ag=>qT (qu J i) (by unfold qu;rw[bj,hc,ag];rfl) fun h=>by rw[P] at h;exact h⟩,fun RP=> ?_⟩
   have bj:qu J i=true:=RP
   rw[bj] at P
   refine⟨c6 dp.1,fun k hK=>⟨fun hk=> ?_,fun hk=> ?_⟩⟩
   ·have:=cX (c0 hm) gf.2 hi (show(!(fE a0 J i) || tj a0 J i.toNat i)=false by
     rw[P]
     exact List.any_eq_false.2 fun k hG=>by rw[e_ hK hk k (by omega) (by have:=List.mem_range.1 hG;omega)];simp)
    exact⟨⟨iH,this.1⟩,this.2⟩
   ·have aao:k<i:=by simpa using hk
    have pi:=hK.1
    have gl:=cV.len
    have dR:=cV.row i dp.1 (by omega)
    have hc:(((nth J.M i).au !=0)&&(((nth J.M k).au !=0)&&(nth (nth a0.bA i) k)))=jn a0 J i k:=by
     unfold jn kw
     rw[show(i !=k)=true by simpa using(show i≠k by omega)]
     cases((nth J.M i).au !=0)<;>cases((nth J.M k).au !=0)<;>cases(nth (nth a0.bA i) k)<;>rfl
    unfold He
    rw[hc]
    refine⟨⟨fun _=>⟨⟨pi,by omega⟩,fun _=>⟨⟨dp.1,by omega⟩,pi,by omega⟩⟩,fun ag=>no _ D fun aZ=> ?_⟩,fun ag=>cX (by omega) hK hk (not_eq ag)⟩
    have:=aZ.2.2.2.1 i k dp.1 (by omega) pi (by omega)
    rw[this] at ag;cases ag
 ·unfold Hj
  rw[Wo]
  refine⟨⟨cq aV hv,fun hb=>no _ D fun aZ=> ?_⟩,fun hb=>cX (c0 ap) aV hv (not_eq hb)⟩
  have:=aZ.2.1 _ (ek (cq aV hv).2)
  rw[this] at hb;cases hb)
def Sq:cd Try.prog:=⟨43,[.c7,.frame],[.bool],some fun x=>la x.1 x.2.1,fun x=>((gd x.1 x.2.1),()),fun x h=>Sp x.1 x.2.1 h⟩
def Md (ai:Int→Prop) (al:Int→Nat) (a0:aG) (J:Frame) (a2 a3:Int) (ac:Bool) (bc:Int):Prop:=
  ((0≤bc∧bc.toNat<(nth a0.M a2).ah.length)∧((((nth (nth a0.M a2).ah bc)==a3)=true→0≤a2∧a2.toNat<J.M.length)∧((((nth (nth a0.M a2).ah bc)==a3)&&(decide (bc ≥ (nth J.M a2).aa)))=true→true=ac)))∧((!(((nth (nth a0.M a2).ah bc)==a3)&&(decide (bc ≥ (nth J.M a2).aa))))=true→ai (IntKind.i64.wrap (bc+1))∧al (IntKind.i64.wrap (bc+1))<al bc)
def Me (ai:Int→Prop) (al:Int→Nat) (a0:aG) (J:Frame) (a2 a3:Int) (ac:Bool):Prop:=
  ((0≤a2∧a2.toNat<J.M.length)∧(((nth J.M a2).au==0)=true→false=ac))∧((!((nth J.M a2).au==0))=true→(0≤a2∧a2.toNat<a0.M.length)∧((nth a0.M a2).ah.length≤4611686018427387904→ai 0∧ ∀(bc:Int),ai bc→(((decide (bc<((nth a0.M a2).ah.length:Int)))=false→false=ac)∧((decide (bc<((nth a0.M a2).ah.length:Int)))=true→Md ai al a0 J a2 a3 ac bc))))
def Mc (a0:aG) (J:Frame) (a2:Int) (a3:Int) (ac:Bool) (ai:Int→Prop) (al:Int→Nat):Prop:=
 Me ai al a0 J a2 a3 ac
theorem Y_ (a0:aG) (J:Frame) (a2:Int) (a3:Int) (ak:pn a0 J a2 a3):bf Try.prog 111 [.agg (bW false a0),.agg (ck false J),ar a2,ar a3] (ax (eG a0 J a2 a3)):=(fun(ai:Int→Prop) (al:Int→Nat) (h:Mc a0 J a2 a3 (eG a0 J a2 a3) ai al)=>bf.run (ps:=[.c7,.frame,.int,.int]) (rs:=[.bool]) (x:=(a0,J,a2,a3,())) (r:=((eG a0 J a2 a3),())) ⟨44,cm,[]⟩ ⟨[],[],[],[],[]⟩ (dq [2,3,5,23,24] [(5,4)] 25 ai al fun _=> .nil) Try.func111 h) (b4 (nth a0.M a2).ah.length (fun k=>((nth (nth a0.M a2).ah k)==a3)&&(decide (k ≥ (nth J.M a2).aa)))) (cn (nth a0.M a2).ah.length) (by
 unfold Mc Me
 obtain⟨hf,aN,h1⟩:=ak
 have hw:=hf.fr.M
 have aR:a2.toNat<a0.M.length:=by omega
 have ny:a2.toNat<J.M.length:=by omega
 have aI:=hf.fr.aa _ (ek ny)
 refine⟨⟨⟨aN,ny⟩,fun h=> ?_⟩,fun h=>⟨⟨aN,aR⟩,fun ap=>⟨c6 (cQ _),fun v aV=>⟨fun hv=> ?_,fun hv=> ?_⟩⟩⟩⟩
 ·unfold eG
  rw[show((nth J.M a2).au !=0)=false by simpa using h];rfl
 ·have hs:((nth J.M a2).au !=0)=true:=by simpa using h
  unfold eG
  rw[hs,Bool.true_and,eq_comm,←Bool.not_eq_true,wU]
  rintro⟨k,hk,aE,he⟩
  have:=e_ aV hv k (by omega) (by omega)
  rw[iM aE,he] at this
  simp at this
  omega
 ·have hs:((nth J.M a2).au !=0)=true:=by simpa using h
  have dp:=cq aV hv
  unfold Md
  refine⟨⟨dp,fun _=>⟨aN,ny⟩,fun hb=> ?_⟩,fun hb=>cX (c0 ap) aV hv (not_eq hb)⟩
  unfold eG
  rw[hs,Bool.true_and,eq_comm,wU]
  simp only[Bool.and_eq_true,beq_iff_eq,decide_eq_true_eq] at hb
  exact⟨v.toNat,by omega,dp.2,by rw[←hZ dp.2];exact hb.1⟩)
def Mf:cd Try.prog:=⟨111,[.c7,.frame,.int,.int],[.bool],some fun x=>pn x.1 x.2.1 x.2.2.1 x.2.2.2.1,fun x=>((eG x.1 x.2.1 x.2.2.1 x.2.2.2.1),()),fun x h=>Y_ x.1 x.2.1 x.2.2.1 x.2.2.2.1 h⟩
def Hv (a0:aG) (J:Frame) (a2:Int) (a3:Int) (ac:Bool):Prop:=
 (0≤a2∧a2.toNat<a0.M.length)∧(((0≤a2∧a2.toNat<J.M.length)∧(((nth J.M a2).au !=0)=true→0≤a2∧a2.toNat<J.M.length))∧((((nth J.M a2).au !=0)&&((decide ((kE (nth a0.M a2).ah a3) ≥ (nth J.M a2).aa))&&(decide ((kE (nth a0.M a2).ah a3) ≥ 0))))=ac))
theorem SE (a0:aG) (J:Frame) (a2:Int) (a3:Int) (ak:pn a0 J a2 a3):bf Try.prog 152 [.agg (bW false a0),.agg (ck false J),ar a2,ar a3] (ax (eG a0 J a2 a3)):=(fun(h:Hv a0 J a2 a3 (eG a0 J a2 a3))=>bf.run (ps:=[.c7,.frame,.int,.int]) (rs:=[.bool]) (x:=(a0,J,a2,a3,())) (r:=((eG a0 J a2 a3),())) ⟨39,cm,[Lp]⟩ ⟨[],[],[],[],[]⟩ .nil Try.func152 h) (by
 unfold Hv
 obtain⟨hf,aN,h1⟩:=ak
 have hw:=hf.fr.M
 have aR:a2.toNat<a0.M.length:=by omega
 have ny:a2.toNat<J.M.length:=by omega
 have aI:=hf.fr.aa _ (ek ny)
 refine⟨⟨aN,aR⟩,⟨⟨aN,ny⟩,fun _=>⟨aN,ny⟩⟩,?_⟩
 unfold eG
 rw[has_eq (Xt hf.o_ (ek aR)) aI.1])
def Hw:cd Try.prog:=⟨152,[.c7,.frame,.int,.int],[.bool],some fun x=>pn x.1 x.2.1 x.2.2.1 x.2.2.2.1,fun x=>((eG x.1 x.2.1 x.2.2.1 x.2.2.2.1),()),fun x h=>SE x.1 x.2.1 x.2.2.1 x.2.2.2.1 h⟩
def Hx (a0:aG) (J:Frame) (a2:Int) (ac:Int) (ai:Int→Prop) (al:Int→Nat):Prop:=
 a0.M.length≤4611686018427387904→ai 0∧ ∀(v11:Int),ai v11→(((decide (v11<(a0.M.length:Int)))=false→(-1)=ac)∧((decide (v11<(a0.M.length:Int)))=true→((pn a0 J v11 a2)∧((eG a0 J v11 a2)=true→v11=ac))∧((!(eG a0 J v11 a2))=true→ai (IntKind.i64.wrap (v11+1))∧al (IntKind.i64.wrap (v11+1))<al v11)))
theorem SO (a0:aG) (J:Frame) (a2:Int) (ak:Vy a0 J a2):bf Try.prog 112 [.agg (bW false a0),.agg (ck false J),ar a2] (ar (oz a0 J a2)):=(fun(ai:Int→Prop) (al:Int→Nat) (h:Hx a0 J a2 (oz a0 J a2) ai al)=>bf.run (ps:=[.c7,.frame,.int]) (rs:=[.int]) (x:=(a0,J,a2,())) (r:=((oz a0 J a2),())) ⟨21,cm,[Hw]⟩ ⟨[],[],[],[],[]⟩ (dq [2,3,4,10] [(4,4),(3,5)] 11 ai al fun _=> .nil) Try.func112 h) (b4 a0.M.length (fun i=>eG a0 J i a2)) (cn a0.M.length) (by
 unfold Hx
 have hf:Fit a0 J:=ak
 intro ap
 refine⟨c6 (cQ _),fun v aV=>⟨fun hv=> ?_,fun hv=>⟨⟨⟨hf,(cq aV hv).1,by simpa using hv⟩,fun hb=> ?_⟩,fun hb=>cX (c0 ap) aV hv (not_eq hb)⟩⟩⟩
 ·unfold oz;rw[WR aV hv];rfl
 ·unfold oz;rw[WS aV hv hb]
  have:=aV.1
  show v=(v.toNat:Int);omega)
def SI (a0:b5) (J:Int) (ac:Bool):Prop:=
 (a0.br==J)=ac
theorem SJ (a0:b5) (J:Int):bf Try.prog 166 [.agg (dh a0),.cD [ar J] 0] (ax (qM a0 J)):=(fun(h:SI a0 J (qM a0 J))=>bf.run (ps:=[.bJ,(.ptr .int)]) (rs:=[.bool]) (x:=(a0,J,())) (r:=((qM a0 J),())) ⟨8,cm,[]⟩ ⟨[],[],[],[],[]⟩ .nil Try.func166 h) (by
 exact rfl)
def SK:cd Try.prog:=⟨166,[.bJ,(.ptr .int)],[.bool],none,fun x=>((qM x.1 x.2.1),()),fun x h=>SJ x.1 x.2.1⟩
def Lm (a0:(List b5)) (J:Int) (ac:Int) (ai:Int→Prop) (al:Int→Nat):Prop:=
 a0.length≤4611686018427387904→ai 0∧ ∀(fa:Int),ai fa→(((decide (fa<(a0.length:Int)))=false→(-1)=ac)∧((decide (fa<(a0.length:Int)))=true→((0≤fa∧fa.toNat<a0.length)∧((qM (nth a0 fa) J)=true→fa=ac))∧((!(qM (nth a0 fa) J))=true→ai (IntKind.i64.wrap (fa+1))∧al (IntKind.i64.wrap (fa+1))<al fa)))
theorem Ya (a0:(List b5)) (J:Int):bf Try.prog 170 [bp dh a0,.fn 166 [.cD [ar J] 0]] (ar (ou a0 J)):=(fun(ai:Int→Prop) (al:Int→Nat) (h:Lm a0 J (ou a0 J) ai al)=>bf.run (ps:=[(.l .bJ),(.gr 166 (.ptr .int))]) (rs:=[.int]) (x:=(a0,J,())) (r:=((ou a0 J),())) ⟨19,cm,[SK]⟩ ⟨[],[],[],[],[]⟩ (dq [0,1,7] [] 8 ai al fun _=> .nil) Try.func170 h) (b4 a0.length (fun j=>qM (nth a0 j) J)) (cn a0.length) (by
 unfold Lm
 intro ap
 refine⟨c6 (cQ _),fun v aV=>⟨fun hv=> ?_,fun hv=>⟨⟨cq aV hv,fun ak=> ?_⟩,fun ak=>cX (c0 ap) aV hv (not_eq ak)⟩⟩⟩
 ·unfold ou;rw[m9 (q:=fun x:b5=>x.br==J) aV hv];rfl
 ·unfold ou;rw[m8 (q:=fun x:b5=>x.br==J) aV hv ak]
  have:=aV.1
  show v=(v.toNat:Int)
  omega)
def Yb:cd Try.prog:=⟨170,[(.l .bJ),(.gr 166 (.ptr .int))],[.int],none,fun x=>((ou x.1 x.2.1),()),fun x h=>Ya x.1 x.2.1⟩
def XW (a0:(List b5)) (J:Int) (ac:Bool):Prop:=
 (decide ((ou a0 J) ≥ 0))=ac
theorem XX (a0:(List b5)) (J:Int):bf Try.prog 165 [bp dh a0,.fn 166 [.cD [ar J] 0]] (ax (ix a0 J)):=(fun(h:XW a0 J (ix a0 J))=>bf.run (ps:=[(.l .bJ),(.gr 166 (.ptr .int))]) (rs:=[.bool]) (x:=(a0,J,())) (r:=((ix a0 J),())) ⟨9,cm,[Yb]⟩ ⟨[],[],[],[],[]⟩ .nil Try.func165 h) (by
 exact Sl a0 J)
def XY:cd Try.prog:=⟨165,[(.l .bJ),(.gr 166 (.ptr .int))],[.bool],none,fun x=>((ix x.1 x.2.1),()),fun x h=>XX x.1 x.2.1⟩
def SL (a0:(List b5)) (J:Int) (ac:Bool):Prop:=
 (ix a0 J)=ac
theorem SM (a0:(List b5)) (J:Int):bf Try.prog 153 [bp dh a0,ar J] (ax (ix a0 J)):=(fun(h:SL a0 J (ix a0 J))=>bf.run (ps:=[(.l .bJ),.int]) (rs:=[.bool]) (x:=(a0,J,())) (r:=((ix a0 J),())) ⟨8,cm,[XY]⟩ ⟨[],[],[],[],[]⟩ .nil Try.func153 h) (by
 exact rfl)
def SN:cd Try.prog:=⟨153,[(.l .bJ),.int],[.bool],none,fun x=>((ix x.1 x.2.1),()),fun x h=>SM x.1 x.2.1⟩
def SW:List Item:=[aj 0,aj 1,aj 2,aj 3,aj 4,aj 5,aj 6,aj 7,aj 8,aj 9,aj 10,aj 11,aj 12,aj 13,aj 14,aj 15,aj 16,aj 17,aj 18,aj 19,aj 20]
def SX:List (List Nat):=[[],[0],[],[0,1,2],rg 0 4,rg 0 5,rg 0 6,rg 0 5,rg 0 8,rg 0 9,rg 0 10,rg 0 10,rg 0 10,rg 0 10,rg 0 10++[13],rg 0 10,rg 0 10++[13,14,15],rg 0 10++rg 13 17,rg 0 18,rg 0 19,rg 0 20]
abbrev kR (r:Type):Type:=Nat→(List Int)→Int→r
def HD (ai:kR Prop) (al:kR Nat) (a0:aG) (J:Frame) (a2:Int) (g0:Nat) (bE:(List Int)) (cz:Int):Prop:=
  (((ix (nth a0.M cz).bI a2) || ((ix (nth a0.M cz).aQ a2)&&(eG a0 J cz (nth a0.bD a2))))=true→((bE.length+[cz].length)*8≤140737488355328∧bE.length+[cz].length≤4611686018427387904)∧(ai (g0+1) (bE++[cz]) (IntKind.i64.wrap (cz+1))∧al (g0+1) (bE++[cz]) (IntKind.i64.wrap (cz+1))<al g0 bE cz))∧(((ix (nth a0.M cz).bI a2) || ((ix (nth a0.M cz).aQ a2)&&(eG a0 J cz (nth a0.bD a2))))=false→ai g0 bE (IntKind.i64.wrap (cz+1))∧al g0 bE (IntKind.i64.wrap (cz+1))<al g0 bE cz)
def HE (ai:kR Prop) (al:kR Nat) (a0:aG) (J:Frame) (a2:Int) (g0:Nat) (bE:(List Int)) (cz:Int):Prop:=
  ((0≤cz∧cz.toNat<J.M.length)∧(((nth J.M cz).au==0)=true→ai g0 bE (IntKind.i64.wrap (cz+1))∧al g0 bE (IntKind.i64.wrap (cz+1))<al g0 bE cz))∧((!((nth J.M cz).au==0))=true→((ix (nth a0.M cz).bI a2)=false→(ix (nth a0.M cz).aQ a2)=true→(0≤a2∧a2.toNat<a0.bD.length)∧(pn a0 J cz (nth a0.bD a2)))∧(HD ai al a0 J a2 g0 bE cz))
def HC (a0:aG) (J:Frame) (a2:Int) (ac:(List Int)) (ai:kR Prop) (al:kR Nat):Prop:=
 a0.M.length≤4611686018427387904→ai 0 ([]:List Int) 0∧ ∀(g0:Nat) (bE:(List Int)) (cz:Int),ai g0 bE cz→(((decide (cz<(a0.M.length:Int)))=false→bE.length≤4611686018427387904∧bE=ac)∧((decide (cz<(a0.M.length:Int)))=true→(0≤cz∧cz.toNat<a0.M.length)∧(HE ai al a0 J a2 g0 bE cz)))
theorem SV (a0:aG) (J:Frame) (a2:Int) (ak:vi a0 J a2):bf Try.prog 113 [.agg (bW false a0),.agg (ck false J),ar a2] (me ca (h4 a0 J a2)):=(fun(ai:kR Prop) (al:kR Nat) (h:HC a0 J a2 (h4 a0 J a2) ai al)=>bf.run (ps:=[.c7,.frame,.int]) (rs:=[(.l .int)]) (x:=(a0,J,a2,())) (r:=((h4 a0 J a2),())) ⟨52,cm,[SN,Hw]⟩ ⟨[],[(6,SW,SX)],[],[],[]⟩ (.lp [(0,7,.int)] [2,3,4,11,12] [(4,4),(3,5)] [.nat,(.l .int),.int] [bB 0,bB 0,13] (fun aS=>[(7,.ref 0 aS.1 aS.2.1.length false),(13,.i .i64 aS.2.2.1),(bB 0,.blk aS.1 .int aS.2.1 _ rfl)]) (fun aS=>ai aS.1 aS.2.1 aS.2.2.1) (fun aS=>al aS.1 aS.2.1 aS.2.2.1) fun _=> .nil) Try.func113 h) (fun _ x v=>b4 a0.M.length (fun _=>false) v∧x=k_ (fun i=>j0 a0 J i a2) v) (fun _ _ v=>cn a0.M.length v) (by
 unfold HC
 obtain⟨hf,aN,h1⟩:=ak
 have hw:=hf.fr.M
 have Rt:=hf.in.M
 have pk:=hf.in.bD
 intro ap
 refine⟨⟨c6 (cQ _),rfl⟩,fun g x v aV=> ?_⟩
 obtain⟨aV,rfl⟩:=aV
 have fF:=aV.1
 have hlen:=Fq (fun i=>j0 a0 J i a2) v
 have Bi:=aV.2.1
 refine⟨fun hv=>⟨by omega,?_⟩,fun hv=>⟨cq aV hv,?_⟩⟩
 ·have: ¬v<(a0.M.length:Int):=by simpa using hv
  rw[show v=(a0.M.length:Int) by omega];rfl
 have dp:=cq aV hv
 have a6:=cX (c0 ap) aV hv rfl
 have sG:IntKind.i64.wrap (v+1)=v+1:=kT (c0 ap) fF (by simpa using hv)
 have n0:j0 a0 J v a2=true→(b4 a0.M.length (fun _=>false) (IntKind.i64.wrap (v+1))∧k_ (fun i=>j0 a0 J i a2) v++[v]=k_ (fun i=>j0 a0 J i a2) (IntKind.i64.wrap (v+1))):=fun h=>⟨a6.1,by rw[sG,w_ fF,if_pos h]⟩
 have no:j0 a0 J v a2=false→(b4 a0.M.length (fun _=>false) (IntKind.i64.wrap (v+1))∧k_ (fun i=>j0 a0 J i a2) v=k_ (fun i=>j0 a0 J i a2) (IntKind.i64.wrap (v+1))):=fun h=>⟨a6.1,by rw[sG,w_ fF,if_neg (by rw[h];simp)]⟩
 unfold HE HD
 refine⟨⟨⟨fF,by omega⟩,fun aH=>⟨no ?_,a6.2⟩⟩,fun aH=>⟨fun _ _=>⟨⟨aN,by omega⟩,hf,fF,by omega⟩,⟨fun ag=>⟨⟨?_,?_⟩,n0 ?_,a6.2⟩,fun ag=>⟨no ?_,a6.2⟩⟩⟩⟩
 ·unfold j0
  rw[show((nth J.M v).au !=0)=false by simpa using aH];rfl
 ·simp only[List.length_singleton];omega
 ·simp only[List.length_singleton];omega
 ·unfold j0
  rw[show((nth J.M v).au !=0)=true by simpa using aH];exact ag
 ·unfold j0
  rw[show((nth J.M v).au !=0)=true by simpa using aH];exact ag)
def Ze:List Item:=[aj 0,aj 1,aj 2,aj 3,aj 4,aj 5,aj 6,aj 7,aj 8,aj 9,aj 10,aj 11,aj 12,aj 13,aj 14]
def Zf:List (List Nat):=[[],[0],[],[0,1,2],rg 0 4,rg 0 5,rg 0 5,rg 0 5,rg 0 5,rg 0 5++[8],rg 0 5,rg 0 5++[8,9,10],rg 0 5++rg 8 12,rg 0 13,rg 0 14]
def Mj (aX:Int→Int→Prop) (aY:Int→Int→Nat) (a0:aG) (J:Frame) (a2 a3 ac cu c_:Int):Prop:=
  ((0≤c_∧c_.toNat<(nth a0.M a2).aQ.length)∧((((nth (nth a0.M a2).aQ c_).br==a3)=true→(0≤a3∧a3.toNat<a0.bD.length)∧(pn a0 J a2 (nth a0.bD a3)))∧((((nth (nth a0.M a2).aQ c_).br==a3)&&(eG a0 J a2 (nth a0.bD a3)))=true→(nth (nth a0.M a2).aQ c_).bJ=ac)))∧((!(((nth (nth a0.M a2).aQ c_).br==a3)&&(eG a0 J a2 (nth a0.bD a3))))=true→aX cu (IntKind.i64.wrap (c_+1))∧aY cu (IntKind.i64.wrap (c_+1))<aY cu c_)
def Mk (ai:Int→Prop) (al:Int→Nat) (aX:Int→Int→Prop) (aY:Int→Int→Nat) (a0:aG) (J:Frame) (a2 a3 ac cu:Int):Prop:=
  ((decide (cu<((nth a0.M a2).bI.length:Int)))=false→(0≤a2∧a2.toNat<a0.M.length)∧((nth a0.M a2).aQ.length≤4611686018427387904→aX cu 0∧ ∀(c_:Int),aX cu c_→(((decide (c_<((nth a0.M a2).aQ.length:Int)))=false→0=ac)∧((decide (c_<((nth a0.M a2).aQ.length:Int)))=true→Mj aX aY a0 J a2 a3 ac cu c_))))∧((decide (cu<((nth a0.M a2).bI.length:Int)))=true→((0≤cu∧cu.toNat<(nth a0.M a2).bI.length)∧(((nth (nth a0.M a2).bI cu).br==a3)=true→(nth (nth a0.M a2).bI cu).bJ=ac))∧((!((nth (nth a0.M a2).bI cu).br==a3))=true→ai (IntKind.i64.wrap (cu+1))∧al (IntKind.i64.wrap (cu+1))<al cu))
def Mi (a0:aG) (J:Frame) (a2:Int) (a3:Int) (ac:Int) (ai:Int→Prop) (al:Int→Nat) (aX:Int→Int→Prop) (aY:Int→Int→Nat):Prop:=
 ((0≤a2∧a2.toNat<J.M.length)∧(((nth J.M a2).au==0)=true→0=ac))∧((!((nth J.M a2).au==0))=true→(0≤a2∧a2.toNat<a0.M.length)∧((nth a0.M a2).bI.length≤4611686018427387904→ai 0∧ ∀(cu:Int),ai cu→(Mk ai al aX aY a0 J a2 a3 ac cu)))
theorem Zc (a0:aG) (J:Frame) (a2:Int) (a3:Int) (ak:DY a0 J a2 a3):bf Try.prog 155 [.agg (bW false a0),.agg (ck false J),ar a2,ar a3] (ar (mc a0 J a2 a3)):=(fun(ai:Int→Prop) (al:Int→Nat) (aX:Int→Int→Prop) (aY:Int→Int→Nat) (h:Mi a0 J a2 a3 (mc a0 J a2 a3) ai al aX aY)=>bf.run (ps:=[.c7,.frame,.int,.int]) (rs:=[.int]) (x:=(a0,J,a2,a3,())) (r:=((mc a0 J a2 a3),())) ⟨67,cm,[Mf]⟩ ⟨[],[(12,Ze,Zf)],[],[],[]⟩ (dq [2,3,4,5,25,26] [(5,4),(4,5)] 27 ai al fun aS=>(dq [2,3,4,5,43,44] [(5,4),(4,5)] 45 (aX aS) (aY aS) fun _=> .nil)) Try.func155 h) (b4 (nth a0.M a2).bI.length (fun j=>(nth (nth a0.M a2).bI j).br==a3)) (cn (nth a0.M a2).bI.length) (fun _=>b4 (nth a0.M a2).aQ.length (fun j=>(nth (nth a0.M a2).aQ j).br==a3&&eG a0 J a2 (nth a0.bD a3))) (fun _=>cn (nth a0.M a2).aQ.length) (by
 unfold Mi
 obtain⟨hf,aN,h1,h2,aJ⟩:=ak
 have hw:=hf.fr.M
 refine⟨⟨⟨aN,by omega⟩,fun aH=> ?_⟩,fun aH=>⟨⟨aN,by omega⟩,fun ap=>⟨c6 (cQ _),fun v aV=> ?_⟩⟩⟩
 ·unfold mc;rw[if_pos (by simpa using aH)]
 have aH: ¬(nth J.M a2).au=0:=by simpa using aH
 unfold Mk
 refine⟨fun hv=>⟨⟨aN,by omega⟩,fun hm=>⟨c6 (cQ _),fun k hK=> ?_⟩⟩,fun hv=>⟨⟨cq aV hv,fun hb=> ?_⟩,fun hb=>cX (c0 ap) aV hv (not_eq hb)⟩⟩
 ·have bi:=m9 (q:=fun x:b5=>x.br==a3) aV hv
  unfold Mj
  refine⟨fun hk=> ?_,fun hk=>⟨⟨cq hK hk,fun _=>⟨⟨h2,by omega⟩,hf,aN,h1⟩,fun hb=> ?_⟩,fun hb=>cX (c0 hm) hK hk (not_eq hb)⟩⟩
  ·unfold mc
   rw[if_neg aH,bi]
   simp only
   rw[m9 (q:=fun x:b5=>x.br==a3&&eG a0 J a2 (nth a0.bD a3)) hK hk]
  ·unfold mc
   rw[if_neg aH,bi]
   simp only
   rw[m8 (q:=fun x:b5=>x.br==a3&&eG a0 J a2 (nth a0.bD a3)) hK hk hb]
   simp only[l2 hK.1]
 ·unfold mc
  rw[if_neg aH,m8 (q:=fun x:b5=>x.br==a3) aV hv hb]
  simp only[l2 aV.1])
def Zd:cd Try.prog:=⟨155,[.c7,.frame,.int,.int],[.int],some fun x=>DY x.1 x.2.1 x.2.2.1 x.2.2.2.1,fun x=>((mc x.1 x.2.1 x.2.2.1 x.2.2.2.1),()),fun x h=>Zc x.1 x.2.1 x.2.2.1 x.2.2.2.1 h⟩
def Mh (ai:kR Prop) (al:kR Nat) (a0:aG) (J:Frame) (a2:Int) (g0:Nat) (bE:(List Int)) (v12:Int):Prop:=
  ((decide ((mc a0 J v12 a2)>0))=true→((bE.length+[v12].length)*8≤140737488355328∧bE.length+[v12].length≤4611686018427387904)∧(ai (g0+1) (bE++[v12]) (IntKind.i64.wrap (v12+1))∧al (g0+1) (bE++[v12]) (IntKind.i64.wrap (v12+1))<al g0 bE v12))∧((decide ((mc a0 J v12 a2)>0))=false→ai g0 bE (IntKind.i64.wrap (v12+1))∧al g0 bE (IntKind.i64.wrap (v12+1))<al g0 bE v12)
def Mg (a0:aG) (J:Frame) (a2:Int) (ac:(List Int)) (ai:kR Prop) (al:kR Nat):Prop:=
 a0.M.length≤4611686018427387904→ai 0 ([]:List Int) 0∧ ∀(g0:Nat) (bE:(List Int)) (v12:Int),ai g0 bE v12→(((decide (v12<(a0.M.length:Int)))=false→bE.length≤4611686018427387904∧bE=ac)∧((decide (v12<(a0.M.length:Int)))=true→(DY a0 J v12 a2)∧(Mh ai al a0 J a2 g0 bE v12)))
theorem Za (a0:aG) (J:Frame) (a2:Int) (ak:vi a0 J a2):bf Try.prog 117 [.agg (bW false a0),.agg (ck false J),ar a2] (me ca (h4 a0 J a2)):=(fun(ai:kR Prop) (al:kR Nat) (h:Mg a0 J a2 (h4 a0 J a2) ai al)=>bf.run (ps:=[.c7,.frame,.int]) (rs:=[(.l .int)]) (x:=(a0,J,a2,())) (r:=((h4 a0 J a2),())) ⟨27,cm,[Zd]⟩ ⟨[],[],[],[],[]⟩ (.lp [(0,7,.int)] [2,3,4,11] [(4,4),(3,5)] [.nat,(.l .int),.int] [bB 0,bB 0,12] (fun aS=>[(7,.ref 0 aS.1 aS.2.1.length false),(12,.i .i64 aS.2.2.1),(bB 0,.blk aS.1 .int aS.2.1 _ rfl)]) (fun aS=>ai aS.1 aS.2.1 aS.2.2.1) (fun aS=>al aS.1 aS.2.1 aS.2.2.1) fun _=> .nil) Try.func117 h) (fun _ x v=>b4 a0.M.length (fun _=>false) v∧x=k_ (fun i=>j0 a0 J i a2) v) (fun _ _ v=>cn a0.M.length v) (by
 unfold Mg
 obtain⟨hf,aN,h1⟩:=ak
 have Rt:=hf.in.M
 intro ap
 refine⟨⟨c6 (cQ _),rfl⟩,fun g x v aV=> ?_⟩
 obtain⟨aV,rfl⟩:=aV
 have fF:=aV.1
 have hlen:=Fq (fun i=>j0 a0 J i a2) v
 have Bi:=aV.2.1
 refine⟨fun hv=>⟨by omega,?_⟩,fun hv=>⟨⟨hf,fF,by have:=cq aV hv;omega,aN,h1⟩,?_⟩⟩
 ·have: ¬v<(a0.M.length:Int):=by simpa using hv
  rw[show v=(a0.M.length:Int) by omega];rfl
 have a6:=cX (c0 ap) aV hv rfl
 have sG:IntKind.i64.wrap (v+1)=v+1:=kT (c0 ap) fF (by simpa using hv)
 unfold Mh
 rw[ZL hf.o_ (cq aV hv).2]
 refine⟨fun ag=>⟨⟨?_,?_⟩,⟨a6.1,by rw[sG,w_ fF,if_pos ag]⟩,a6.2⟩,fun ag=>⟨⟨a6.1,by rw[sG,w_ fF,if_neg (by rw[ag];simp)]⟩,a6.2⟩⟩
 ·simp only[List.length_singleton];omega
 ·simp only[List.length_singleton];omega)
def Zb:cd Try.prog:=⟨117,[.c7,.frame,.int],[(.l .int)],some fun x=>vi x.1 x.2.1 x.2.2.1,fun x=>((h4 x.1 x.2.1 x.2.2.1),()),fun x h=>Za x.1 x.2.1 x.2.2.1 h⟩
end Go.Proofs.Ytglpfccgmfhkdaa.Fw
set_option linter.unusedVariables false
namespace Go.Proofs.Ytglpfccgmfhkdaa.Fw
open Go Go.RowKit
theorem XI {p:aG} {f:Frame} (ak:Fit p f) {w:World} {pH o8:Value} (h1:V2 (Env.wd w) (.agg (bW false p)) pH) (h2:V2 (Env.wd w) (.agg (ck false f)) o8) (s:Int):
    Calls Try.prog 112 #[pH,o8,.int .i64 s] w fun e w'=>e= .returned (.int .i64 (oz p f s))∧Below w.heap.size w w':=by
  refine(bf.world (vs:=[pH,o8,.int .i64 s]) (SO p f s ak) (.cons h1 (.cons h2 (.cons (a1.int _ _) .nil)))).mono ?_
  rintro e w' ⟨v,rfl,hb,hv⟩
  exact⟨by rw[V3.kc hv],hb⟩
theorem XK {p:aG} {f:Frame} {k:Int} (ak:vi p f k) {w:World} {pH o8:Value} (h1:V2 (Env.wd w) (.agg (bW false p)) pH) (h2:V2 (Env.wd w) (.agg (ck false f)) o8):
    Calls Try.prog 113 #[pH,o8,.int .i64 k] w fun e w'=> ∃A cap,e= .returned (.slice A (h4 p f k).length cap)∧Below w.heap.size w w':=by
  refine(bf.world (vs:=[pH,o8,.int .i64 k]) (SV p f k ak) (.cons h1 (.cons h2 (.cons (a1.int _ _) .nil)))).mono ?_
  rintro e w' ⟨v,rfl,hb,hv⟩
  obtain⟨A,cap,rfl⟩:=V3.ZO hv
  exact⟨A,cap,by rw[List.length_map],hb⟩
theorem XH {f:Frame} {w:World} {v:Value} (h:V2 (Env.wd w) (.agg (ck false f)) v): ∃tF gp iC c1 ic c2,v= .agg #[.bool f.ok,.slice tF f.aA.length gp,.slice iC f.av.length c1,.slice ic f.M.length c2]∧
    Rows w tF 1 (f.aA.map aT)∧Rows w iC 2 (f.av.map bn)∧Rows w ic 5 (f.M.map (cl false)):=by
  obtain⟨vs,rfl,ak⟩:=JU h
  obtain⟨a,vs,rfl,aL,ak⟩:=ak.cons_inv
  obtain⟨b,vs,rfl,hb,ak⟩:=ak.cons_inv
  obtain⟨c,vs,rfl,hc,ak⟩:=ak.cons_inv
  obtain⟨d,vs,rfl,aZ,ak⟩:=ak.cons_inv
  obtain rfl:=ak.oC
  have aL:a1 w _ _ (.bool f.ok) a:=aL
  cases aL
  obtain⟨tF,gp,rfl,fJ⟩:=Co (sz:=1) hb (fun row aw=>by obtain⟨x,_,rfl⟩:=List.mem_map.1 aw;rfl)
  obtain⟨iC,c1,rfl,dr⟩:=Co (sz:=2) hc (fun row aw=>by obtain⟨x,_,rfl⟩:=List.mem_map.1 aw;rfl)
  obtain⟨ic,c2,rfl,dT⟩:=Co (sz:=5) aZ (fun row aw=>by obtain⟨x,_,rfl⟩:=List.mem_map.1 aw;rfl)
  exact⟨tF,gp,iC,c1,ic,c2,by simp,fJ,dr,dT⟩
theorem XJ {p:aG} {w:World} {v:Value} (h:V2 (Env.wd w) (.agg (bW false p)) v): ∃a b c,v= .agg #[.int .i64 p.ah,a,b,c,.int .i64 p.dV]∧a.oneCell'=true∧b.oneCell'=true∧c.oneCell'=true:=by
  obtain⟨vs,rfl,ak⟩:=JU h
  obtain⟨a,vs,rfl,aL,ak⟩:=ak.cons_inv
  obtain⟨b,vs,rfl,hb,ak⟩:=ak.cons_inv
  obtain⟨c,vs,rfl,hc,ak⟩:=ak.cons_inv
  obtain⟨d,vs,rfl,aZ,ak⟩:=ak.cons_inv
  obtain⟨e,vs,rfl,he,ak⟩:=ak.cons_inv
  obtain rfl:=ak.oC
  have aL:a1 w _ _ (.int .i64 p.ah) a:=aL
  have he:a1 w _ _ (.int .i64 p.dV) e:=he
  cases aL;cases he
  have hb:a1 w _ _ (.a8 _ _ _) b:=hb
  have hc:a1 w _ _ (.a8 _ _ _) c:=hc
  have aZ:a1 w _ _ (.a8 _ _ _) d:=aZ
  exact⟨b,c,d,rfl,hb.one (by simp),hc.one (by simp),aZ.one (by simp)⟩
theorem N8 (l:List UInt8) (c:UInt8):Lib.byteCells l++[.int .u8 c.toNat]=Lib.byteCells (l++[c]):=by simp[Lib.byteCells]
theorem p8 {B b:Nat} {bs:List Value} {w w':World} (h:Lib.IsBuilder 173 5 B b bs w) (hb:Below w.heap.size w w'):Lib.IsBuilder 173 5 B b bs w':=by
  have key: ∀p,Lib.BuilderAt 173 5 B b p bs w→Lib.BuilderAt 173 5 B b p bs w':=fun p h=>by
    have aR:=h.lt
    obtain⟨cV,v,lV,xH,b2⟩:=h
    exact⟨cV,v,(hb.block b aR).trans lV,xH.kept (row:=none) ⟨hb.os,hb.tape,hb.output,hb.size,fun k hk _=>hb.block k hk⟩ (by cases h:v.ownBlock with
      | none=>exact .inl rfl
      | some x=>exact .inr (by simp)),b2⟩
  exact h.elim (fun h=> .inl (key _ h)) fun h=> .inr (key _ h)
theorem rZ {B:Nat} {W bQ:World} (hb:Below B W bQ):(∀b o,b<B→bQ.cell? ⟨b,o,none⟩=W.cell? ⟨b,o,none⟩)∧(∀b o,b<B→bQ.frozen? ⟨b,o,none⟩=W.frozen? ⟨b,o,none⟩):=
  ⟨fun b o h=>hb.cell (p:=⟨b,o,none⟩) h,fun b o h=>hb.frozen (p:=⟨b,o,none⟩) h⟩
theorem jC {B:Nat} {Ef wr bQ dy:World} {l:List UInt8} {c:UInt8} {l':List UInt8} (hb:Below B Ef wr) (h1:Below wr.heap.size wr bQ) (h2:Below B bQ dy) (cV:B≤wr.heap.size) (aJ:Lib.IsBuilder 173 5 B B (Lib.byteCells l++[.int .u8 c.toNat]) dy) (e:l'=l++[c]):
    Lib.IsBuilder 173 5 B B (Lib.byteCells l') dy∧Below B Ef dy:=by
  subst e
  rw[N8] at aJ
  exact⟨aJ,(hb.trans (h1.mono cV)).trans h2⟩
set_option maxHeartbeats 2000000
set_option maxRecDepth 100000
theorem XF (s:ByteArray) (W:World) (j5 lr:Nat) (iC ic:Option Addr) (cW eS n2 gp c1 c2:Nat) (s1 s2 gM:Value) (ok:Bool) (dV:Int) (JM:s1.oneCell'=true) (JN:s2.oneCell'=true) (aat:gM.oneCell'=true)
    (jx:cW≤60) (uG:eS≤40) (GO:n2≤100) (aA:Nat→Bool) (B2:Nat→Int)
    (qj:j5<W.heap.size) (nz: ∀i,i<cW→W.cell? ⟨j5,lr+i,none⟩=some (.bool (aA i)))
    (lJ:Nat→List UInt8) (pb:lJ 0=[]) (FY: ∀k,lJ (k+1)=lJ k++[bif aA k then 35 else bif decide (0≤B2 k) then 61 else 46])
    (aE: ∀k,(lJ k).length=k)
    (hg pD:Nat) (wt pw:Nat→Int) (xj:0<eS→iC=some ⟨hg,pD,none⟩∧hg<W.heap.size∧ ∀k,k<eS→W.cell? ⟨hg,pD+k*2,none⟩=some (.int .i64 (wt k))∧W.cell? ⟨hg,pD+k*2+1,none⟩=some (.int .i64 (pw k)))
    (xL: ∀k,k<eS→(pw k=0∨pw k=1∨pw k=2)∧(wt k=1∨wt k=2)) (pl:Nat→Nat) (jh:Nat→List UInt8) (xh:jh 0=lJ cW++[32])
    (F1: ∀k,k<eS→jh (k+1)=jh k++((if pw k=0∨pw k≠wt k then 63 else if pw k=1 then 60 else 62)::if 0<pl k then[33] else[])) (F0: ∀k,(jh k).length≤61+2*k)
    (iG: ∀(w:World) (k:Nat),k<eS→Below W.heap.size W w→Calls Try.prog 113 #[.agg #[.int .i64 cW,s1,s2,gM,.int .i64 dV],.agg #[.bool ok,.slice (some ⟨j5,lr,none⟩) cW gp,.slice iC eS c1,.slice ic n2 c2],.int .i64 k] w fun e w'=> ∃A c,e= .returned (.slice A (pl k) c)∧Below w.heap.size w w')
    (b7 jR:Nat) (aq FQ kp:Nat→Int) (rN:Nat→Option Addr) (r2 rY:Nat→Nat) (Ls:Nat→Bool)
    (xk:0<n2→ic=some ⟨b7,jR,none⟩∧b7<W.heap.size∧ ∀k,k<n2→W.cell? ⟨b7,jR+k*5,none⟩=some (.int .i64 (aq k))∧W.cell? ⟨b7,jR+k*5+1,none⟩=some (.int .i64 (FQ k))∧W.cell? ⟨b7,jR+k*5+2,none⟩=some (.slice (rN k) (r2 k) (rY k))∧W.cell? ⟨b7,jR+k*5+3,none⟩=some (.bool (Ls k))∧W.cell? ⟨b7,jR+k*5+4,none⟩=some (.int .i64 (kp k)))
    (a6: ∀k,k<n2→aq k=0∨aq k=1∨aq k=2∨aq k=3∨aq k=4) (lK:Nat→List UInt8) (j7:lK 0=jh eS++[32])
    (F3: ∀k,k<n2→lK (k+1)=lK k++[if aq k=0 then 45 else if aq k=1 then 115 else if aq k=2 then 67 else if aq k=3 then 116 else 117]) (F2: ∀k,(lK k).length≤200+k) (Gq:s=fP (lK n2))
    (GJ: ∀(w:World) (k:Nat),Below W.heap.size W w→Calls Try.prog 112 #[.agg #[.int .i64 cW,s1,s2,gM,.int .i64 dV],.agg #[.bool ok,.slice (some ⟨j5,lr,none⟩) cW gp,.slice iC eS c1,.slice ic n2 c2],.int .i64 k] w fun e w'=>e= .returned (.int .i64 (B2 k))∧Below w.heap.size w w'):
    Calls Try.prog 119 #[.agg #[.int .i64 cW,s1,s2,gM,.int .i64 dV],.agg #[.bool ok,.slice (some ⟨j5,lr,none⟩) cW gp,.slice iC eS c1,.slice ic n2 c2]] W fun e w'=>e= .returned (.string s)∧Below W.heap.size W w':=by
  have H1:=Lib.hid pb;clear pb
  have y6:=Lib.hid FY;clear FY
  have Ni:=Lib.hid nz;clear nz
  have D8:=Lib.hid aE;clear aE
  have D9:=Lib.hid GJ;clear GJ
  have Nj:=Lib.hid xj;clear xj
  have Nk:=Lib.hid xL;clear xL
  have Nl:=Lib.hid xh;clear xh
  have Nn:=Lib.hid F1;clear F1
  have D7:=Lib.hid F0;clear F0
  have Na:=Lib.hid iG;clear iG
  have Nb:=Lib.hid xk;clear xk
  have Nc:=Lib.hid a6;clear a6
  have Nd:=Lib.hid j7;clear j7
  have Nf:=Lib.hid F3;clear F3
  have Ng:=Lib.hid F2;clear F2
  have Nh:=Lib.hid Gq;clear Gq
  go_enter Try.func119,Try.ntmps119
  go_wp2
  go_loopw [13] (fun i wr=> ∃k:Nat,k≤cW∧i= .int .i64 k∧Lib.IsBuilder 173 5 (W.heap.size+1+1) (W.heap.size+1+1) (Lib.byteCells (lJ k)) wr∧Below (W.heap.size+1+1) ((W.alloc (Obj.cells #[.int .i64 cW,s1,s2,gM,.int .i64 dV] 29)).alloc (Obj.cells #[.bool ok,.slice (some ⟨j5,lr,none⟩) cW gp,.slice iC eS c1,.slice ic n2 c2] 40)) wr) (fun i _=>cW - (intOf i).toNat)
  case atStart=>
    refine⟨0,Nat.zero_le _,rfl,?_,?_⟩
    · rw[H1.out]
      have:=Lib.fresh_isBuilder 173 5 ((W.alloc (Obj.cells #[.int .i64 cW,s1,s2,gM,.int .i64 dV] 29)).alloc (Obj.cells #[.bool ok,.slice (some ⟨j5,lr,none⟩) cW gp,.slice iC eS c1,.slice ic n2 c2] 40))
      simpa[Lib.byteCells] using this
    · exact(Below.refl _ _).alloc (by simp) _
  case round=>
    obtain⟨k,hk,rfl,cV,hb⟩:=hrel
    obtain⟨hc,hf⟩:=rZ hb
    have aH:W.heap.size+1+1≤wr.heap.size:=by have:=hb.size;simpa using this
    have jg:Hid (Below W.heap.size W wr):=(((Below.refl _ W).alloc (Nat.le_refl _) _).alloc (by simp) _).trans (hb.mono (by omega))
    have kW:=Lib.hid cV;clear cV
    have fv:=Lib.hid aH;clear aH
    have ig:=Lib.hid hb;clear hb
    by_cases aR:k<cW
    · have dv:wr.cell? ⟨j5,lr+k,none⟩=some (.bool (aA k)):=by
        rw[jg.out.cell (p:=⟨j5,lr+k,none⟩) qj];exact Ni.out k aR
      have cg:Hid ((Lib.byteCells (lJ k)).length+1≤140737488355328):=by unfold Hid;rw[Lib.byteCells_length,D8.out];omega
      cases aB:aA k with
      | true=>
        rw[aB] at dv
        go_wp2_with (go_at_call 156;refine(n5 _ _ _ 35 _ kW.out cg.out fv.out).mono ?_)
        rintro e bQ ⟨rfl,eN,de⟩
        have eX:=Lib.hid (jC ig.out (Below.refl _ _) de fv.out (c:=35) (l':=lJ (k+1)) eN (by rw[y6.out,aB];rfl));clear eN de
        go_wp2
        go_roundw
        case rel=>exact⟨k+1,by omega,by go_num,eX.out.1,eX.out.2⟩
        case measure=>simp[intOf];omega
      | false=>
        rw[aB] at dv
        cases aI:decide (0≤B2 k) with
        | true=>
          go_wp2_with (go_at_call 112;refine(D9.out _ k jg.out).mono ?_)
          rintro e bQ ⟨rfl,de⟩
          have y8:=Lib.hid (p8 kW.out de)
          have oV:Hid (W.heap.size+1+1≤bQ.heap.size):=Nat.le_trans fv.out de.size
          have y7:=Lib.hid de;clear de
          go_wp2_with (go_at_call 156;refine(n5 _ _ _ 61 _ y8.out cg.out oV.out).mono ?_)
          rintro e dy ⟨rfl,eN,de⟩
          have eX:=Lib.hid (jC ig.out y7.out de fv.out (c:=61) (l':=lJ (k+1)) eN (by rw[y6.out,aB,aI];rfl));clear eN de
          go_wp2
          go_roundw
          case rel=>exact⟨k+1,by omega,by go_num,eX.out.1,eX.out.2⟩
          case measure=>simp[intOf];omega
        | false=>
          go_wp2_with (go_at_call 112;refine(D9.out _ k jg.out).mono ?_)
          rintro e bQ ⟨rfl,de⟩
          have y8:=Lib.hid (p8 kW.out de)
          have oV:Hid (W.heap.size+1+1≤bQ.heap.size):=Nat.le_trans fv.out de.size
          have y7:=Lib.hid de;clear de
          go_wp2_with (go_at_call 156;refine(n5 _ _ _ 46 _ y8.out cg.out oV.out).mono ?_)
          rintro e dy ⟨rfl,eN,de⟩
          have eX:=Lib.hid (jC ig.out y7.out de fv.out (c:=46) (l':=lJ (k+1)) eN (by rw[y6.out,aB,aI];rfl));clear eN de
          go_wp2
          go_roundw
          case rel=>exact⟨k+1,by omega,by go_num,eX.out.1,eX.out.2⟩
          case measure=>simp[intOf];omega
    · have qy:k=cW:=by omega
      subst qy
      have cg:Hid ((Lib.byteCells (lJ k)).length+1≤140737488355328):=by unfold Hid;rw[Lib.byteCells_length,D8.out];omega
      go_wp2_with (go_at_call 156;refine(n5 _ _ _ 32 _ kW.out cg.out fv.out).mono ?_)
      rintro e bQ ⟨rfl,eN,de⟩
      have eX:=Lib.hid (jC ig.out (Below.refl _ _) de fv.out (c:=32) (l':=lJ k++[32]) eN rfl);clear eN de
      obtain⟨ql,qv⟩:=rZ eX.out.2
      go_wp2
      clear ql qv hc hf
      go_loopw [36] (fun i wr=> ∃j:Nat,j≤eS∧i= .int .i64 j∧Lib.IsBuilder 173 5 (W.heap.size+1+1) (W.heap.size+1+1) (Lib.byteCells (jh j)) wr∧Below (W.heap.size+1+1) ((W.alloc (Obj.cells #[.int .i64 k,s1,s2,gM,.int .i64 dV] 29)).alloc (Obj.cells #[.bool ok,.slice (some ⟨j5,lr,none⟩) k gp,.slice iC eS c1,.slice ic n2 c2] 40)) wr) (fun i _=>eS - (intOf i).toNat)
      case atStart=>exact⟨0,Nat.zero_le _,rfl,by rw[Nl.out];exact eX.out.1,eX.out.2⟩
      case round=>
        clear eX jg kW fv ig cg
        obtain⟨j,aC,rfl,cV,hb⟩:=hrel
        obtain⟨hc,hf⟩:=rZ hb
        have aH:W.heap.size+1+1≤wr.heap.size:=by have:=hb.size;simpa using this
        have jg:Hid (Below W.heap.size W wr):=(((Below.refl _ W).alloc (Nat.le_refl _) _).alloc (by simp) _).trans (hb.mono (by omega))
        have kW:=Lib.hid cV;clear cV
        have fv:=Lib.hid aH;clear aH
        have ig:=Lib.hid hb;clear hb
        by_cases aR:j<eS
        · obtain⟨bi,e2,cE⟩:=Nj.out (by omega)
          obtain⟨q1,q2⟩:=cE j aR
          subst bi
          have Gj:wr.cell? ⟨hg,pD+j*2,none⟩=some (.int .i64 (wt j)):=by
            rw[jg.out.cell (p:=⟨hg,pD+j*2,none⟩) e2];exact q1
          have Gk:wr.cell? ⟨hg,pD+j*2+1,none⟩=some (.int .i64 (pw j)):=by
            rw[jg.out.cell (p:=⟨hg,pD+j*2+1,none⟩) e2];exact q2
          clear q1 q2 cE
          have Gl:=fun(w:World) (h:Below W.heap.size W w)=>Na.out w j aR h
          have wi:=Lib.hid Gl;clear Gl
          have h2:=Nn.out j aR
          have cg:Hid ((Lib.byteCells (jh j)).length+2≤140737488355328):=by unfold Hid;rw[Lib.byteCells_length];have:=D7.out j;omega
          have iE:Hid (∀o,Below wr.heap.size wr (wr.alloc o)):=fun o=>(Below.refl _ _).alloc (Nat.le_refl _) _
          have wk:Hid (∀o,W.heap.size+1+1≤(wr.alloc o).heap.size):=fun o=>Nat.le_trans fv.out (iE.out o).size
          rcases Nk.out j aR with⟨e | e | e,cH | cH⟩
          all_goals
            rw[e] at Gk h2
            rw[cH] at Gj h2
            clear e cH
            cases hm:pl j with
            | zero=>
              rw[hm] at h2
              simp only[hm] at wi
              have kX:=Lib.hid h2;clear h2 hm
              go_wp2_with (go_at_call 156;refine(n5 _ _ _ _ _ (p8 kW.out (iE.out _)) (Nat.le_of_succ_le cg.out) (wk.out _)).mono ?_)
              rintro e bQ rfl eN de
              first
              | (have eX:=Lib.hid (jC ig.out (iE.out _) de fv.out (c:=63) (l':=jh (j+1)) eN (by rw[kX.out];simp)))
              | (have eX:=Lib.hid (jC ig.out (iE.out _) de fv.out (c:=60) (l':=jh (j+1)) eN (by rw[kX.out];simp)))
              | (have eX:=Lib.hid (jC ig.out (iE.out _) de fv.out (c:=62) (l':=jh (j+1)) eN (by rw[kX.out];simp)))
              clear eN
              have y_:Hid (Below W.heap.size W bQ):=(jg.out.trans ((iE.out _).mono (by have:=fv.out;omega))).trans (de.mono (by omega))
              have oV:Hid (W.heap.size+1+1≤bQ.heap.size):=by unfold Hid;have:=de.size;have:=fv.out;simp at*;omega
              clear de
              obtain⟨ql,qv⟩:=rZ eX.out.2
              go_wp2_with (go_at_call 113;refine(wi.out _ y_.out).mono ?_)
              rintro e dy ⟨A,cp,rfl,gk⟩
              have rP:=Lib.hid gk;clear gk
              go_wp2
              go_roundw
              case rel=>exact⟨j+1,by omega,by go_num,p8 eX.out.1 rP.out,eX.out.2.trans (rP.out.mono oV.out)⟩
              case measure=>simp[intOf];omega
            | succ m=>
              rw[hm] at h2
              simp only[hm] at wi
              have kX:=Lib.hid h2;clear h2 hm
              go_wp2_with (go_at_call 156;refine(n5 _ _ _ _ _ (p8 kW.out (iE.out _)) (Nat.le_of_succ_le cg.out) (wk.out _)).mono ?_)
              rintro e bQ rfl eN de
              have eX:Hid (∃c,(Lib.IsBuilder 173 5 (W.heap.size+1+1) (W.heap.size+1+1) (Lib.byteCells (jh j++[c])) bQ∧Below (W.heap.size+1+1) ((W.alloc (Obj.cells #[.int .i64 k,s1,s2,gM,.int .i64 dV] 29)).alloc (Obj.cells #[.bool ok,.slice (some ⟨j5,lr,none⟩) k gp,.slice (some ⟨hg,pD,none⟩) eS c1,.slice ic n2 c2] 40)) bQ)∧jh (j+1)=jh j++[c]++[33]):=by
                first
                | (exact⟨63,jC ig.out (iE.out _) de fv.out (c:=63) eN rfl,by rw[kX.out];simp⟩)
                | (exact⟨60,jC ig.out (iE.out _) de fv.out (c:=60) eN rfl,by rw[kX.out];simp⟩)
                | (exact⟨62,jC ig.out (iE.out _) de fv.out (c:=62) eN rfl,by rw[kX.out];simp⟩)
              clear eN
              have y_:Hid (Below W.heap.size W bQ):=(jg.out.trans ((iE.out _).mono (by have:=fv.out;omega))).trans (de.mono (by omega))
              have oV:Hid (W.heap.size+1+1≤bQ.heap.size):=by unfold Hid;have:=de.size;have:=fv.out;simp at*;omega
              clear de
              obtain⟨ql,qv⟩:=rZ eX.out.choose_spec.1.2
              go_wp2_with (go_at_call 113;refine(wi.out _ y_.out).mono ?_)
              rintro e dy ⟨A,cp,rfl,gk⟩
              have rP:=Lib.hid gk;clear gk
              obtain⟨c,wj,y9⟩:=eX.out
              have wj:=Lib.hid wj
              have y9:=Lib.hid y9
              have Np:Hid ((Lib.byteCells (jh j++[c])).length+1≤140737488355328):=by
                unfold Hid;have:=cg.out;rw[Lib.byteCells_length] at this ⊢;simp only[List.length_append,List.length_cons,List.length_nil];omega
              have Nq:Hid (W.heap.size+1+1≤dy.heap.size):=Nat.le_trans oV.out rP.out.size
              clear eX
              go_wp2_with (go_at_call 156;refine(n5 _ _ _ _ _ (p8 wj.out.1 rP.out) Np.out Nq.out).mono ?_)
              rintro e gO ⟨rfl,eN,de⟩
              have D_:=Lib.hid (jC wj.out.2 rP.out de oV.out (c:=33) (l':=jh (j+1)) eN y9.out)
              clear eN de
              go_wp2
              go_roundw
              case rel=>exact⟨j+1,by omega,by go_num,D_.out.1,D_.out.2⟩
              case measure=>simp[intOf];omega
        · have A1:j=eS:=by omega
          subst A1
          have cg:Hid ((Lib.byteCells (jh j)).length+1≤140737488355328):=by unfold Hid;rw[Lib.byteCells_length];have:=D7.out j;omega
          go_wp2_with (go_at_call 156;refine(n5 _ _ _ 32 _ kW.out cg.out fv.out).mono ?_)
          rintro e bQ ⟨rfl,eN,de⟩
          have eX:=Lib.hid (jC ig.out (Below.refl _ _) de fv.out (c:=32) (l':=jh j++[32]) eN rfl);clear eN de
          obtain⟨ql,qv⟩:=rZ eX.out.2
          go_wp2
          clear ql qv hc hf
          go_loopw [69] (fun i wr=> ∃m:Nat,m≤n2∧i= .int .i64 m∧Lib.IsBuilder 173 5 (W.heap.size+1+1) (W.heap.size+1+1) (Lib.byteCells (lK m)) wr∧Below (W.heap.size+1+1) ((W.alloc (Obj.cells #[.int .i64 k,s1,s2,gM,.int .i64 dV] 29)).alloc (Obj.cells #[.bool ok,.slice (some ⟨j5,lr,none⟩) k gp,.slice iC j c1,.slice ic n2 c2] 40)) wr) (fun i _=>n2 - (intOf i).toNat)
          case atStart=>exact⟨0,Nat.zero_le _,rfl,by rw[Nd.out];exact eX.out.1,eX.out.2⟩
          case round=>
            clear eX jg kW fv ig cg
            obtain⟨m,hm,rfl,cV,hb⟩:=hrel
            have aH:W.heap.size+1+1≤wr.heap.size:=by have:=hb.size;simpa using this
            have jg:Hid (Below W.heap.size W wr):=(((Below.refl _ W).alloc (Nat.le_refl _) _).alloc (by simp) _).trans (hb.mono (by omega))
            have kW:=Lib.hid cV;clear cV
            have fv:=Lib.hid aH;clear aH
            have ig:=Lib.hid hb;clear hb
            by_cases aR:m<n2
            · obtain⟨bi,e2,cE⟩:=Nb.out (by omega)
              obtain⟨cj,q1,q2,q3,q4⟩:=cE m aR
              subst bi
              have Q5:wr.cell? ⟨b7,jR+m*5,none⟩=some (.int .i64 (aq m)):=by
                rw[jg.out.cell (p:=⟨b7,jR+m*5,none⟩) e2];exact cj
              have Gj:wr.cell? ⟨b7,jR+m*5+1,none⟩=some (.int .i64 (FQ m)):=by
                rw[jg.out.cell (p:=⟨b7,jR+m*5+1,none⟩) e2];exact q1
              have Gk:wr.cell? ⟨b7,jR+m*5+2,none⟩=some (.slice (rN m) (r2 m) (rY m)):=by
                rw[jg.out.cell (p:=⟨b7,jR+m*5+2,none⟩) e2];exact q2
              have aaj:wr.cell? ⟨b7,jR+m*5+3,none⟩=some (.bool (Ls m)):=by
                rw[jg.out.cell (p:=⟨b7,jR+m*5+3,none⟩) e2];exact q3
              have aak:wr.cell? ⟨b7,jR+m*5+4,none⟩=some (.int .i64 (kp m)):=by
                rw[jg.out.cell (p:=⟨b7,jR+m*5+4,none⟩) e2];exact q4
              clear cj q1 q2 q3 q4 cE
              have h2:=Nf.out m aR
              have cg:Hid ((Lib.byteCells (lK m)).length+1≤140737488355328):=by unfold Hid;rw[Lib.byteCells_length];have:=Ng.out m;omega
              have iE:Hid (∀o,Below wr.heap.size wr (wr.alloc o)):=fun o=>(Below.refl _ _).alloc (Nat.le_refl _) _
              have wk:Hid (∀o,W.heap.size+1+1≤(wr.alloc o).heap.size):=fun o=>Nat.le_trans fv.out (iE.out o).size
              rcases Nc.out m aR with e | e | e | e | e
              all_goals
                rw[e] at Q5 h2
                clear e
                have kX:=Lib.hid h2;clear h2
                go_wp2_with (go_at_call 156;refine(n5 _ _ _ _ _ (p8 kW.out (iE.out _)) cg.out (wk.out _)).mono ?_)
                rintro e bQ rfl eN de
                first
                | (have eX:=Lib.hid (jC ig.out (iE.out _) de fv.out (c:=45) (l':=lK (m+1)) eN (by rw[kX.out];simp)))
                | (have eX:=Lib.hid (jC ig.out (iE.out _) de fv.out (c:=115) (l':=lK (m+1)) eN (by rw[kX.out];simp)))
                | (have eX:=Lib.hid (jC ig.out (iE.out _) de fv.out (c:=67) (l':=lK (m+1)) eN (by rw[kX.out];simp)))
                | (have eX:=Lib.hid (jC ig.out (iE.out _) de fv.out (c:=116) (l':=lK (m+1)) eN (by rw[kX.out];simp)))
                | (have eX:=Lib.hid (jC ig.out (iE.out _) de fv.out (c:=117) (l':=lK (m+1)) eN (by rw[kX.out];simp)))
                clear eN de
                go_wp2
                go_roundw
                case rel=>exact⟨m+1,by omega,by go_num,eX.out.1,eX.out.2⟩
                case measure=>simp[intOf];omega
            · have Rr:m=n2:=by omega
              subst Rr
              go_wp2_with (go_at_call 157;refine(NZ _ _ _ _ kW.out fv.out).mono ?_)
              rintro e bQ ⟨rfl,de⟩
              have No:=Lib.hid (jg.out.trans (de.mono (by omega)));clear de
              go_wp2
              go_ret
              exact⟨by rw[Nh.out];rfl,No.out⟩
open Go Go.RowKit
theorem W9 {w:World} {A:Option Addr} {xs:List Bool} (h:Rows w A 1 (xs.map aT)) (ap:0<xs.length): ∃c o,A=some ⟨c,o,none⟩∧c<w.heap.size∧ ∀i,i<xs.length→w.cell? ⟨c,o+i,none⟩=some (.bool (nth xs (i:Int))):=by
  rcases h with h | ⟨c,o,e,hc,h⟩
  · simp at h;rw[h] at ap;cases ap
  · refine⟨c,o,e,hc,fun i hi=> ?_⟩
    have hx:=fg (xs:=xs) (i:=(i:Int)) (by simpa using hi)
    obtain⟨u,hu,hv⟩:=h i 0 _ (.bool (nth xs (i:Int))) (by rw[List.getElem?_map,show i=((i:Int)).toNat by omega,hx];rfl) rfl
    rw[Nat.mul_one,Nat.add_zero] at hu
    rw[hu,V3.mh (jk (jI hv))]
theorem Xa {w:World} {A:Option Addr} {xs:List b8} (h:Rows w A 2 (xs.map bn)): ∃c o,0<xs.length→A=some ⟨c,o,none⟩∧c<w.heap.size∧ ∀i,i<xs.length→w.cell? ⟨c,o+i*2,none⟩=some (.int .i64 (nth xs (i:Int)).b1)∧w.cell? ⟨c,o+i*2+1,none⟩=some (.int .i64 (nth xs (i:Int)).aQ):=by
  rcases h with h | ⟨c,o,e,hc,h⟩
  · refine⟨0,0,fun ap=> ?_⟩
    simp at h;rw[h] at ap;cases ap
  · refine⟨c,o,fun _=>⟨e,hc,fun i hi=> ?_⟩⟩
    have hx:=fg (xs:=xs) (i:=(i:Int)) (by simpa using hi)
    have aw:(xs.map bn)[i]?=some (bn (nth xs (i:Int))):=by rw[List.getElem?_map];rw[Int.toNat_natCast] at hx;rw[hx];rfl
    obtain⟨u,hu,hv⟩:=h i 0 _ _ aw rfl
    obtain⟨ZE,jN,mE⟩:=h i 1 _ _ aw rfl
    rw[Nat.add_zero] at hu
    exact⟨by rw[hu,V3.kc (jk (jI hv))],by rw[Nat.add_assoc,jN,V3.kc (jk (jI mE))]⟩
theorem ZK {w:World} {rows:List (List AV)} {cS fr:Bool} {v:Value} (h:bT (Env.wd w) (.a8 rows cS fr) v): ∃A n cap,v= .slice A n cap:=by
  have h:a1 w _ _ (.a8 rows cS fr) v:=h
  cases h;exact⟨_,_,_,rfl⟩
theorem W_ {w:World} {A:Option Addr} {xs:List ab} (h:Rows w A 5 (xs.map (cl false))): ∃c o,∃rN:Nat→Option Addr,∃r2 rY:Nat→Nat,0<xs.length→A=some ⟨c,o,none⟩∧c<w.heap.size∧ ∀i,i<xs.length→
    w.cell? ⟨c,o+i*5,none⟩=some (.int .i64 (nth xs (i:Int)).au)∧w.cell? ⟨c,o+i*5+1,none⟩=some (.int .i64 (nth xs (i:Int)).aa)∧w.cell? ⟨c,o+i*5+2,none⟩=some (.slice (rN i) (r2 i) (rY i))∧
    w.cell? ⟨c,o+i*5+3,none⟩=some (.bool (nth xs (i:Int)).an)∧w.cell? ⟨c,o+i*5+4,none⟩=some (.int .i64 (nth xs (i:Int)).ao):=by
  rcases h with h | ⟨c,o,e,hc,h⟩
  · refine⟨0,0,fun _=>none,fun _=>0,fun _=>0,fun ap=> ?_⟩
    simp at h;rw[h] at ap;cases ap
  · have aw: ∀i,i<xs.length→(xs.map (cl false))[i]?=some (cl false (nth xs (i:Int))):=fun i hi=>by
      have hx:=fg (xs:=xs) (i:=(i:Int)) (by simpa using hi)
      rw[List.getElem?_map];rw[Int.toNat_natCast] at hx;rw[hx];rfl
    have key: ∀i,∃q:Option Addr×Nat×Nat,i<xs.length→w.cell? ⟨c,o+i*5+2,none⟩=some (.slice q.1 q.2.1 q.2.2):=fun i=>by
      by_cases hi:i<xs.length
      · obtain⟨u,hu,hv⟩:=h i 2 _ _ (aw i hi) rfl
        obtain⟨A',lq,OF,rfl⟩:=ZK hv
        exact⟨(A',lq,OF),fun _=>by rw[Nat.add_assoc];exact hu⟩
      · exact⟨(none,0,0),fun h=>absurd h hi⟩
    refine⟨c,o,fun i=>(key i).choose.1,fun i=>(key i).choose.2.1,fun i=>(key i).choose.2.2,fun _=>⟨e,hc,fun i hi=> ?_⟩⟩
    obtain⟨aay,G6,fF⟩:=h i 0 _ _ (aw i hi) rfl
    obtain⟨aaz,pr,hH⟩:=h i 1 _ _ (aw i hi) rfl
    obtain⟨aaA,R3,sE⟩:=h i 3 _ _ (aw i hi) rfl
    obtain⟨aaB,R4,qF⟩:=h i 4 _ _ (aw i hi) rfl
    rw[Nat.add_zero] at G6
    exact⟨by rw[G6,V3.kc (jk (jI fF))],by rw[Nat.add_assoc,pr,V3.kc (jk (jI hH))],(key i).choose_spec hi,
      by rw[Nat.add_assoc,R3,V3.mh (jk (jI sE))],by rw[Nat.add_assoc,R4,V3.kc (jk (jI qF))]⟩
theorem Vk {x:b8} (h:0≤x.aQ∧x.aQ≤2) (h2:1≤x.b1∧x.b1≤2):uV x=if x.aQ=0∨x.aQ≠x.b1 then 63 else if x.aQ=1 then 60 else 62:=by
  unfold uV
  rcases x with⟨a,b⟩
  simp only at h h2 ⊢
  have hb:b=0∨b=1∨b=2:=by omega
  have aL:a=1∨a=2:=by omega
  rcases hb with rfl | rfl | rfl<;>rcases aL with rfl | rfl<;>rfl
theorem Zo {h:ab} (aN:0≤h.au∧h.au≤4):tt h=if h.au=0 then 45 else if h.au=1 then 115 else if h.au=2 then 67 else if h.au=3 then 116 else 117:=by
  unfold tt
  have:h.au=0∨h.au=1∨h.au=2∨h.au=3∨h.au=4:=by omega
  rcases this with e | e | e | e | e<;>rw[e]<;>rfl
theorem La (p:aG) (f:Frame): ∀k:Nat,(lD p f k).length=k
  | 0=>rfl
  | k+1=>by
    show(lD p f ((k:Int)+1)).length=_
    unfold lD
    rw[rD (by omega),List.length_append]
    have:=La p f k
    unfold lD at this
    rw[this];rfl
theorem Xs {p:aG} (h:ft p=true):1≤p.ah:=by
  have:=(vg h).1
  unfold iA bK at this
  simp at this
  omega
theorem Vz (p:aG) (f:Frame) (s:Int):(List.range p.M.length).any (fun i=>eG p f i s)=decide (0≤oz p f s):=by
  unfold oz first
  cases h:(List.range p.M.length).findIdx? (fun i:Nat=>eG p f i s) with
  | none=>
    rw[List.findIdx?_eq_none_iff] at h
    show _=false
    rw[←Bool.not_eq_true,List.any_eq_true]
    rintro⟨i,hi,hx⟩
    rw[h i hi] at hx;cases hx
  | some i=>
    rw[List.findIdx?_eq_some_iff_getElem] at h
    obtain⟨hi,hx,_⟩:=h
    have e:decide (0≤sZ (some i))=true:=decide_eq_true (show(0:Int)≤(i:Int) by omega)
    refine Eq.trans ?_ e.symm
    rw[List.any_eq_true]
    exact⟨_,List.getElem_mem hi,hx⟩
theorem Th (a0:aG) (J:Frame) (ak:tq a0 J):bf Try.prog 119 [.agg (bW false a0),.agg (ck false J)] (.str (nT a0 J)):=by
  obtain⟨hf,JO,J2,MU,ZV,pl,vb,iH,a6⟩:=JR ak
  have qE:=Xs hf.o_
  refine bf.VU (by kernel_rfl) fun W vs aL=> ?_
  obtain⟨pH,vs,rfl,h1,aL⟩:=aL.cons_inv
  obtain⟨o8,vs,rfl,h2,aL⟩:=aL.cons_inv
  obtain rfl:=aL.oC
  obtain⟨s1,s2,gM,rfl,cY,fT,lm⟩:=XJ h1
  obtain⟨tF,gp,iC,c1,ic,c2,rfl,fJ,dr,dT⟩:=XH h2
  obtain⟨j5,lr,rfl,qj,nz⟩:=W9 fJ (by omega)
  obtain⟨hg,JM,xj⟩:=Xa dr
  obtain⟨b7,JN,rN,r2,rY,xk⟩:=W_ dT
  rw[←vb] at h1 ⊢
  have up: ∀{w:World} {a:AV} {v:Value},Below W.heap.size W w→V2 (Env.wd W) a v→V2 (Env.wd w) a v:=fun hb h=>h.le (ZN hb)
  exact XF (nT a0 J) W j5 lr iC ic J.aA.length J.av.length J.M.length gp c1 c2 s1 s2 gM J.ok a0.dV cY fT lm JO J2 MU
    (fun i=>nth J.aA (i:Int)) (fun k=>oz a0 J k) qj nz (fun k=>lD a0 J k) rfl
    (fun k=>by
      show lD a0 J ((k:Int)+1)=_
      unfold lD
      rw[rD (by omega)]
      show _++[vC a0 J k]=_
      unfold vC tm
      rw[Int.toNat_natCast,Vz])
    (fun k=>La a0 J k)
    hg JM (fun k=>(nth J.av (k:Int)).b1) (fun k=>(nth J.av (k:Int)).aQ) xj
    (fun k hk=>by have:=iH k (by omega) (by omega);omega) (fun k=>(h4 a0 J k).length) (fun k=>m4 a0 J k) (by unfold m4 ma;simp)
    (fun k hk=>by
      have:=iH k (by omega) (by omega)
      show m4 a0 J ((k:Int)+1)=_
      unfold m4
      rw[rD (by omega),←List.append_assoc]
      congr 1
      unfold q6
      rw[Vk (by omega) (by omega)]
      congr 1
      by_cases h:0<(h4 a0 J (k:Int)).length
      · rw[if_pos h,decide_eq_true (by omega)];rfl
      · rw[if_neg h,decide_eq_false (by omega)];rfl)
    (fun k=>by have:=C7 a0 J k;omega)
    (fun w k hk hb=>XK ⟨hf,by omega,by omega⟩ (by rw[vb] at h1 ⊢;exact up hb h1) (up hb h2))
    b7 JN (fun k=>(nth J.M (k:Int)).au) (fun k=>(nth J.M (k:Int)).aa) (fun k=>(nth J.M (k:Int)).ao) rN r2 rY (fun k=>(nth J.M (k:Int)).an) xk
    (fun k hk=>by have:=a6 k (by omega) (by omega);omega) (fun k=>oQ a0 J k) (by unfold oQ ma;simp)
    (fun k hk=>by
      have:=a6 k (by omega) (by omega)
      show oQ a0 J ((k:Int)+1)=_
      unfold oQ
      rw[rD (by omega),←List.append_assoc]
      rw[Zo (by omega)])
    (fun k=>by have:=Lb a0 J k;omega) rfl
    (fun w k hb=>XI hf (by rw[vb] at h1 ⊢;exact up hb h1) (up hb h2) k)
def Ti:cd Try.prog:=⟨119,[.c7,.frame],[.str],some fun x=>tq x.1 x.2.1,fun x=>((nT x.1 x.2.1),()),fun x h=>Th x.1 x.2.1 h⟩
end Go.Proofs.Ytglpfccgmfhkdaa.Fw
set_option linter.unusedVariables false
set_option maxRecDepth 100000
set_option maxHeartbeats 4000000
set_option linter.unusedSimpArgs false
namespace Go.Proofs.Ytglpfccgmfhkdaa.Fw
open Go
attribute [local irreducible] evS evSD WpS Weak Oper.looksAt
def Mm (bw:Int→ByteArray→Int→ByteArray→ByteArray→Int→Prop) (bu:Int→ByteArray→Int→ByteArray→ByteArray→Int→Nat) (J:Frame) (cJ:Int) (v5:ByteArray) (v46:Int) (ha nZ:ByteArray) (jE:Int):Prop:=
  bw cJ v5 v46 ha (nZ++(nth ([(ByteArray.mk #[45]),(ByteArray.mk #[115]),(ByteArray.mk #[67]),(ByteArray.mk #[116]),(ByteArray.mk #[117])]) (nth J.M jE).au)) (IntKind.i64.wrap (jE+1))∧bu cJ v5 v46 ha (nZ++(nth ([(ByteArray.mk #[45]),(ByteArray.mk #[115]),(ByteArray.mk #[67]),(ByteArray.mk #[116]),(ByteArray.mk #[117])]) (nth J.M jE).au)) (IntKind.i64.wrap (jE+1))<bu cJ v5 v46 ha nZ jE
def Mn (bw:Int→ByteArray→Int→ByteArray→ByteArray→Int→Prop) (bu:Int→ByteArray→Int→ByteArray→ByteArray→Int→Nat) (J:Frame) (cJ:Int) (v5:ByteArray) (v46:Int) (ha nZ:ByteArray) (jE:Int):Prop:=
  ((0≤jE∧jE.toNat<J.M.length)∧((0≤(nth J.M jE).au∧(nth J.M jE).au.toNat<([(ByteArray.mk #[45]),(ByteArray.mk #[115]),(ByteArray.mk #[67]),(ByteArray.mk #[116]),(ByteArray.mk #[117])]).length)∧(nZ.size+(nth ([(ByteArray.mk #[45]),(ByteArray.mk #[115]),(ByteArray.mk #[67]),(ByteArray.mk #[116]),(ByteArray.mk #[117])]) (nth J.M jE).au).size≤9223372036854775807)))∧(Mm bw bu J cJ v5 v46 ha nZ jE)
def Mo (a0:aG) (J:Frame) (v46:Int) (ha:ByteArray):Prop:=
  ha.size+(bif (decide (((h4 a0 J v46).length:Int)>0)) then((bif ((nth J.av v46).aQ !=(nth J.av v46).b1) then(ByteArray.mk #[63]) else(nth ([(ByteArray.mk #[63]),(ByteArray.mk #[60]),(ByteArray.mk #[62])]) (nth J.av v46).aQ))++(ByteArray.mk #[33])) else(bif ((nth J.av v46).aQ !=(nth J.av v46).b1) then(ByteArray.mk #[63]) else(nth ([(ByteArray.mk #[63]),(ByteArray.mk #[60]),(ByteArray.mk #[62])]) (nth J.av v46).aQ))).size≤9223372036854775807
def Mp (a0:aG) (J:Frame) (v46:Int) (ha:ByteArray):Prop:=
  ((vi a0 J v46)∧((h4 a0 J v46).length≤4611686018427387904→(decide (((h4 a0 J v46).length:Int)>0))=true→(bif ((nth J.av v46).aQ !=(nth J.av v46).b1) then(ByteArray.mk #[63]) else(nth ([(ByteArray.mk #[63]),(ByteArray.mk #[60]),(ByteArray.mk #[62])]) (nth J.av v46).aQ)).size+(ByteArray.mk #[33]).size≤9223372036854775807))∧((h4 a0 J v46).length≤4611686018427387904→Mo a0 J v46 ha)
def Mq (aX:Int→ByteArray→Int→ByteArray→Prop) (aY:Int→ByteArray→Int→ByteArray→Nat) (a0:aG) (J:Frame) (cJ:Int) (v5:ByteArray) (v46:Int) (ha:ByteArray):Prop:=
  aX cJ v5 (IntKind.i64.wrap (v46+1)) (ha++(bif (decide (((h4 a0 J v46).length:Int)>0)) then((bif ((nth J.av v46).aQ !=(nth J.av v46).b1) then(ByteArray.mk #[63]) else(nth ([(ByteArray.mk #[63]),(ByteArray.mk #[60]),(ByteArray.mk #[62])]) (nth J.av v46).aQ))++(ByteArray.mk #[33])) else(bif ((nth J.av v46).aQ !=(nth J.av v46).b1) then(ByteArray.mk #[63]) else(nth ([(ByteArray.mk #[63]),(ByteArray.mk #[60]),(ByteArray.mk #[62])]) (nth J.av v46).aQ))))∧aY cJ v5 (IntKind.i64.wrap (v46+1)) (ha++(bif (decide (((h4 a0 J v46).length:Int)>0)) then((bif ((nth J.av v46).aQ !=(nth J.av v46).b1) then(ByteArray.mk #[63]) else(nth ([(ByteArray.mk #[63]),(ByteArray.mk #[60]),(ByteArray.mk #[62])]) (nth J.av v46).aQ))++(ByteArray.mk #[33])) else(bif ((nth J.av v46).aQ !=(nth J.av v46).b1) then(ByteArray.mk #[63]) else(nth ([(ByteArray.mk #[63]),(ByteArray.mk #[60]),(ByteArray.mk #[62])]) (nth J.av v46).aQ))))<aY cJ v5 v46 ha
def Mr (aX:Int→ByteArray→Int→ByteArray→Prop) (aY:Int→ByteArray→Int→ByteArray→Nat) (bw:Int→ByteArray→Int→ByteArray→ByteArray→Int→Prop) (bu:Int→ByteArray→Int→ByteArray→ByteArray→Int→Nat) (a0:aG) (J:Frame) (ac:ByteArray) (cJ:Int) (v5:ByteArray) (v46:Int) (ha:ByteArray):Prop:=
  ((decide (v46<(J.av.length:Int)))=false→(ha.size+(ByteArray.mk #[32]).size≤9223372036854775807)∧(J.M.length≤4611686018427387904→bw cJ v5 v46 ha (ha++(ByteArray.mk #[32])) 0∧ ∀(nZ:ByteArray) (jE:Int),bw cJ v5 v46 ha nZ jE→(((decide (jE<(J.M.length:Int)))=false→nZ=ac)∧((decide (jE<(J.M.length:Int)))=true→Mn bw bu J cJ v5 v46 ha nZ jE))))∧((decide (v46<(J.av.length:Int)))=true→((0≤v46∧v46.toNat<J.av.length)∧((0≤(nth J.av v46).aQ∧(nth J.av v46).aQ.toNat<([(ByteArray.mk #[63]),(ByteArray.mk #[60]),(ByteArray.mk #[62])]).length)∧(Mp a0 J v46 ha)))∧((h4 a0 J v46).length≤4611686018427387904→Mq aX aY a0 J cJ v5 v46 ha))
def Ms (ai:Int→ByteArray→Prop) (al:Int→ByteArray→Nat) (da:Int→ByteArray→Int→ByteArray→Prop) (di:Int→ByteArray→Int→ByteArray→Nat) (a0:aG) (J:Frame) (m_:Int) (fM:ByteArray) (cJ:Int) (v5:ByteArray):Prop:=
  ((decide (m_<(a0.M.length:Int)))=false→(0≤cJ∧cJ.toNat<J.aA.length)∧((v5.size+(bif (nth J.aA cJ) then(ByteArray.mk #[35]) else fM).size≤9223372036854775807)∧(ai (IntKind.i64.wrap (cJ+1)) (v5++(bif (nth J.aA cJ) then(ByteArray.mk #[35]) else fM))∧al (IntKind.i64.wrap (cJ+1)) (v5++(bif (nth J.aA cJ) then(ByteArray.mk #[35]) else fM))<al cJ v5)))∧((decide (m_<(a0.M.length:Int)))=true→(pn a0 J m_ cJ)∧(da cJ v5 (IntKind.i64.wrap (m_+1)) (bif (eG a0 J m_ cJ) then(ByteArray.mk #[61]) else fM)∧di cJ v5 (IntKind.i64.wrap (m_+1)) (bif (eG a0 J m_ cJ) then(ByteArray.mk #[61]) else fM)<di cJ v5 m_ fM))
def Mt (ai:Int→ByteArray→Prop) (al:Int→ByteArray→Nat) (aX:Int→ByteArray→Int→ByteArray→Prop) (aY:Int→ByteArray→Int→ByteArray→Nat) (bw:Int→ByteArray→Int→ByteArray→ByteArray→Int→Prop) (bu:Int→ByteArray→Int→ByteArray→ByteArray→Int→Nat) (da:Int→ByteArray→Int→ByteArray→Prop) (di:Int→ByteArray→Int→ByteArray→Nat) (a0:aG) (J:Frame) (ac:ByteArray) (cJ:Int) (v5:ByteArray):Prop:=
  ((decide (cJ<(J.aA.length:Int)))=false→(v5.size+(ByteArray.mk #[32]).size≤9223372036854775807)∧(J.av.length≤4611686018427387904→aX cJ v5 0 (v5++(ByteArray.mk #[32]))∧ ∀(v46:Int) (ha:ByteArray),aX cJ v5 v46 ha→(Mr aX aY bw bu a0 J ac cJ v5 v46 ha)))∧((decide (cJ<(J.aA.length:Int)))=true→a0.M.length≤4611686018427387904→da cJ v5 0 (ByteArray.mk #[46])∧ ∀(m_:Int) (fM:ByteArray),da cJ v5 m_ fM→(Ms ai al da di a0 J m_ fM cJ v5))
def Ml (a0:aG) (J:Frame) (ac:ByteArray) (ai:Int→ByteArray→Prop) (al:Int→ByteArray→Nat) (aX:Int→ByteArray→Int→ByteArray→Prop) (aY:Int→ByteArray→Int→ByteArray→Nat) (bw:Int→ByteArray→Int→ByteArray→ByteArray→Int→Prop) (bu:Int→ByteArray→Int→ByteArray→ByteArray→Int→Nat) (da:Int→ByteArray→Int→ByteArray→Prop) (di:Int→ByteArray→Int→ByteArray→Nat):Prop:=
 J.aA.length≤4611686018427387904→ai 0 (ByteArray.mk #[])∧ ∀(cJ:Int) (v5:ByteArray),ai cJ v5→(Mt ai al aX aY bw bu da di a0 J ac cJ v5)
theorem Zg (a0:aG) (J:Frame) (ak:tq a0 J):bf Try.prog 118 [.agg (bW false a0),.agg (ck false J)] (.str (nT a0 J)):=(fun(ai:Int→ByteArray→Prop) (al:Int→ByteArray→Nat) (aX:Int→ByteArray→Int→ByteArray→Prop) (aY:Int→ByteArray→Int→ByteArray→Nat) (bw:Int→ByteArray→Int→ByteArray→ByteArray→Int→Prop) (bu:Int→ByteArray→Int→ByteArray→ByteArray→Int→Nat) (da:Int→ByteArray→Int→ByteArray→Prop) (di:Int→ByteArray→Int→ByteArray→Nat) (h:Ml a0 J (nT a0 J) ai al aX aY bw bu da di)=>bf.run (ps:=[.c7,.frame]) (rs:=[.str]) (x:=(a0,J,())) (r:=((nT a0 J),())) ⟨91,cm,[Zb,Mf]⟩ ⟨[],[],[],[],[]⟩ (.lp [] [2,3,16] [(3,4),(2,5)] [.int,.str] [17,5] (fun aS=>[(5,.s aS.2.1),(17,.i .i64 aS.1)]) (fun aS=>ai aS.1 aS.2.1) (fun aS=>al aS.1 aS.2.1) fun aS=>(.p9 (.lp [] [2,3,44,45] [(3,4),(2,5)] [.int,.str] [46,5] (fun bQ=>[(5,.s bQ.2.1),(46,.i .i64 bQ.1)]) (fun bQ=>aX aS.1 aS.2.1 bQ.1 bQ.2.1) (fun bQ=>aY aS.1 aS.2.1 bQ.1 bQ.2.1) fun bQ=>(.lp [] [76,77] [] [.str,.int] [5,78] (fun dy=>[(5,.s dy.1),(78,.i .i64 dy.2.1)]) (fun dy=>bw aS.1 aS.2.1 bQ.1 bQ.2.1 dy.1 dy.2.1) (fun dy=>bu aS.1 aS.2.1 bQ.1 bQ.2.1 dy.1 dy.2.1) fun _=> .nil)) (.lp [] [2,3,5,6,16,17,22] [(3,4),(2,5)] [.int,.str] [23,7] (fun gO=>[(7,.s gO.2.1),(23,.i .i64 gO.1)]) (fun gO=>da aS.1 aS.2.1 gO.1 gO.2.1) (fun gO=>di aS.1 aS.2.1 gO.1 gO.2.1) fun _=> .nil))) Try.func118 h) (fun v x=>b4 J.aA.length (fun _=>false) v∧x=vK a0 J v) (fun v _=>cn J.aA.length v) (fun _ _ v x=>b4 J.av.length (fun _=>false) v∧x=oO a0 J v) (fun _ _ v _=>cn J.av.length v) (fun _ _ _ _ x v=>b4 J.M.length (fun _=>false) v∧x=pP a0 J v) (fun _ _ _ _ _ v=>cn J.M.length v) (fun v _ j c=>c=ri a0 J v j∧b4 a0.M.length (fun _=>false) j) (fun _ _ j _=>cn a0.M.length j) (by
 unfold Ml
 obtain⟨hf,JO,J2,MU,ZV,pl,vb,iH,a6⟩:=JR ak
 intro ap
 refine⟨⟨c6 (cQ _),rfl⟩,fun v x aV=> ?_⟩
 obtain⟨aV,rfl⟩:=aV
 have fF:=aV.1
 have hH:=aV.2.1
 unfold Mt
 refine⟨fun hv=> ?_,fun hv uH=>⟨⟨?_,c6 (cQ _)⟩,fun j c gf=> ?_⟩⟩
 ·have Bi:v=(J.aA.length:Int):=by
   have: ¬v<(J.aA.length:Int):=by simpa using hv
   omega
  subst Bi
  have mO:=C6 a0 J J.aA.length
  refine⟨by show(fP _).size+(fP [32]).size≤_;rw[mj,mj];simp only[List.length_cons,List.length_nil];omega,fun GQ=>⟨⟨c6 (cQ _),Xw⟩,fun k x im=> ?_⟩⟩
  obtain⟨im,rfl⟩:=im
  have pi:=im.1
  have GB:=im.2.1
  have iK:=C7 a0 J k
  unfold Mr
  refine⟨fun hk=> ?_,fun hk=> ?_⟩
  ·have qy:k=(J.av.length:Int):=by
    have: ¬k<(J.av.length:Int):=by simpa using hk
    omega
   subst qy
   refine⟨by show(fP _).size+(fP [32]).size≤_;rw[mj,mj];simp only[List.length_cons,List.length_nil];omega,fun uH=>⟨⟨c6 (cQ _),Xy⟩,fun x i io=> ?_⟩⟩
   obtain⟨io,rfl⟩:=io
   have xu:=io.1
   have aam:=io.2.1
   have sO:=Lb a0 J i
   refine⟨fun hi=> ?_,fun hi=> ?_⟩
   ·have: ¬i<(J.M.length:Int):=by simpa using hi
    rw[show i=(J.M.length:Int) by omega];rfl
   ·have aR:i<(J.M.length:Int):=by simpa using hi
    obtain⟨dt,s1⟩:=a6 i xu aR
    unfold Mn
    refine⟨⟨cq io hi,⟨dt,by simp only[List.length_cons,List.length_nil];omega⟩,?_⟩,?_⟩
    ·show(pP a0 J i).size+(yN (nth J.M i)).size≤_
     rw[My dt s1]
     show(fP _).size+(fP _).size≤_
     rw[mj,mj];simp only[List.length_cons,List.length_nil];omega
    ·unfold Mm
     have a6:=cX (c0 uH) io hi rfl
     refine⟨⟨a6.1,?_⟩,a6.2⟩
     rw[kT (c0 uH) xu aR]
     exact XA xu dt s1
  ·have aR:k<(J.av.length:Int):=by simpa using hk
   obtain⟨_,_,dt,s1⟩:=iH k pi aR
   have key:(vk a0 J k).size≤2:=by rw[Kj dt s1,mj];exact Kk _ _ _
   have cY:(sP (nth J.av k)).size=1:=by rw[Jk dt s1,mj];rfl
   have fT:(oO a0 J k).size≤J.aA.length+1+k.toNat*2:=by show(fP _).size≤_;rw[mj];exact iK
   refine⟨⟨cq im hk,⟨dt,by simp only[List.length_cons,List.length_nil];omega⟩,?_⟩,fun jy=> ?_⟩
   ·unfold Mp
    refine⟨⟨⟨hf,pi,by omega⟩,fun _ _=> ?_⟩,fun _=> ?_⟩
    ·show(sP (nth J.av k)).size+(fP [33]).size≤_
     rw[cY,mj];simp
    ·unfold Mo
     show(oO a0 J k).size+(vk a0 J k).size≤_
     omega
   ·unfold Mq
    have a6:=cX (c0 GQ) im hk rfl
    refine⟨⟨a6.1,?_⟩,a6.2⟩
    rw[kT (c0 GQ) pi aR]
    exact Xz pi dt s1
 ·rfl
 ·obtain⟨rfl,gf⟩:=gf
  have uD:=gf.1
  have aan:=gf.2.1
  unfold Ms
  have aR:v<(J.aA.length:Int):=by simpa using hv
  have a6:=cX (c0 ap) aV hv rfl
  refine⟨fun aC=> ?_,fun aC=> ?_⟩
  ·have A1:j=(a0.M.length:Int):=by
    have: ¬j<(a0.M.length:Int):=by simpa using aC
    omega
   subst A1
   have mO:=C6 a0 J v
   refine⟨cq aV hv,?_,⟨a6.1,?_⟩,a6.2⟩
   ·have:(bif nth J.aA v then ByteArray.mk #[35] else ri a0 J v a0.M.length).size=1:=by cases nth J.aA v<;>rfl
    rw[this]
    show(fP _).size+1≤_
    rw[mj];omega
   ·rw[kT (c0 ap) fF aR];exact Xx fF
  ·have xD:j<(a0.M.length:Int):=by simpa using aC
   have G3:=cX (c0 uH) gf aC rfl
   refine⟨⟨hf,uD,xD⟩,⟨?_,G3.1⟩,G3.2⟩
   rw[kT (c0 uH) uD xD];exact Xq uD)
def Zh:cd Try.prog:=⟨118,[.c7,.frame],[.str],some fun x=>tq x.1 x.2.1,fun x=>((nT x.1 x.2.1),()),fun x h=>Zg x.1 x.2.1 h⟩
def LJ (a0:aG) (J:Frame) (ac:ByteArray):Prop:=
 ((la a0 J)∧((!(gd a0 J))=true→(ByteArray.mk #[])=ac))∧((!(!(gd a0 J)))=true→(tq a0 J)∧((nT a0 J)=ac))
theorem Yv (a0:aG) (J:Frame) (ak:la a0 J):bf Try.prog 58 [.agg (bW false a0),.agg (ck false J)] (.str (kv a0 J)):=(fun(h:LJ a0 J (kv a0 J))=>bf.run (ps:=[.c7,.frame]) (rs:=[.str]) (x:=(a0,J,())) (r:=((kv a0 J),())) ⟨12,cm,[Yp,Zh]⟩ ⟨[],[],[],[],[]⟩ .nil Try.func58 h) (by
 unfold LJ kv
 refine⟨⟨ak,fun h=> ?_⟩,fun h=> ?_⟩
 ·cases ag:gd a0 J with
  | false=>rfl
  | true=>rw[ag] at h;cases h
 ·have ag:gd a0 J=true:=by simpa using h
  refine⟨ag,?_⟩
  rw[if_pos ag])
def Yw:cd Try.prog:=⟨58,[.c7,.frame],[.str],some fun x=>la x.1 x.2.1,fun x=>((kv x.1 x.2.1),()),fun x h=>Yv x.1 x.2.1 h⟩
def Hu (a0:aG) (J:Frame) (ac:ByteArray):Prop:=
 ((la a0 J)∧((!(gd a0 J))=true→(ByteArray.mk #[])=ac))∧((!(!(gd a0 J)))=true→(tq a0 J)∧((nT a0 J)=ac))
theorem Sy (a0:aG) (J:Frame) (ak:la a0 J):bf Try.prog 59 [.agg (bW false a0),.agg (ck false J)] (.str (kv a0 J)):=(fun(h:Hu a0 J (kv a0 J))=>bf.run (ps:=[.c7,.frame]) (rs:=[.str]) (x:=(a0,J,())) (r:=((kv a0 J),())) ⟨12,cm,[Sq,Ti]⟩ ⟨[],[],[],[],[]⟩ .nil Try.func59 h) (by
 unfold Hu kv
 refine⟨⟨ak,fun h=> ?_⟩,fun h=> ?_⟩
 ·cases ag:gd a0 J with
  | false=>rfl
  | true=>rw[ag] at h;cases h
 ·have ag:gd a0 J=true:=by simpa using h
  refine⟨ag,?_⟩
  rw[if_pos ag])
def Sz:cd Try.prog:=⟨59,[.c7,.frame],[.str],some fun x=>la x.1 x.2.1,fun x=>((kv x.1 x.2.1),()),fun x h=>Sy x.1 x.2.1 h⟩
def TI:List Item:=[aj 0,aj 1,aj 2,aj 3,aj 4,aj 5]
def TJ:List (List Nat):=[[],[0],[],[0,1,2],rg 0 4,rg 0 5]
def TE:List Item:=[aj 0,aj 1,aj 2,aj 3,aj 4]
def TF:List (List Nat):=[[],[],[1],[0,1,2],rg 0 4]
def TG:List Item:=[aj 0,aj 1,aj 2,aj 3,aj 4]
def TH:List (List Nat):=[[],[],[1],[0,1,2],rg 0 4]
def H_ (a0:aG) (J:Frame) (ac:Bool):Prop:=
  ((!((kv (af a0) (af J)).toList==(kv (af a0) (af J)).toList))=true→false=ac)∧((!(!((kv (af a0) (af J)).toList==(kv (af a0) (af J)).toList)))=true→((rr a0)∧((!(eqv (af a0) (af a0)))=true→false=ac))∧((!(!(eqv (af a0) (af a0))))=true→((rq J)∧((!(eqv (af J) (af J)))=true→false=ac))∧((!(!(eqv (af J) (af J))))=true→true=ac)))
def Ia (a0:aG) (J:Frame) (ac:Bool):Prop:=
  ((decide ((l9 a0 1048576)<0))=true→true=ac)∧((!(decide ((l9 a0 1048576)<0)))=true→(eo J (l9 a0 1048576))∧(((decide ((rA J (l9 a0 1048576))<0))=true→true=ac)∧((!(decide ((rA J (l9 a0 1048576))<0)))=true→((rr a0)∧((rq J)∧(la (af a0) (af J))))∧((rr a0)∧((rq J)∧((la (af a0) (af J))∧(H_ a0 J ac)))))))
def H9 (a0:aG) (J:Frame) (ac:Bool):Prop:=
 (eo a0 1048576)∧(Ia a0 J ac)
theorem TD (a0:aG) (J:Frame):bf Try.prog 18 [.agg (bW false a0),.agg (ck false J)] (ax (D1 a0 J)):=(fun(h:H9 a0 J (D1 a0 J))=>bf.run (ps:=[.c7,.frame]) (rs:=[.bool]) (x:=(a0,J,())) (r:=((D1 a0 J),())) ⟨45,cm,[UA,Ur,UZ,UL,Yw,Sz,Ua,TT]⟩ ⟨[],[(8,TI,TJ),(14,TE,TF),(16,TG,TH)],[],[],[]⟩ .nil Try.func18 h) (by
 unfold H9 Ia H_
 refine⟨⟨by omega,by omega⟩,fun _=>rfl,fun h=> ?_⟩
 have hs:=Yi h
 have aE:=Jf (n:=vh a0) ⟨by omega,by omega⟩ h
 refine⟨aE.2,fun _=>rfl,fun h2=> ?_⟩
 have hf:rq J:=(Jf (n:=xf J) aE.2 h2).1
 have dn:la (af a0) (af J):=Yh hf
 exact⟨⟨hs,hf,dn⟩,hs,hf,dn,fun h=>by simp at h,fun _=>⟨⟨hs,fun h=>by simp[eqv] at h⟩,fun _=>⟨⟨hf,fun h=>by simp[eqv] at h⟩,fun _=>rfl⟩⟩⟩)
end Go.Proofs.Ytglpfccgmfhkdaa.Fw
