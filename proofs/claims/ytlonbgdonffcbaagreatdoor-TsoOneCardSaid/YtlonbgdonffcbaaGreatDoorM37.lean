import Derived.Test.YtlonbgdonffcbaaGreatDoorM36
import Derived.Test.YtlonbgdonffcbaaGreatDoorM32
section
/- All situations: the walk. -/
namespace Go.Proofs.YtlonbgdonffcbaaGreatDoor
open Go Go.cW Go.Proofs
set_option linter.unusedSimpArgs false
set_option linter.unusedVariables false
set_option maxRecDepth 8000
abbrev jV:AV:= .sc (.slice none 0 0)
def tT (o:Obj):Option (List bu)→AV
 |none=> .dF [jV,i64 3]
 |some l=> .dF [gv o l,i64 0]
def lL (p:Bool) (o:Obj) (g:Nat):Prop:=∀s,oi o s→s.bh.length≤1048576→Pure Tryz.prog g [s.frozen o] (fun r=>r=nD (cy p o s))
theorem sQ {o:Obj} (ok:ch o):lL false o 24:=fun s h hp=>AG h.gC (h.look ok hp).bd
theorem xn {o:Obj} (ok:ch o):lL true o 52:=fun s h hp=>xm h.gC ok (h.look ok hp) (by omega)
theorem uy {o:Obj}:∀(l:List cQ) (s:bj) (x:cQ),jA o s (l++[x])=(ck o (jA o s l) x.kind x.core).1
 |[],s,x=>rfl
 |y::l,s,x=>uy l _ x
theorem qL {o:Obj}:∀(l:List cQ) (s:bj),(jA o s l).bh.length≤s.bh.length+l.length
 |[],s=>Nat.le_refl _
 |y::l,s=>by
  have h1:=qL (o:=o) l (ck o s y.kind y.core).1
  have h2:=lE o s y.kind y.core
  show(jA o (ck o s y.kind y.core).1 l).bh.length≤_
  rw[List.length_cons];omega
theorem GK {p:Bool} {o:Obj} {s:bj} {mv:List cQ} (h:mv∈cy p o s):mv≠[]:=by
 obtain⟨x,_,rfl|⟨_,_,_,rfl⟩⟩:=oD h<;>simp
theorem yi (H:Hp) (k:Nat) (cs:List AV):cW.eJ H (k+1) (.dF cs)= .dF (cs.map (cW.eJ H k)):=by simp only[cW.eJ]
theorem BD {p:Bool} {o:Obj} {s:bj}:(cy p o s).length≤2 * s.bd.length:=by
 have:=jh o s s.bd.length
 unfold cy
 split
 ·rw[List.length_map]
  exact Nat.le_trans (List.length_filter_le _ _) this
 ·rw[List.length_map];exact this
theorem H8 {o:Obj} (ho:o.Wf) (h:fB o=false) (most:Int) (g:Nat):Pure Tryz.prog 30 [o.av,i64 most, .fn (.func g) [] []] (fun r=>r= .dF [jV,i64 160]):=by
 obtain⟨k,n,hk⟩:=zt h
 have c0:=ju o ho
 rw[hk] at c0
 refine cz ?_ (by simp[cG,cC])
 refine aO x4 rfl ?_
 refine rG ?_
 exact⟨by simp[eK,cG,cC,cW.eJ]⟩
theorem zj {o:Obj} (ho:o.Wf) (h:fB o=true) (most:Int) (hm:¬(1≤most∧most≤65536)) (g:Nat):Pure Tryz.prog 30 [o.av,i64 most, .fn (.func g) [] []] (fun r=>r= .dF [jV,i64 2]):=by
 have c0:=ju o ho
 rw[pq h] at c0
 refine cz ?_ (by simp[cG,cC])
 refine aO x4 rfl ?_
 by_cases h1:most<1
 ·refine rG ?_
  exact⟨by simp[eK,cG,cC,cW.eJ]⟩
 ·have h2:65536<most:=by omega
  refine rG ?_
  exact⟨by simp[eK,cG,cC,cW.eJ]⟩
set_option maxHeartbeats 4000000 in
theorem CS {p:Bool} {o:Obj} (ho:o.Wf) (h:fB o=true) {g:Nat} (hg:lL p o g) (most:Int) (hm:1≤most∧most≤65536):Pure Tryz.prog 30 [o.av,i64 most, .fn (.func g) [] []] (fun r=>r=tT o (iz p o most.toNat)):=by
 obtain⟨mo,rfl⟩:∃mo:Nat,most=mo:=⟨most.toNat,by omega⟩
 rw[Int.toNat_natCast]
 have ok:=qj h
 have hw:=ho.words
 have c0:=ju o ho
 rw[pq h] at c0
 refine cz ?_ (by cases iz p o mo<;>simp[tT,cG,cC];exact iW o _)
 refine aO x4 rfl ?_
 have hF:=iw.init (p:=p) ok hw
 have hm0:=(hF.ok 0 hF.pos).1
 have hm0':(List.getD (eW o) 0 default).m=dM o:=rfl
 rw[hm0'] at hm0
 have g0:BF true (Value.string (rZ (dn (dM o)))) [] (i64 1)=some (lA (eW o)):=rfl
 have h65:(65536:Int)<mo→False:=by omega
 refine rG ?_
 refine aP (MN ho ok h) ?_
 rintro r H1 n1 ⟨L,rfl,hM,hn1,hlt,hk1⟩
 refine cm ?_
 refine aW (EJ hm0 ok (by simp[dM])) (args2:=[(dM o).frozen o]) ?_ (by simp[cG,iX]) trivial ?_
 ·rw[List.map_cons,List.map_nil]
  congr 1
  exact(hM.fF (fun y hy=>by have:=hlt y hy;have:=hM.lt y hy;exact cD) (Nat.le_refl _)).eJ
 refine cm ?_
 have hno:∀y,y<20∨n1≤y→y∉L.ids:=fun y hy hm=>by
  have h1:=hlt y hm
  have h2:=hM.lt y hm
  omega
 refine aR (fun σ:Nat×List bu=>[(1,i64 mo),(2, .fn (.func g) [] []),(13, .sl (n1+7) σ.2.length),(14, .mp (n1+9)),(15,i64 σ.1)])
  (fun σ H n=>σ.1≤σ.2.length∧σ.2.length≤mo∧iw p o σ.2∧om p o mo (mo - σ.1) σ.1 σ.2=iz p o mo∧n1+15≤n∧(∃d,bf H (n1+7)=some (.row 85 3 d (σ.2.map (bu.av o))))∧(∃e d,bf H (n1+9)=some (.row e 0 d (mapA (lA σ.2))))) (fun σ=>mo - σ.1) (0,eW o)
  ⟨_,_,_,Rt.wk (sP (lb:=n1+7) (l:=[]) (fr:=-1) (mv:=[]) (hM.fF ?_ (Nat.le_refl _)) ?_ bo (hno _ (by omega))),cL,Nat.zero_le _,by show 1≤mo;omega,hF,rfl,cN,⟨_,(gB (hno _ (by omega))).trans bo⟩,⟨_,_,(gB (hno _ (by omega))).trans bo⟩⟩ ?_
 ·intro y hy
  have:=hlt y hy
  have:=hM.lt y hy
  exact cD
 ·exact fZ _ (DR 0 [])
 clear hM hlt hk1 hno
 rintro⟨k,l⟩ H n ⟨hk,hl,hfs,hall,hn,⟨d1,r1'⟩,⟨e2,d2,r2'⟩⟩
 dsimp only at hk hl hfs hall r1' r2' ⊢
 have a0:(l.map (bu.av o)).length=l.length:=List.length_map _
 by_cases hkl:k<l.length
 ·have e0:∀d,(l.map (bu.av o)).getD ((k:Int)).toNat d=(l.getD k default).av o:=fun d=>by rw[Int.toNat_natCast];exact dh (bu.av o) l k d hkl
  have hmk:mo - k=(mo - (k+1))+1:=by omega
  rw[hmk,om,if_pos hkl] at hall
  obtain⟨hmok,hpl⟩:=hfs.ok k hkl
  generalize hmm:(l.getD k default).m=m at hmok hpl hall
  have e0':∀d,(l.map (bu.av o)).getD ((k:Int)).toNat d= .agg [m.frozen o,i64 (l.getD k default).from_,mX (l.getD k default).C5]:=fun d=>by rw[e0 d,←hmm];rfl
  clear e0
  have e0:=e0'
  have c1:=hg m hmok (by omega)
  simp only[bj.frozen] at c1
  have hsub:∀mv∈cy p o m,mv∈cy p o m:=fun mv h=>h
  have hfew:=BD (p:=p) (o:=o) (s:=m)
  generalize hms:cy p o m=ms at c1 hall hfew
  replace hsub:∀mv∈ms,mv∈cy p o m:=fun mv h=>by rw[hms];exact h
  refine cm ?_
  have hlk:=hmok.look ok (by omega)
  have hc8:=hlk.bd
  have hfrom:(l.getD k default).from_=(l.getD k default).from_:=rfl
  generalize (l.getD k default).from_=fr0 at e0 e0'
  generalize (l.getD k default).C5=by0 at e0 e0'
  clear hfrom
  refine aR (fun σ:Nat×List bu=>[(1,i64 mo),(2, .fn (.func g) [] []),(13, .sl (n1+7) σ.2.length),(14, .mp (n1+9)),(15,i64 k),(61,nD ms),(62,i64 ms.length),(63,i64 σ.1)])
   (fun σ H n=>σ.1≤ms.length∧k<σ.2.length∧σ.2.length≤mo∧iw p o σ.2∧(σ.2.getD k default).m=m∧(match pB o mo k (ms.drop σ.1) σ.2 with
    |none=>none
    |some l2=>om p o mo (mo - (k+1)) (k+1) l2)=iz p o mo∧n1+15≤n∧(∃d,bf H (n1+7)=some (.row 85 3 d (σ.2.map (bu.av o))))∧(∃e d,bf H (n1+9)=some (.row e 0 d (mapA (lA σ.2))))) (fun σ=>ms.length - σ.1) (0,l)
   ⟨_,_,_,Rt.refl _ _ _,(by rw[List.length_map];exact cL),Nat.zero_le _,hkl,hl,hfs,hmm,hall,cN,⟨_,bo⟩,⟨_,_,bo⟩⟩ ?_
  clear e0 e0' a0 r1' r2' hall hfs hl hkl hn hmm
  rintro⟨t,l⟩ H n ⟨ht,hkl,hl,hfs,hmm,hall,hn,⟨d1,r1'⟩,⟨e2,d2,r2'⟩⟩
  dsimp only at ht hkl hl hfs hmm hall r1' r2' ⊢
  have a0:(l.map (bu.av o)).length=l.length:=List.length_map _
  have a1:(ms.map jB).length=ms.length:=List.length_map _
  by_cases htl:t<ms.length
  ·have e1:∀d,(ms.map jB).getD ((t:Int)).toNat d=jB (ms.getD t default):=fun d=>by rw[Int.toNat_natCast];exact dh jB ms t d htl
   have e0:∀d,(l.map (bu.av o)).getD ((k:Int)).toNat d= .agg [m.frozen o,i64 (l.getD k default).from_,mX (l.getD k default).C5]:=fun d=>by rw[Int.toNat_natCast,dh (bu.av o) l k d hkl,←hmm];rfl
   have hmv:=hsub _ (eZ default htl)
   rw[show ms.drop t=ms.getD t default::ms.drop (t+1) by rw[List.drop_eq_getElem_cons htl];simp[List.getD,htl],pB] at hall
   generalize ms.getD t default=mv at e1 hmv hall
   have hml:=BE hmv
   refine cm ?_
   refine aP (qJ (o:=o) (s:=m) hlk _ _) ?_
   rintro r H2 n2 ⟨L2,rfl,hM2,hlt2,hn2,hk2⟩
   have hlt2:∀x∈L2.ids,n+9≤x:=hlt2
   have hn2:n+9≤n2:=hn2
   have hk2:∀y,y<n+9→bf H2 y=bf H y:=fun y hy=>(hk2 y hy).trans cD
   replace r1':=(hk2 (n1+7) (by omega)).trans r1'
   replace r2':=(hk2 (n1+9) (by omega)).trans r2'
   clear hk2
   have a2:(mv.map cQ.av).length=mv.length:=List.length_map _
   refine cm ?_
   refine aR (fun σ:Nat×Lay=>[(1,i64 mo),(2, .fn (.func g) [] []),(13, .sl (n1+7) l.length),(14, .mp (n1+9)),(15,i64 k),(17,jB mv),(18, .pt σ.2.m 1 0 0),(61,nD ms),(62,i64 ms.length),(63,i64 t),(73,jB mv),(74,i64 mv.length),(75,i64 σ.1)])
    (fun σ H n3=>σ.1≤mv.length∧n+9≤n3∧fq o (jA o m (mv.take σ.1)) σ.2 H n3∧(∀x∈σ.2.ids,n+9≤x)∧(∃d,bf H (n1+7)=some (.row 85 3 d (l.map (bu.av o))))∧(∃e d,bf H (n1+9)=some (.row e 0 d (mapA (lA l))))) (fun σ=>mv.length - σ.1) (0,L2)
    ⟨_,_,_,Rt.refl _ _ _,(by rw[List.length_map];exact cL),Nat.zero_le _,cN,hM2.fF ?_ cN,hlt2,⟨_,bo⟩,⟨_,_,bo⟩⟩ ?_
   ·intro y hy
    have:=hM2.lt y hy
    exact cD
   clear hM2 hlt2 r1' r2' hn2
   rintro⟨i,L⟩ H n3 ⟨hi,hn3,hM,hlt,⟨d1,r1'⟩,⟨e2,d2,r2'⟩⟩
   dsimp only at hi hM hlt ⊢
   have hgp:=qL (o:=o) (mv.take i) m
   rw[List.length_take] at hgp
   have hgo:=yk ok hw (mv.take i) hmok
   by_cases hil:i<mv.length
   ·have e2:∀d,(mv.map cQ.av).getD ((i:Int)).toNat d=(mv.getD i default).av:=fun d=>by rw[Int.toNat_natCast];exact dh _ _ _ d hil
    have hsn:jA o m (mv.take (i+1))=(ck o (jA o m (mv.take i)) (mv.getD i default).kind (mv.getD i default).core).1:=by
     rw[List.take_succ_eq_append_getElem hil,uy,show mv.getD i default=mv[i] by simp[List.getD,hil]]
    generalize mv.getD i default=x at e2 hsn
    refine cm ?_
    refine aP (si (hM.fF ?_ cN) hgo.gC ok (by omega) x.kind x.core) ?_
    ·intro y hy
     have:=hM.lt y hy
     exact cD
    rintro r H3 n4 ⟨rfl,hn4,⟨L3,hM3,hmo3⟩,hk3⟩
    have hno:∀y,y<n+9→y∉L.ids:=fun y hy hm=>by have:=hlt y hm;omega
    replace r1':=(hk3 (n1+7) (by omega) (hno _ (by omega))).trans (Eq.trans cD r1')
    replace r2':=(hk3 (n1+9) (by omega) (hno _ (by omega))).trans (Eq.trans cD r2')
    have hid3:=hmo3.ids
    replace hM3:fq o (jA o m (mv.take (i+1))) L3 H3 n4:=by rw[hsn];exact hM3
    clear hk3
    refine cm ?_
    refine⟨(i+1,L3),by dsimp only;omega,_,_,_,Rt.refl _ _ _,by dsimp only;rw[hmo3.m];exact cL,by dsimp only;omega,cN,hM3.fF ?_ cN, ?_,⟨_,bo⟩,⟨_,_,bo⟩⟩
    ·intro y hy
     have:=hM3.lt y hy
     exact cD
    ·intro y hy
     rcases hid3 y hy with h|h
     ·exact hlt y h
     ·have h:n3+7≤y:=h
      omega
   ·obtain rfl:i=mv.length:=by omega
    rw[List.take_length] at hM hgo hgp
    have htry:yQ o mo k mv l=if dn (jA o m mv)∈dU l then some l else if mo≤l.length then none else some (l++[⟨jA o m mv,k,mv⟩]):=by
     unfold yQ
     rw[hmm]
    rw[htry] at hall
    have hput:=fun(h:dn (jA o m mv)∉dU l)=>AZ (l:=l) (m:=jA o m mv) (a:=k) (b:=mv) h
    have hadd:=fun(h:dn (jA o m mv)∉dU l)=>hfs.add (mv:=mv) ok hw hkl (by rw[hmm];exact hmv) (by rw[hmm];exact h)
    rw[hmm] at hadd
    have hkey:=EJ hgo ok (by omega)
    generalize jA o m mv=m2 at *
    have hget:=MI EI i64 (rZ (dn m2)) (ic l) (i64 0)
    rw[qY] at hget
    have hno:∀y,y<n+9∨n3≤y→y∉L.ids:=fun y hy hm=>by
     have h1:=hlt y hm
     have h2:=hM.lt y hm
     omega
    by_cases hin:dn m2∈dU l
    ·rw[if_pos hin] at hget hall
     have g0:x8 true (Value.string (rZ (dn m2))) (lA l) (i64 0)=some (i64 1,true):=hget
     refine cm ?_
     refine aW hkey (args2:=[m2.frozen o]) ?_ (by simp[cG,iX]) trivial ?_
     ·rw[List.map_cons,List.map_nil]
      congr 1
      exact(hM.fF (fun y hy=>by have:=hM.lt y hy;exact cD) (Nat.le_refl _)).eJ
     refine cm ?_
     exact⟨(t+1,l),by dsimp only;omega,_,_,_,Rt.refl _ _ _,cL,by dsimp only;omega,hkl,hl,hfs,hmm,hall,cN,⟨_,bo⟩,⟨_,_,bo⟩⟩
    ·rw[if_neg hin] at hget hall
     have g0:x8 true (Value.string (rZ (dn m2))) (lA l) (i64 0)=some (i64 0,false):=hget
     by_cases hfull:mo≤l.length
     ·rw[if_pos hfull] at hall
      refine cm ?_
      refine aW hkey (args2:=[m2.frozen o]) ?_ (by simp[cG,iX]) trivial ?_
      ·rw[List.map_cons,List.map_nil]
       congr 1
       exact(hM.fF (fun y hy=>by have:=hM.lt y hy;exact cD) (Nat.le_refl _)).eJ
      refine cm ?_
      have hall2:none=iz p o mo:=hall
      rw[←hall2]
      exact⟨by simp[tT,cW.eJ]⟩
     ·rw[if_neg hfull] at hall
      have g1:BF true (Value.string (rZ (dn m2))) (lA l) (i64 1)=some (lA (l++[⟨m2,k,mv⟩])):=by
       have:=ML EI i64 (rZ (dn m2)) 1 (ic l)
       rw[hput hin] at this
       exact this
      refine cm ?_
      refine aW hkey (args2:=[m2.frozen o]) ?_ (by simp[cG,iX]) trivial ?_
      ·rw[List.map_cons,List.map_nil]
       congr 1
       exact(hM.fF (fun y hy=>by have:=hM.lt y hy;exact cD) (Nat.le_refl _)).eJ
      refine cm ?_
      refine⟨(t+1,l++[⟨m2,k,mv⟩]),by dsimp only;omega,_,_,_,Rt.wk (sP (L:=L) (lb:=n1+7) (l:=l) (fr:=k) (mv:=mv) (hM.fF ?_ (Nat.le_refl _)) ?_ bo (hno _ (by omega))),cL,by dsimp only;omega,by dsimp only;rw[List.length_append];omega,by dsimp only;simp only[List.length_append,List.length_cons,List.length_nil];omega,hadd hin,by dsimp only;rw[gn hkl];exact hmm,hall,cN,⟨_,(gB (hno _ (by omega))).trans bo⟩,⟨_,_,(gB (hno _ (by omega))).trans bo⟩⟩
      ·intro y hy
       have:=hlt y hy
       have:=hM.lt y hy
       exact cD
      ·rw[C4 (GK hmv)]
       exact fZ _ (by simp[cC,cG,cE])
  ·have htG:t=ms.length:=by omega
   subst htG
   rw[List.drop_of_length_le (Nat.le_refl _),pB] at hall
   refine cm ?_
   exact⟨(k+1,l),by dsimp only;omega,_,_,_,Rt.refl _ _ _,cL,by dsimp only;omega,hl,hfs,hall,cN,⟨_,bo⟩,⟨_,_,bo⟩⟩
 ·have hk2:k=l.length:=by omega
  refine cm ?_
  have hl2:iz p o mo=some l:=by
   rw[←hall]
   subst hk2
   cases h:mo - l.length with
   |zero=>rfl
   |succ q=>rw[om,if_neg (by omega)]
  rw[hl2]
  refine⟨?_⟩
  refine(yi _ _ _).trans ?_
  rw[List.map_cons,List.map_cons,List.map_nil]
  rw[nq (k:=4) bo a0,eK _ (iW o l)]
  rfl
end Go.Proofs.YtlonbgdonffcbaaGreatDoor
end
section
/- Ends compared: plain data, the small functions of the code. -/
namespace Go.Proofs.YtlonbgdonffcbaaGreatDoor
open Go Go.cW Go.Proofs
set_option linter.unusedSimpArgs false
set_option linter.unusedVariables false
structure cM where
 bh:List cF
 mem:List Int
 ended:Bool
 deriving Inhabited,DecidableEq
def cM.cells (e:cM):List AV:=[dy e.bh,jU e.mem,bl e.ended]
abbrev cM.av (e:cM):AV:= .agg e.cells
@[simp] theorem O1 (n:Nat) (e:cM):cG n e.cells:=by simp[cM.cells,cG,cC,cE]
def fV (x y:Int):Int:=if x<y then -1 else if y<x then 1 else 0
def se:List Int→Int
 |[]=>0
 |x::l=>if x=0 then se l else x
def iT (p q:cF):Int:=se [fV p.eF q.eF,fV p.word q.word]
def eV {α:Type} (f:α→α→Int):List α→List α→Int
 |[],[]=>0
 |[],_::_=>-1
 |_::_,[]=>1
 |x::a,y::b=>if f x y=0 then eV f a b else f x y
def tJ (a b:Bool):Int:=if a=b then 0 else if b then -1 else 1
def gJ (a b:cM):Int:=se [eV iT a.bh b.bh,eV fV a.mem b.mem,tJ a.ended b.ended]
theorem y7 {α:Type} (f:α→α→Int) (d:α) {a b:List α} {i:Nat} (h1:i<a.length) (h2:i<b.length):eV f (a.drop i) (b.drop i)=if f (a.getD i d) (b.getD i d)=0 then eV f (a.drop (i+1)) (b.drop (i+1)) else f (a.getD i d) (b.getD i d):=by
 rw[List.drop_eq_getElem_cons h1,List.drop_eq_getElem_cons h2,eV]
 simp[List.getD,List.getElem?_eq_getElem h1,List.getElem?_eq_getElem h2]
theorem u7 {α:Type} (f:α→α→Int) {a b:List α} {i:Nat} (h1:i<a.length) (h2:b.length≤i):eV f (a.drop i) (b.drop i)=1:=by
 rw[List.drop_eq_getElem_cons h1,List.drop_of_length_le h2,eV]
theorem u6 {α:Type} (f:α→α→Int) {a b:List α} {i:Nat} (h1:a.length≤i) (h2:i≤b.length):eV f (a.drop i) (b.drop i)=if i<b.length then -1 else 0:=by
 rw[List.drop_of_length_le h1]
 split
 ·rename_i h;rw[List.drop_eq_getElem_cons h,eV]
 ·rw[List.drop_of_length_le (by omega),eV]
theorem zK (x:Int):Pure Tryz.prog 67 [i64 x] (fun r=>r=bl false):=by
 refine aI FN rfl ?_
 refine cm ?_
 refine oQ ?_
 simp
theorem wC (x:Int):Pure Tryz.prog 68 [i64 x] (fun r=>r=bl false):=by
 refine aI FO rfl ?_
 refine cm ?_
 refine oQ ?_
 simp
theorem DA (x y:Int):Pure Tryz.prog 46 [i64 x,i64 y] (fun r=>r=i64 (fV x y)):=by
 have c0:=zK x
 have c1:=zK y
 unfold fV
 by_cases h:x<y
 ·rw[if_pos h]
  refine aI x6 rfl ?_
  refine cm ?_
  first|exact rfl|trivial
 ·rw[if_neg h]
  by_cases h2:y<x
  ·rw[if_pos h2]
   refine aI x6 rfl ?_
   refine cm ?_
   first|exact rfl|trivial
  ·rw[if_neg h2]
   refine aI x6 rfl ?_
   refine cm ?_
   first|exact rfl|trivial
theorem rk (x y:Int):Pure Tryz.prog 47 [i64 x,i64 y] (fun r=>r=i64 (fV x y)):=by
 have c0:=wC x
 have c1:=wC y
 unfold fV
 by_cases h:x<y
 ·rw[if_pos h]
  refine aI x7 rfl ?_
  refine cm ?_
  first|exact rfl|trivial
 ·rw[if_neg h]
  by_cases h2:y<x
  ·rw[if_pos h2]
   refine aI x7 rfl ?_
   refine cm ?_
   first|exact rfl|trivial
  ·rw[if_neg h2]
   refine aI x7 rfl ?_
   refine cm ?_
   first|exact rfl|trivial
theorem GW {l:List Int} {i:Nat} (h:i<l.length):se (l.drop i)=if l.getD i 0=0 then se (l.drop (i+1)) else l.getD i 0:=by
 rw[List.drop_eq_getElem_cons h,se]
 simp[List.getD,List.getElem?_eq_getElem h]
theorem wK (l:List Int) (hl:l.length≤1000):Pure Tryz.prog 45 [jU l] (fun r=>r=i64 (se l)):=by
 refine aI FB rfl ?_
 refine cm ?_
 rw[List.length_map]
 refine aU (fun i:Nat=>[(3,i64 0),(6,jU l),(7,i64 l.length),(8,i64 i)]) (fun i H n=>i≤l.length∧se l=se (l.drop i)) (fun i=>l.length - i) 0 cL ⟨Nat.zero_le _,rfl⟩ ?_
 rintro i H n ⟨hi,ho⟩
 rw[ho]
 by_cases hil:i<l.length
 ·have e0:=fun d=>ints_at (l:=l) hil d
  have a0:(l.map i64).length=l.length:=by simp
  have hd:=GW hil
  by_cases hz:l.getD i 0=0
  ·have r0:=hz
   rw[if_pos hz] at hd
   refine cm ?_
   exact⟨i+1,by omega,cL,by omega,hd⟩
  ·have r0:=decide_eq_true hz
   rw[if_neg hz] at hd
   refine cm ?_
   rw[hd]
 ·rw[List.drop_of_length_le (by omega)]
  refine cm ?_
  first|exact rfl|trivial
end Go.Proofs.YtlonbgdonffcbaaGreatDoor
end
section
/- A result that is part of a row gets a row of its own; what stands over at an end. -/
namespace Go.cW
open Go.RowKit
theorem bx.rt {P:Program} {f:FuncId} {args:List AV} {H:Hp} {nx:Nat} {R R2:AV→Hp→Nat→Prop} (h:bx P f args H nx R) (hR:∀r H' n,R r H' n→∃fr2 H2 n2,Rt [(0,r)] H' n fr2 H2 n2∧R2 (cI fr2 0) H2 n2):bx P f args H nx R2:=by
 refine⟨h.1,fun w0 c vs a1 a2 a3 a4=>(h.2 w0 c vs a1 a2 a3 a4).mono ?_⟩
 rintro e w' ⟨v,r,H',nx',ρ,U,rfl,hRr,hU,hS,hle,hv⟩
 obtain⟨fr2,H2,n2,hw,hR2⟩:=hR r H' nx' hRr
 have hh:Holds w0 c.M0 ⟨ρ,bf H',U,w',c.M0⟩ nx' 1 [(0,r)] H' nx' ⟨#[v],[]⟩ w':=by
  refine⟨rfl,rfl,ρ,U,hU,hS,fun t=> ?_,⟨hU,Cx.le.refl _⟩⟩
  by_cases ht:t=0
  ·subst ht;exact hv
  ·have:cI [(0,r)] t= .any:=by simp[cI,ht]
   rw[this];exact c8.any _ _ _ _ (by rw[VR];trivial)
 obtain⟨_,_,ρ2,U2,k1,k2,k3,k4⟩:=hw _ _ _ _ _ _ _ hh
 exact⟨v,_,H2,n2,ρ2,U2,rfl,hR2,k1,k2,hle.trans k4.2,k3 0⟩
end Go.cW
namespace Go.Proofs.YtlonbgdonffcbaaGreatDoor
open Go Go.cW Go.Proofs
set_option linter.unusedSimpArgs false
set_option linter.unusedVariables false
set_option maxRecDepth 8000
def kZ (o:Obj) (s:bj):cM:=⟨s.bh,s.mem.take o.shared.toNat,true⟩
theorem JN {o:Obj} {s:bj} (hlk:eH s) (hs:0≤o.shared∧o.shared≤s.mem.length):Pure Tryz.prog 49 [o.av,s.frozen o] (fun r=>r=(kZ o s).av):=by
 have c1:=s7 o s hlk.mem
 have c2:=oF o s hlk.bh
 simp only[bj.frozen] at c1 c2 ⊢
 refine cz ?_ (by simp[cC])
 refine aO FD rfl ?_
 have hm:(s.mem.map i64).length=s.mem.length:=List.length_map _
 refine cm ?_
 refine⟨?_⟩
 have h1:cG 0 ((s.mem.map i64).take o.shared.toNat):=by rw[←List.map_take];exact(cE _ _).2 fun _ _=>by simp[cC]
 show cW.eJ _ 6 (.agg [.im 2 .any (s.bh.map cF.av), .im 1 .any ((s.mem.map i64).take o.shared.toNat), .sc (.bool true)])=_
 rw[mr _ (by simp[cC,cG,cE,h1]),←List.map_take]
 rfl
end Go.Proofs.YtlonbgdonffcbaaGreatDoor
end
section
/- Ends compared: the code's Compare and Same. -/
namespace Go.Proofs.YtlonbgdonffcbaaGreatDoor
open Go Go.cW Go.Proofs
set_option linter.unusedSimpArgs false
set_option linter.unusedVariables false
theorem zu (p q:cF):Pure Tryz.prog 44 [p.av,q.av] (fun r=>r=i64 (iT p q)):=by
 have c0:=DA p.eF q.eF
 have c1:=rk p.word q.word
 have c2:=wK [fV p.eF q.eF,fV p.word q.word] (by simp)
 refine aI FA rfl ?_
 refine cm ?_
 refine aW (args2:=[jU [fV p.eF q.eF,fV p.word q.word]]) (r:=i64 (iT p q)) c2 rfl (by simp[cG,cC]) trivial ?_
 refine cm ?_
 first|exact rfl|trivial
theorem lZ {l:List cF} {i:Nat} (h:i<l.length) (d:AV):(l.map cF.av).getD ((i:Int)).toNat d=(l.getD i default).av:=by
 rw[Int.toNat_natCast];exact dh cF.av l i d h
theorem wz (a b:List cF) (ha:a.length<9223372036854775807):Pure Tryz.prog 43 [dy a,dy b, .fn (.func 44) [] []] (fun r=>r=i64 (eV iT a b)):=by
 refine aI E9 rfl ?_
 refine cm ?_
 rw[List.length_map]
 refine aU (fun i:Nat=>[(0,dy a),(1,dy b),(2, .fn (.func 44) [] []),(11,dy a),(12,i64 a.length),(13,i64 i)]) (fun i H n=>i≤a.length∧i≤b.length∧eV iT a b=eV iT (a.drop i) (b.drop i)) (fun i=>a.length - i) 0 cL ⟨Nat.zero_le _,Nat.zero_le _,rfl⟩ ?_
 rintro i H n ⟨hi,hib,ho⟩
 rw[ho]
 have a0:(a.map cF.av).length=a.length:=by simp
 have a1:(b.map cF.av).length=b.length:=by simp
 by_cases hil:i<a.length
 ·have e0:=fun d=>lZ hil d
  by_cases hbl:i<b.length
  ·have e1:=fun d=>lZ hbl d
   have hd:=y7 iT default hil hbl
   have c0:=zu (a.getD i default) (b.getD i default)
   generalize a.getD i default=p at *
   generalize b.getD i default=q at *
   by_cases hz:iT p q=0
   ·have r0:=hz
    rw[if_pos hz] at hd
    refine cm ?_
    exact⟨i+1,by omega,cL,by omega,by omega,hd⟩
   ·have r0:=decide_eq_true hz
    rw[if_neg hz] at hd
    refine cm ?_
    rw[hd]
  ·rw[u7 iT hil (by omega)]
   refine cm ?_
   first|exact rfl|trivial
 ·obtain rfl:i=a.length:=by omega
  rw[u6 iT (Nat.le_refl _) hib]
  by_cases h:a.length<b.length
  ·rw[if_pos h]
   refine cm ?_
   first|exact rfl|trivial
  ·rw[if_neg h]
   refine cm ?_
   first|exact rfl|trivial
theorem wx (a b:List Int) (ha:a.length<9223372036854775807):Pure Tryz.prog 48 [jU a,jU b] (fun r=>r=i64 (eV fV a b)):=by
 refine aI FC rfl ?_
 refine cm ?_
 rw[List.length_map]
 refine aU (fun i:Nat=>[(0,jU a),(1,jU b),(9,jU a),(10,i64 a.length),(11,i64 i)]) (fun i H n=>i≤a.length∧i≤b.length∧eV fV a b=eV fV (a.drop i) (b.drop i)) (fun i=>a.length - i) 0 cL ⟨Nat.zero_le _,Nat.zero_le _,rfl⟩ ?_
 rintro i H n ⟨hi,hib,ho⟩
 rw[ho]
 have a0:(a.map i64).length=a.length:=by simp
 have a1:(b.map i64).length=b.length:=by simp
 by_cases hil:i<a.length
 ·have e0:=fun d=>ints_at hil d
  by_cases hbl:i<b.length
  ·have e1:=fun d=>ints_at hbl d
   have hd:=y7 fV 0 hil hbl
   have c0:=rk (a.getD i 0) (b.getD i 0)
   generalize a.getD i 0=p at *
   generalize b.getD i 0=q at *
   by_cases hz:fV p q=0
   ·have r0:=hz
    rw[if_pos hz] at hd
    refine cm ?_
    exact⟨i+1,by omega,cL,by omega,by omega,hd⟩
   ·have r0:=decide_eq_true hz
    rw[if_neg hz] at hd
    refine cm ?_
    rw[hd]
  ·rw[u7 fV hil (by omega)]
   refine cm ?_
   first|exact rfl|trivial
 ·obtain rfl:i=a.length:=by omega
  rw[u6 fV (Nat.le_refl _) hib]
  by_cases h:a.length<b.length
  ·rw[if_pos h]
   refine cm ?_
   first|exact rfl|trivial
  ·rw[if_neg h]
   refine cm ?_
   first|exact rfl|trivial
theorem rj (a b:cM) (h1:a.bh.length<9223372036854775807) (h2:a.mem.length<9223372036854775807):Pure Tryz.prog 18 [a.av,b.av] (fun r=>r=i64 (gJ a b)):=by
 have c0:=wz a.bh b.bh h1
 have c1:=wx a.mem b.mem h2
 have c2:=wK [eV iT a.bh b.bh,eV fV a.mem b.mem,tJ a.ended b.ended] (by simp)
 obtain⟨ap,am,ae⟩:=a
 obtain⟨bp,bm,be⟩:=b
 cases ae<;>cases be<;>(refine aI ER rfl ?_;refine cm ?_;refine aW (args2:=[jU [eV iT ap bp,eV fV am bm,_]]) (r:=i64 (se [eV iT ap bp,eV fV am bm,_])) c2 rfl (by simp[cG,cC]) trivial ?_;refine cm ?_;first|exact rfl|trivial)
theorem qp (a b:cM) (h1:a.bh.length<9223372036854775807) (h2:a.mem.length<9223372036854775807):Pure Tryz.prog 42 [a.av,b.av] (fun r=>r=bl (decide (gJ a b=0))):=by
 have c0:=rj a b h1 h2
 refine aI E8 rfl ?_
 refine cm ?_
 refine oQ ?_
 simp
end Go.Proofs.YtlonbgdonffcbaaGreatDoor
end
section
/- Ends compared: the document's Compare; the plain laws. -/
namespace Go.Proofs.YtlonbgdonffcbaaGreatDoor
open Go Go.cW Go.Proofs
set_option linter.unusedSimpArgs false
set_option linter.unusedVariables false
theorem II (x:Int):fV x x=0:=by unfold fV;simp
end Go.Proofs.YtlonbgdonffcbaaGreatDoor
end
section
/- Ends compared: the order's plain laws. -/
namespace Go.Proofs.YtlonbgdonffcbaaGreatDoor
open Go Go.cW Go.Proofs
set_option linter.unusedSimpArgs false
set_option linter.unusedVariables false
theorem pz (x y:Int):fV y x=-fV x y:=by
 unfold fV
 repeat' (first|omega|split)
theorem tg:∀l:List Int,se (l.map (-·))=-se l
 |[]=>rfl
 |x::l=>by
  simp only[List.map_cons,se]
  by_cases h:x=0
  ·rw[if_pos (by omega),if_pos h];exact tg l
  ·rw[if_neg (by omega),if_neg h]
theorem DB (p q:cF):iT q p=-iT p q:=by
 unfold iT
 rw[←tg,pz p.eF,pz p.word];rfl
theorem qA {α:Type} {f:α→α→Int} (hf:∀x y,f y x=-f x y):∀a b:List α,eV f b a=-eV f a b
 |[],[]=>rfl
 |[],_::_=>rfl
 |_::_,[]=>rfl
 |x::a,y::b=>by
  rw[eV,eV,hf x y]
  by_cases h:f x y=0
  ·rw[if_pos (by omega),if_pos h];exact qA hf a b
  ·rw[if_neg (by omega),if_neg h]
theorem C8 (a b:Bool):tJ b a=-tJ a b:=by cases a<;>cases b<;>rfl
theorem C9 (a b:cM):gJ b a=-gJ a b:=by
 unfold gJ
 rw[←tg,qA DB a.bh,qA pz a.mem,C8 a.ended];rfl
theorem wJ {l:List Int}:se l=0↔∀x∈l,x=0:=by
 induction l with
 |nil=>simp[se]
 |cons x l ih=>
  rw[se]
  by_cases h:x=0
  ·rw[if_pos h,ih];simp[h]
  ·rw[if_neg h];simp[h]
theorem j7 {x y:Int}:fV x y=0↔x=y:=by
 constructor
 ·unfold fV;intro h;revert h;repeat' (first|omega|split)
 ·rintro rfl;exact II _
theorem nf {p q:cF}:iT p q=0↔p=q:=by
 unfold iT
 rw[wJ]
 simp only[List.mem_cons,List.not_mem_nil,or_false,forall_eq_or_imp,forall_eq,j7]
 constructor
 ·rintro⟨h1,h2⟩;cases p;cases q;simp_all
 ·rintro rfl;exact⟨rfl,rfl⟩
theorem j8 {α:Type} {f:α→α→Int} (hf:∀x y,f x y=0↔x=y):∀a b:List α,eV f a b=0↔a=b
 |[],[]=>by simp[eV]
 |[],_::_=>by simp[eV]
 |_::_,[]=>by simp[eV]
 |x::a,y::b=>by
  rw[eV]
  by_cases h:f x y=0
  ·rw[if_pos h,j8 hf a b]
   have:=(hf x y).1 h
   simp[this]
  ·rw[if_neg h]
   have:x≠y:=fun e=>h ((hf x y).2 e)
   simp[h,this]
theorem nd {a b:cM}:gJ a b=0↔a=b:=by
 unfold gJ
 rw[wJ]
 simp only[List.mem_cons,List.not_mem_nil,or_false,forall_eq_or_imp,forall_eq,j8 (fun x y=>nf),j8 (fun x y=>j7)]
 constructor
 ·rintro⟨h1,h2,h3⟩
  obtain⟨ap,am,ae⟩:=a
  obtain⟨bp,bm,be⟩:=b
  cases ae<;>cases be<;>simp_all[tJ]
 ·rintro rfl
  exact⟨rfl,rfl,by cases a.ended<;>rfl⟩
end Go.Proofs.YtlonbgdonffcbaaGreatDoor
end
section
/- Neighbours that are one go: the walk of the library's CompactFunc. -/
namespace Go.Proofs.YtlonbgdonffcbaaGreatDoor
open Go Go.cW Go.Proofs
set_option linter.unusedSimpArgs false
set_option linter.unusedVariables false
set_option maxRecDepth 8000
def kT (l:List cM):Nat→List cM
 |0=>[]
 |1=>[l.getD 0 default]
 |k+2=>if l.getD (k+1) default=l.getD k default then kT l (k+1) else kT l (k+1)++[l.getD (k+1) default]
theorem y9 (l:List cM):∀k,(kT l k).length≤k
 |0=>Nat.le_refl _
 |1=>Nat.le_refl _
 |k+2=>by
  rw[kT]
  have:=y9 l (k+1)
  split
  ·omega
  ·rw[List.length_append,List.length_cons,List.length_nil];omega
theorem ua (l:List cM) {k:Nat} (hk:1≤k):kT l (k+1)=if l.getD k default=l.getD (k - 1) default then kT l k else kT l k++[l.getD k default]:=by
 obtain⟨j,rfl⟩:∃j,k=j+1:=⟨k - 1,by omega⟩
 rw[kT]
 rfl
theorem jy {l:List cM} {i:Nat} (h:i<l.length) (d:AV):(l.map cM.av).getD i d=(l.getD i default).av:=dh cM.av l i d h
abbrev eO (l:List cM):AV:= .im 3 .any (l.map cM.av)
theorem iV (l:List cM):cG 0 (l.map cM.av):=(cE _ _).2 fun _ _=>by simp[cC]
theorem lr {α:Type} {l:List α} {i:Nat} {x:α} (h:i<l.length):(l.set i x).take (i+1)=l.take i++[x]:=by
 rw[List.take_succ_eq_append_getElem (by simpa using h),List.take_set_of_le (Nat.le_refl _)]
 simp
theorem L7 {H:Hp} {k b len lo n:Nat} {e:TypeId} {sz:Nat} {d:AV} {es:List AV} (h:bf H b=some (.row e sz d es)) (hl:es.length=len):cW.eJ H (k+1) (.sv b len lo n)= .im sz .any (((es.drop lo).take n).map (cW.eJ H k)):=by
 simp only[cW.eJ,h];rw[if_pos hl]
set_option maxHeartbeats 4000000 in
theorem u9 (o:Nat) (l:List cM) (hl:l.length≤65536) (hok:∀e∈l,e.bh.length<9223372036854775807∧e.mem.length<9223372036854775807) (H:Hp) (nx:Nat) (ho:o<nx) (hr:∃d,bf H o=some (.row 48 3 d (l.map cM.av))):
 bx Tryz.prog 54 [.sl o l.length, .fn (.func 42) [] []] H nx (fun r H' n=>nx≤n∧(∀y,y<nx→y≠o→bf H' y=bf H y)∧(r= .sl o l.length∧(kT l l.length).length=l.length∧(∃d,bf H' o=some (.row 48 3 d ((kT l l.length).map cM.av)))∨∃es:List AV,r= .sv o l.length 0 (kT l l.length).length∧es.length=l.length∧(kT l l.length).length≤l.length∧es.take (kT l l.length).length=(kT l l.length).map cM.av∧∃d,bf H' o=some (.row 48 3 d es))):=by
 obtain⟨d0,r0'⟩:=hr
 have a0:(l.map cM.av).length=l.length:=by simp
 have same:∀i j,i<l.length→j<l.length→Pure Tryz.prog 42 [(l.getD i default).av,(l.getD j default).av] (fun r=>r=bl (decide (l.getD i default=l.getD j default))):=fun i j hi hj=>by
  obtain⟨p1,p2⟩:=hok _ (gX default hi)
  have:=qp (l.getD i default) (l.getD j default) p1 p2
  simpa only[nd] using this
 refine aO FF rfl ?_
 by_cases h2:l.length<2
 ·refine cm ?_
  have:kT l l.length=l:=by
   match l,h2 with
   |[],_=>rfl
   |[x],_=>rfl
  rw[this]
  exact⟨⟨cN,fun y y1 y2=>cD, .inl ⟨rfl,rfl,d0,bo⟩⟩⟩
 ·refine cm ?_
  refine aU (fun i:Nat=>[(0, .sl o l.length),(1, .fn (.func 42) [] []),(5,i64 i)]) (fun i H2 n=>1≤i∧i≤l.length∧nx≤n∧bf H2 o=some (.row 48 3 d0 (l.map cM.av))∧kT l i=l.take i∧∀y,y<nx→y≠o→bf H2 y=bf H y) (fun i=>l.length - i) 1 cL ⟨Nat.le_refl _,by omega,cN,bo,by rw[kT];cases l with|nil=>simp at h2|cons x t=>rfl,fun y y1 y2=>cD⟩ ?_
  clear r0'
  rintro i H2 n ⟨hi1,hi,hn,r0',hdd,hkp⟩
  by_cases hil:i<l.length
  ·have e0:∀d,(l.map cM.av).getD ((i:Int)).toNat d=(l.getD i default).av:=fun d=>by rw[Int.toNat_natCast];exact jy hil d
   have e1:∀d,(l.map cM.av).getD ((i:Int) - 1).toNat d=(l.getD (i - 1) default).av:=fun d=>by rw[show((i:Int) - 1).toNat=i - 1 by omega];exact jy (by omega) d
   have c0:=same i (i - 1) hil (by omega)
   have hsu:=ua l hi1
   by_cases he:l.getD i default=l.getD (i - 1) default
   ·rw[decide_eq_true he] at c0
    rw[if_pos he] at hsu
    refine cm ?_
    refine aU (fun σ:Nat×Nat×List cM=>[(0, .sl o l.length),(1, .fn (.func 42) [] []),(5,i64 σ.1),(6, .sv o l.length i (l.length - i)),(7,i64 σ.2.1)])
     (fun σ H2 n=>1≤σ.2.1∧i+σ.2.1≤l.length∧i≤σ.1∧σ.1+1≤i+σ.2.1∧σ.2.2.length=l.length∧(∀q,σ.1≤q→σ.2.2.getD q default=l.getD q default)∧σ.2.2.take σ.1=kT l (i+σ.2.1)∧nx≤n∧(∃d,bf H2 o=some (.row 48 3 d (σ.2.2.map cM.av)))∧∀y,y<nx→y≠o→bf H2 y=bf H y) (fun σ=>l.length - σ.2.1) (i,1,l) cL
     ⟨Nat.le_refl _,by show i+1≤l.length;omega,Nat.le_refl _,Nat.le_refl _,rfl,fun _ _=>rfl,by dsimp only;rw[hsu,hdd],cN,⟨_,bo⟩,fun y y1 y2=>Eq.trans cD (hkp y y1 y2)⟩ ?_
    clear c0 e0 e1 hsu hdd r0' hn hkp
    rintro⟨k,j,es⟩ H3 n ⟨hj1,hj,hik,hkj,hel,hsame,hdd,hn,⟨d1,r1'⟩,hkp⟩
    dsimp only at hj1 hj hik hkj hel hsame hdd r1' ⊢
    have a1:(es.map cM.av).length=l.length:=by simp[hel]
    by_cases hjl:j<l.length - i
    ·have e0:∀d,(es.map cM.av).getD (i+((j:Int)).toNat) d=(l.getD (i+j) default).av:=fun d=>by rw[Int.toNat_natCast,jy (by omega) d,hsame _ (by omega)]
     have e1:∀d,(es.map cM.av).getD (i+((j:Int) - 1).toNat) d=(l.getD (i+j - 1) default).av:=fun d=>by rw[show i+((j:Int) - 1).toNat=i+j - 1 by omega,jy (by omega) d,hsame _ (by omega)]
     have e2:∀d,(es.map cM.av).getD ((k:Int)).toNat d=(es.getD k default).av:=fun d=>by rw[Int.toNat_natCast];exact jy (by omega) d
     have c0:=same (i+j) (i+j - 1) (by omega) (by omega)
     have hsu:=ua l (k:=i+j) (by omega)
     by_cases he2:l.getD (i+j) default=l.getD (i+j - 1) default
     ·rw[decide_eq_true he2] at c0
      rw[if_pos he2] at hsu
      refine cm ?_
      exact⟨(k,j+1,es),by dsimp only;omega,cL,by dsimp only;omega,by dsimp only;omega,hik,by dsimp only;omega,hel,hsame,by dsimp only;rw[←Nat.add_assoc,hsu];exact hdd,cN,⟨d1,bo⟩,fun y y1 y2=>Eq.trans cD (hkp y y1 y2)⟩
     ·rw[decide_eq_false he2] at c0
      rw[if_neg he2] at hsu
      refine cm ?_
      refine⟨(k+1,j+1,es.set k (l.getD (i+j) default)),by dsimp only;omega,cL,by dsimp only;omega,by dsimp only;omega,by dsimp only;omega,by dsimp only;omega,by simp[hel],fun q hq=> ?_, ?_,cN,⟨d1,by dsimp only;rw[List.map_set];exact bo⟩,fun y y1 y2=>Eq.trans cD (hkp y y1 y2)⟩
      ·have hq:k+1≤q:=hq
       dsimp only
       rw[getD_set_ne (by omega)];exact hsame q (by omega)
      ·dsimp only
       rw[←Nat.add_assoc,hsu,lr (by omega),hdd]
    ·obtain rfl:j=l.length - i:=by omega
     rw[show i+(l.length - i)=l.length by omega] at hdd
     refine cm ?_
     rw[Int.toNat_natCast]
     have hkl:k≤l.length:=by omega
     have hkd:(kT l l.length).length=k:=by rw[←hdd,List.length_take,hel];omega
     generalize hZ:List.replicate (l.length - k) (gI true [Value.slice none 0 0,Value.slice none 0 0,Value.bool false])=Z
     have hZl:Z.length=l.length - k:=by rw[←hZ];simp
     rw[hkd]
     refine⟨⟨cN,fun y y1 y2=>Eq.trans cD (hkp y y1 y2), .inr ⟨(es.map cM.av).take k++Z++(es.map cM.av).drop (k+(l.length - k)),rfl, ?_,hkl, ?_,d1,bo⟩⟩⟩
     ·simp[hZl,hel];omega
     ·rw[List.append_assoc,List.take_append_of_le_length (by simp;omega),List.take_take,Nat.min_self,←List.map_take,hdd]
   ·rw[decide_eq_false he] at c0
    rw[if_neg he] at hsu
    refine cm ?_
    refine⟨i+1,by omega,cL,by omega,by omega,cN,bo, ?_,fun y y1 y2=>Eq.trans cD (hkp y y1 y2)⟩
    rw[hsu,hdd,List.take_succ_eq_append_getElem hil,show l.getD i default=l[i] by simp[List.getD,hil]]
  ·obtain rfl:i=l.length:=by omega
   rw[List.take_length] at hdd
   refine cm ?_
   rw[hdd]
   exact⟨⟨cN,fun y y1 y2=>Eq.trans cD (hkp y y1 y2), .inl ⟨rfl,rfl,d0,bo⟩⟩⟩
theorem tM (o:Nat) (l:List cM) (hl:l.length≤65536) (hok:∀e∈l,e.bh.length<9223372036854775807∧e.mem.length<9223372036854775807) (H:Hp) (nx:Nat) (ho:o<nx) (hr:∃d,bf H o=some (.row 48 3 d (l.map cM.av))):
 bx Tryz.prog 54 [.sl o l.length, .fn (.func 42) [] []] H nx (fun r H' n=>∃b,r= .sl b (kT l l.length).length∧(b=o∨nx≤b)∧b<n∧nx≤n∧(∃d,bf H' b=some (.row 48 3 d ((kT l l.length).map cM.av)))∧∀y,y<nx→y≠o→bf H' y=bf H y):=by
 refine(u9 o l hl hok H nx ho hr).rt ?_
 rintro r H' n ⟨hn,hk,⟨rfl,h1,h2⟩|⟨es,rfl,h1,h2,h3,d,h4⟩⟩
 ·exact⟨_,H',n,Rt.refl _ _ _,o,by rw[h1];rfl, .inl rfl,by omega,hn,h2,hk⟩
 ·refine⟨_,_,n+1,Rt.part 0 rfl h4 h1 (by omega),n,rfl, .inr hn,by omega,by omega,⟨.any, ?_⟩,fun y y1 y2=> ?_⟩
  ·rw[List.drop_zero,h3];exact cJ _ _ _
  ·exact(bg (by omega)).trans ((bg y2).trans (hk y y1 y2))
end Go.Proofs.YtlonbgdonffcbaaGreatDoor
end
section
/- The order of ends: what sorts them. -/
namespace Go.Proofs.YtlonbgdonffcbaaGreatDoor
open Go Go.cW Go.Proofs
set_option linter.unusedSimpArgs false
set_option linter.unusedVariables false
theorem tK {x y z:Int} (h1:fV x y<0) (h2:fV y z<0):fV x z<0:=by
 unfold fV at *
 repeat' split at *
 all_goals omega
theorem PQ (a b c:Int):se [a,b,c]<0↔a<0∨a=0∧(b<0∨b=0∧c<0):=by
 simp only[se]
 repeat' split
 all_goals omega
theorem PO (a b:Int):se [a,b]<0↔a<0∨a=0∧b<0:=by
 simp only[se]
 repeat' split
 all_goals omega
theorem IJ {p q r:cF} (h1:iT p q<0) (h2:iT q r<0):iT p r<0:=by
 unfold iT at *
 rw[PO] at *
 simp only[j7] at *
 rcases h1 with h1|⟨e1,h1⟩<;>rcases h2 with h2|⟨e2,h2⟩
 ·exact .inl (tK h1 h2)
 ·rw[←e2];exact .inl h1
 ·rw[e1];exact .inl h2
 ·exact .inr ⟨e1.trans e2,tK h1 h2⟩
theorem tL {α:Type} {f:α→α→Int} (hz:∀x y,f x y=0↔x=y) (hf:∀x y z,f x y<0→f y z<0→f x z<0):∀a b c:List α,eV f a b<0→eV f b c<0→eV f a c<0
 |[],[],_,h1,_=>by simp[eV] at h1
 |[],_::_,[],_,h2=>by simp[eV] at h2
 |[],_::_,_::_,_,_=>by simp[eV]
 |_::_,[],_,h1,_=>by simp[eV] at h1
 |_::_,_::_,[],_,h2=>by simp[eV] at h2
 |x::a,y::b,z::c,h1,h2=>by
  rw[eV] at h1 h2 ⊢
  by_cases e1:f x y=0
  ·have:=(hz _ _).1 e1
   subst this
   rw[if_pos e1] at h1
   by_cases e2:f x z=0
   ·rw[if_pos e2] at h2 ⊢
    exact tL hz hf a b c h1 h2
   ·rw[if_neg e2] at h2 ⊢
    exact h2
  ·rw[if_neg e1] at h1
   by_cases e2:f y z=0
   ·have:=(hz _ _).1 e2
    subst this
    rw[if_neg e1]
    exact h1
   ·rw[if_neg e2] at h2
    have h3:=hf _ _ _ h1 h2
    rw[if_neg (by omega)]
    exact h3
theorem IH {a b c:cM} (h1:gJ a b<0) (h2:gJ b c<0):gJ a c<0:=by
 unfold gJ at *
 rw[PQ] at *
 simp only[j8 (fun x y=>nf),j8 (fun x y=>j7)] at *
 have tp:=tL (f:=iT) (fun x y=>nf) (fun x y z=>IJ) a.bh b.bh c.bh
 have ti:=tL (f:=fV) (fun x y=>j7) (fun x y z=>tK) a.mem b.mem c.mem
 have tb:tJ a.ended b.ended<0→tJ b.ended c.ended<0→tJ a.ended c.ended<0:=by
  cases a.ended<;>cases b.ended<;>cases c.ended<;>simp[tJ]
 rcases h1 with h1|⟨e1,h1⟩<;>rcases h2 with h2|⟨e2,h2⟩
 ·exact .inl (tp h1 h2)
 ·rw[←e2];exact .inl h1
 ·rw[e1];exact .inl h2
 ·refine .inr ⟨e1.trans e2, ?_⟩
  rcases h1 with h1|⟨e1',h1⟩<;>rcases h2 with h2|⟨e2',h2⟩
  ·exact .inl (ti h1 h2)
  ·rw[←e2'];exact .inl h1
  ·rw[e1'];exact .inl h2
  ·exact .inr ⟨e1'.trans e2',tb h1 h2⟩
structure jY {α:Type} (f:α→α→Int):Prop where
 neg:∀x y,f y x=-f x y
 zero:∀x y,f x y=0↔x=y
 tr:∀x y z,f x y<0→f y z<0→f x z<0
theorem jv:jY gJ:=⟨C9,fun _ _=>nd,fun _ _ _=>IH⟩
def s4 {α:Type} (f:α→α→Int) (x y:α):Bool:=decide (f x y≤0)
theorem jY.OF {α:Type} {f:α→α→Int} (h:jY f) {x y z:α} (h1:s4 f x y=true) (h2:s4 f y z=true):s4 f x z=true:=by
 simp only[s4,decide_eq_true_eq] at *
 by_cases e1:f x y=0
 ·rw[(h.zero _ _).1 e1];exact h2
 ·by_cases e2:f y z=0
  ·rw[←(h.zero _ _).1 e2];exact h1
  ·have:=h.tr x y z (by omega) (by omega);omega
theorem jY.le_total {α:Type} {f:α→α→Int} (h:jY f) (x y:α):(s4 f x y||s4 f y x)=true:=by
 have:=h.neg x y
 simp only[s4,Bool.or_eq_true,decide_eq_true_eq]
 omega
theorem jY.yq {α:Type} {f:α→α→Int} (h:jY f) {x y:α} (h1:s4 f x y=true) (h2:s4 f y x=true):x=y:=by
 have:=h.neg x y
 simp only[s4,decide_eq_true_eq] at *
 exact(h.zero _ _).1 (by omega)
def fU {α:Type} (f:α→α→Int) (l:List α):List α:=l.mergeSort (s4 f)
theorem jj {α:Type} (f:α→α→Int) (l:List α):(fU f l).length=l.length:=by simp[fU]
theorem kO {α:Type} (f:α→α→Int) (l:List α):(fU f l).Perm l:=List.mergeSort_perm _ _
theorem jY.sorted {α:Type} {f:α→α→Int} (h:jY f) (l:List α):(fU f l).Pairwise fun x y=>s4 f x y=true:=
 List.pairwise_mergeSort (le:=s4 f) (fun a b c h1 h2=>h.OF h1 h2) (fun a b=>h.le_total a b) l
theorem jY.JZ {α:Type} {f:α→α→Int} (h:jY f) {l l':List α} (hp:l'.Perm l) (hs:l'.Pairwise fun x y=>s4 f x y=true):l'=fU f l:=
 List.Perm.eq_of_pairwise (fun a b _ _ h1 h2=>h.yq h1 h2) hs (h.sorted l) (hp.trans (kO f l).symm)
end Go.Proofs.YtlonbgdonffcbaaGreatDoor
end
