import Derived.Test.YtlonbgdonffcbaaGreatDoorM36
import Derived.Test.YtlonbgdonffcbaaGreatDoorM32
section
/- All situations: the walk. -/
namespace Go.Proofs.YtlonbgdonffcbaaGreatDoor
open Go Go.cW Go.Proofs
set_option linter.unusedSimpArgs false
set_option linter.unusedVariables false
set_option maxRecDepth 8000
abbrev jS:AV:= .sc (.slice none 0 0)
def tK (o:Obj):Option (List bu)→AV
 |none=> .dD [jS,i64 3]
 |some l=> .dD [gk o l,i64 0]
def lG (p:Bool) (o:Obj) (g:Nat):Prop:=∀s,ot o s→s.bg.length≤1048576→Pure Tryz.prog g [s.frozen o] (fun r=>r=mu (dU p o s))
theorem sK {o:Obj} (ok:cw o):lG false o 24:=fun s h hp=>zt h.jQ (h.look ok hp).bf
theorem xh {o:Obj} (ok:cw o):lG true o 52:=fun s h hp=>xg h.jQ ok (h.look ok hp) (by omega)
theorem uh {o:Obj}:∀(l:List cM) (s:bk) (x:cM),kV o s (l++[x])=(cn o (kV o s l) x.kind x.core).1
 |[],s,x=>rfl
 |y::l,s,x=>uh l _ x
theorem qF {o:Obj}:∀(l:List cM) (s:bk),(kV o s l).bg.length≤s.bg.length+l.length
 |[],s=>Nat.le_refl _
 |y::l,s=>by
  have h1:=qF (o:=o) l (cn o s y.kind y.core).1
  have h2:=jI o s y.kind y.core
  show(kV o (cn o s y.kind y.core).1 l).bg.length≤_
  rw[List.length_cons];omega
theorem GD {p:Bool} {o:Obj} {s:bk} {mv:List cM} (h:mv∈dU p o s):mv≠[]:=by
 obtain⟨x,_,rfl|⟨_,_,_,rfl⟩⟩:=nu h<;>simp
theorem y9 (H:Hp) (k:Nat) (cs:List AV):cW.eH H (k+1) (.dD cs)= .dD (cs.map (cW.eH H k)):=by simp only[cW.eH]
theorem A3 {p:Bool} {o:Obj} {s:bk}:(dU p o s).length≤2 * s.bf.length:=by
 have:=jg o s s.bf.length
 unfold dU
 split
 ·rw[List.length_map]
  exact Nat.le_trans (List.length_filter_le _ _) this
 ·rw[List.length_map];exact this
theorem HR {o:Obj} (ho:o.Wf) (h:eU o=false) (most:Int) (g:Nat):Pure Tryz.prog 30 [o.av,i64 most, .fn (.func g) [] []] (fun r=>r= .dD [jS,i64 160]):=by
 obtain⟨k,n,hk⟩:=rY h
 have c0:=iK o ho
 rw[hk] at c0
 refine cr ?_ (by simp[cG,cC])
 refine aO xU rfl ?_
 refine pS ?_
 exact⟨by simp[eK,cG,cC,cW.eH]⟩
theorem z6 {o:Obj} (ho:o.Wf) (h:eU o=true) (most:Int) (hm:¬(1≤most∧most≤65536)) (g:Nat):Pure Tryz.prog 30 [o.av,i64 most, .fn (.func g) [] []] (fun r=>r= .dD [jS,i64 2]):=by
 have c0:=iK o ho
 rw[pf h] at c0
 refine cr ?_ (by simp[cG,cC])
 refine aO xU rfl ?_
 by_cases h1:most<1
 ·refine pS ?_
  exact⟨by simp[eK,cG,cC,cW.eH]⟩
 ·have h2:65536<most:=by omega
  refine pS ?_
  exact⟨by simp[eK,cG,cC,cW.eH]⟩
set_option maxHeartbeats 4000000 in
theorem CJ {p:Bool} {o:Obj} (ho:o.Wf) (h:eU o=true) {g:Nat} (hg:lG p o g) (most:Int) (hm:1≤most∧most≤65536):Pure Tryz.prog 30 [o.av,i64 most, .fn (.func g) [] []] (fun r=>r=tK o (lX p o most.toNat)):=by
 obtain⟨mo,rfl⟩:∃mo:Nat,most=mo:=⟨most.toNat,by omega⟩
 rw[Int.toNat_natCast]
 have ok:=ky h
 have hw:=ho.words
 have c0:=iK o ho
 rw[pf h] at c0
 refine cr ?_ (by cases lX p o mo<;>simp[tK,cG,cC];exact iO o _)
 refine aO xU rfl ?_
 have hF:=kU.init (p:=p) ok hw
 have hm0:=(hF.ok 0 hF.pos).1
 have hm0':(List.getD (ef o) 0 default).m=da o:=rfl
 rw[hm0'] at hm0
 have g0:A5 true (Value.string (rT (dx (da o)))) [] (i64 1)=some (ku (ef o)):=rfl
 have h65:(65536:Int)<mo→False:=by omega
 refine pS ?_
 refine aP (x0 ho ok h) ?_
 rintro r H1 n1 ⟨L,rfl,hM,hn1,hlt,hk1⟩
 refine ca ?_
 refine aW (EA hm0 ok (by simp[da])) (args2:=[(da o).frozen o]) ?_ (by simp[cG,iP]) trivial ?_
 ·rw[List.map_cons,List.map_nil]
  congr 1
  exact(hM.eE (fun y hy=>by have:=hlt y hy;have:=hM.lt y hy;exact cE) (Nat.le_refl _)).eH
 refine ca ?_
 have hno:∀y,y<20∨n1≤y→y∉L.ids:=fun y hy hm=>by
  have h1:=hlt y hm
  have h2:=hM.lt y hm
  omega
 refine aR (fun σ:Nat×List bu=>[(1,i64 mo),(2, .fn (.func g) [] []),(13, .sl (n1+7) σ.2.length),(14, .mp (n1+9)),(15,i64 σ.1)])
  (fun σ H n=>σ.1≤σ.2.length∧σ.2.length≤mo∧kU p o σ.2∧qy p o mo (mo - σ.1) σ.1 σ.2=lX p o mo∧n1+15≤n∧(∃d,bd H (n1+7)=some (.row 85 3 d (σ.2.map (bu.av o))))∧(∃e d,bd H (n1+9)=some (.row e 0 d (mapA (ku σ.2))))) (fun σ=>mo - σ.1) (0,ef o)
  ⟨_,_,_,Rt.wk (sJ (lb:=n1+7) (l:=[]) (fr:=-1) (mv:=[]) (hM.eE ?_ (Nat.le_refl _)) ?_ bo (hno _ (by omega))),cH,Nat.zero_le _,by show 1≤mo;omega,hF,rfl,cO,⟨_,(fL (hno _ (by omega))).trans bo⟩,⟨_,_,(fL (hno _ (by omega))).trans bo⟩⟩ ?_
 ·intro y hy
  have:=hlt y hy
  have:=hM.lt y hy
  exact cE
 ·exact fZ _ (DH 0 [])
 clear hM hlt hk1 hno
 rintro⟨k,l⟩ H n ⟨hk,hl,hfs,hall,hn,⟨d1,r1'⟩,⟨e2,d2,r2'⟩⟩
 dsimp only at hk hl hfs hall r1' r2' ⊢
 have a0:(l.map (bu.av o)).length=l.length:=List.length_map _
 by_cases hkl:k<l.length
 ·have e0:∀d,(l.map (bu.av o)).getD ((k:Int)).toNat d=(l.getD k default).av o:=fun d=>by rw[Int.toNat_natCast];exact dY (bu.av o) l k d hkl
  have hmk:mo - k=(mo - (k+1))+1:=by omega
  rw[hmk,qy,if_pos hkl] at hall
  obtain⟨hmok,hpl⟩:=hfs.ok k hkl
  generalize hmm:(l.getD k default).m=m at hmok hpl hall
  have e0':∀d,(l.map (bu.av o)).getD ((k:Int)).toNat d= .agg [m.frozen o,i64 (l.getD k default).from_,mP (l.getD k default).CW]:=fun d=>by rw[e0 d,←hmm];rfl
  clear e0
  have e0:=e0'
  have c1:=hg m hmok (by omega)
  simp only[bk.frozen] at c1
  have hsub:∀mv∈dU p o m,mv∈dU p o m:=fun mv h=>h
  have hfew:=A3 (p:=p) (o:=o) (s:=m)
  generalize hms:dU p o m=ms at c1 hall hfew
  replace hsub:∀mv∈ms,mv∈dU p o m:=fun mv h=>by rw[hms];exact h
  refine ca ?_
  have hlk:=hmok.look ok (by omega)
  have hc8:=hlk.bf
  have hfrom:(l.getD k default).from_=(l.getD k default).from_:=rfl
  generalize (l.getD k default).from_=fr0 at e0 e0'
  generalize (l.getD k default).CW=by0 at e0 e0'
  clear hfrom
  refine aR (fun σ:Nat×List bu=>[(1,i64 mo),(2, .fn (.func g) [] []),(13, .sl (n1+7) σ.2.length),(14, .mp (n1+9)),(15,i64 k),(61,mu ms),(62,i64 ms.length),(63,i64 σ.1)])
   (fun σ H n=>σ.1≤ms.length∧k<σ.2.length∧σ.2.length≤mo∧kU p o σ.2∧(σ.2.getD k default).m=m∧(match rI o mo k (ms.drop σ.1) σ.2 with
    |none=>none
    |some l2=>qy p o mo (mo - (k+1)) (k+1) l2)=lX p o mo∧n1+15≤n∧(∃d,bd H (n1+7)=some (.row 85 3 d (σ.2.map (bu.av o))))∧(∃e d,bd H (n1+9)=some (.row e 0 d (mapA (ku σ.2))))) (fun σ=>ms.length - σ.1) (0,l)
   ⟨_,_,_,Rt.refl _ _ _,(by rw[List.length_map];exact cH),Nat.zero_le _,hkl,hl,hfs,hmm,hall,cO,⟨_,bo⟩,⟨_,_,bo⟩⟩ ?_
  clear e0 e0' a0 r1' r2' hall hfs hl hkl hn hmm
  rintro⟨t,l⟩ H n ⟨ht,hkl,hl,hfs,hmm,hall,hn,⟨d1,r1'⟩,⟨e2,d2,r2'⟩⟩
  dsimp only at ht hkl hl hfs hmm hall r1' r2' ⊢
  have a0:(l.map (bu.av o)).length=l.length:=List.length_map _
  have a1:(ms.map iq).length=ms.length:=List.length_map _
  by_cases htl:t<ms.length
  ·have e1:∀d,(ms.map iq).getD ((t:Int)).toNat d=iq (ms.getD t default):=fun d=>by rw[Int.toNat_natCast];exact dY iq ms t d htl
   have e0:∀d,(l.map (bu.av o)).getD ((k:Int)).toNat d= .agg [m.frozen o,i64 (l.getD k default).from_,mP (l.getD k default).CW]:=fun d=>by rw[Int.toNat_natCast,dY (bu.av o) l k d hkl,←hmm];rfl
   have hmv:=hsub _ (fR default htl)
   rw[show ms.drop t=ms.getD t default::ms.drop (t+1) by rw[List.drop_eq_getElem_cons htl];simp[List.getD,htl],rI] at hall
   generalize ms.getD t default=mv at e1 hmv hall
   have hml:=A4 hmv
   refine ca ?_
   refine aP (qD (o:=o) (s:=m) hlk _ _) ?_
   rintro r H2 n2 ⟨L2,rfl,hM2,hlt2,hn2,hk2⟩
   have hlt2:∀x∈L2.ids,n+9≤x:=hlt2
   have hn2:n+9≤n2:=hn2
   have hk2:∀y,y<n+9→bd H2 y=bd H y:=fun y hy=>(hk2 y hy).trans cE
   replace r1':=(hk2 (n1+7) (by omega)).trans r1'
   replace r2':=(hk2 (n1+9) (by omega)).trans r2'
   clear hk2
   have a2:(mv.map cM.av).length=mv.length:=List.length_map _
   refine ca ?_
   refine aR (fun σ:Nat×Lay=>[(1,i64 mo),(2, .fn (.func g) [] []),(13, .sl (n1+7) l.length),(14, .mp (n1+9)),(15,i64 k),(17,iq mv),(18, .pt σ.2.m 1 0 0),(61,mu ms),(62,i64 ms.length),(63,i64 t),(73,iq mv),(74,i64 mv.length),(75,i64 σ.1)])
    (fun σ H n3=>σ.1≤mv.length∧n+9≤n3∧fe o (kV o m (mv.take σ.1)) σ.2 H n3∧(∀x∈σ.2.ids,n+9≤x)∧(∃d,bd H (n1+7)=some (.row 85 3 d (l.map (bu.av o))))∧(∃e d,bd H (n1+9)=some (.row e 0 d (mapA (ku l))))) (fun σ=>mv.length - σ.1) (0,L2)
    ⟨_,_,_,Rt.refl _ _ _,(by rw[List.length_map];exact cH),Nat.zero_le _,cO,hM2.eE ?_ cO,hlt2,⟨_,bo⟩,⟨_,_,bo⟩⟩ ?_
   ·intro y hy
    have:=hM2.lt y hy
    exact cE
   clear hM2 hlt2 r1' r2' hn2
   rintro⟨i,L⟩ H n3 ⟨hi,hn3,hM,hlt,⟨d1,r1'⟩,⟨e2,d2,r2'⟩⟩
   dsimp only at hi hM hlt ⊢
   have hgp:=qF (o:=o) (mv.take i) m
   rw[List.length_take] at hgp
   have hgo:=DN ok hw (mv.take i) hmok
   by_cases hil:i<mv.length
   ·have e2:∀d,(mv.map cM.av).getD ((i:Int)).toNat d=(mv.getD i default).av:=fun d=>by rw[Int.toNat_natCast];exact dY _ _ _ d hil
    have hsn:kV o m (mv.take (i+1))=(cn o (kV o m (mv.take i)) (mv.getD i default).kind (mv.getD i default).core).1:=by
     rw[List.take_succ_eq_append_getElem hil,uh,show mv.getD i default=mv[i] by simp[List.getD,hil]]
    generalize mv.getD i default=x at e2 hsn
    refine ca ?_
    refine aP (nz (hM.eE ?_ cO) hgo.jQ ok (by omega) x.kind x.core) ?_
    ·intro y hy
     have:=hM.lt y hy
     exact cE
    rintro r H3 n4 ⟨rfl,hn4,⟨L3,hM3,hmo3⟩,hk3⟩
    have hno:∀y,y<n+9→y∉L.ids:=fun y hy hm=>by have:=hlt y hm;omega
    replace r1':=(hk3 (n1+7) (by omega) (hno _ (by omega))).trans (Eq.trans cE r1')
    replace r2':=(hk3 (n1+9) (by omega) (hno _ (by omega))).trans (Eq.trans cE r2')
    have hid3:=hmo3.ids
    replace hM3:fe o (kV o m (mv.take (i+1))) L3 H3 n4:=by rw[hsn];exact hM3
    clear hk3
    refine ca ?_
    refine⟨(i+1,L3),by dsimp only;omega,_,_,_,Rt.refl _ _ _,by dsimp only;rw[hmo3.m];exact cH,by dsimp only;omega,cO,hM3.eE ?_ cO, ?_,⟨_,bo⟩,⟨_,_,bo⟩⟩
    ·intro y hy
     have:=hM3.lt y hy
     exact cE
    ·intro y hy
     rcases hid3 y hy with h|h
     ·exact hlt y h
     ·have h:n3+7≤y:=h
      omega
   ·obtain rfl:i=mv.length:=by omega
    rw[List.take_length] at hM hgo hgp
    have htry:BY o mo k mv l=if dx (kV o m mv)∈eZ l then some l else if mo≤l.length then none else some (l++[⟨kV o m mv,k,mv⟩]):=by
     unfold BY
     rw[hmm]
    rw[htry] at hall
    have hput:=fun(h:dx (kV o m mv)∉eZ l)=>AO (l:=l) (m:=kV o m mv) (a:=k) (b:=mv) h
    have hadd:=fun(h:dx (kV o m mv)∉eZ l)=>hfs.add (mv:=mv) ok hw hkl (by rw[hmm];exact hmv) (by rw[hmm];exact h)
    rw[hmm] at hadd
    have hkey:=EA hgo ok (by omega)
    generalize kV o m mv=m2 at *
    have hget:=L6 D9 i64 (rT (dx m2)) (iS l) (i64 0)
    rw[qT] at hget
    have hno:∀y,y<n+9∨n3≤y→y∉L.ids:=fun y hy hm=>by
     have h1:=hlt y hm
     have h2:=hM.lt y hm
     omega
    by_cases hin:dx m2∈eZ l
    ·rw[if_pos hin] at hget hall
     have g0:xY true (Value.string (rT (dx m2))) (ku l) (i64 0)=some (i64 1,true):=hget
     refine ca ?_
     refine aW hkey (args2:=[m2.frozen o]) ?_ (by simp[cG,iP]) trivial ?_
     ·rw[List.map_cons,List.map_nil]
      congr 1
      exact(hM.eE (fun y hy=>by have:=hM.lt y hy;exact cE) (Nat.le_refl _)).eH
     refine ca ?_
     exact⟨(t+1,l),by dsimp only;omega,_,_,_,Rt.refl _ _ _,cH,by dsimp only;omega,hkl,hl,hfs,hmm,hall,cO,⟨_,bo⟩,⟨_,_,bo⟩⟩
    ·rw[if_neg hin] at hget hall
     have g0:xY true (Value.string (rT (dx m2))) (ku l) (i64 0)=some (i64 0,false):=hget
     by_cases hfull:mo≤l.length
     ·rw[if_pos hfull] at hall
      refine ca ?_
      refine aW hkey (args2:=[m2.frozen o]) ?_ (by simp[cG,iP]) trivial ?_
      ·rw[List.map_cons,List.map_nil]
       congr 1
       exact(hM.eE (fun y hy=>by have:=hM.lt y hy;exact cE) (Nat.le_refl _)).eH
      refine ca ?_
      have hall2:none=lX p o mo:=hall
      rw[←hall2]
      exact⟨by simp[tK,cW.eH]⟩
     ·rw[if_neg hfull] at hall
      have g1:A5 true (Value.string (rT (dx m2))) (ku l) (i64 1)=some (ku (l++[⟨m2,k,mv⟩])):=by
       have:=L9 D9 i64 (rT (dx m2)) 1 (iS l)
       rw[hput hin] at this
       exact this
      refine ca ?_
      refine aW hkey (args2:=[m2.frozen o]) ?_ (by simp[cG,iP]) trivial ?_
      ·rw[List.map_cons,List.map_nil]
       congr 1
       exact(hM.eE (fun y hy=>by have:=hM.lt y hy;exact cE) (Nat.le_refl _)).eH
      refine ca ?_
      refine⟨(t+1,l++[⟨m2,k,mv⟩]),by dsimp only;omega,_,_,_,Rt.wk (sJ (L:=L) (lb:=n1+7) (l:=l) (fr:=k) (mv:=mv) (hM.eE ?_ (Nat.le_refl _)) ?_ bo (hno _ (by omega))),cH,by dsimp only;omega,by dsimp only;rw[List.length_append];omega,by dsimp only;simp only[List.length_append,List.length_cons,List.length_nil];omega,hadd hin,by dsimp only;rw[iB hkl];exact hmm,hall,cO,⟨_,(fL (hno _ (by omega))).trans bo⟩,⟨_,_,(fL (hno _ (by omega))).trans bo⟩⟩
      ·intro y hy
       have:=hlt y hy
       have:=hM.lt y hy
       exact cE
      ·rw[CV (GD hmv)]
       exact fZ _ (by simp[cC,cG,cF])
  ·have htG:t=ms.length:=by omega
   subst htG
   rw[List.drop_of_length_le (Nat.le_refl _),rI] at hall
   refine ca ?_
   exact⟨(k+1,l),by dsimp only;omega,_,_,_,Rt.refl _ _ _,cH,by dsimp only;omega,hl,hfs,hall,cO,⟨_,bo⟩,⟨_,_,bo⟩⟩
 ·have hk2:k=l.length:=by omega
  refine ca ?_
  have hl2:lX p o mo=some l:=by
   rw[←hall]
   subst hk2
   cases h:mo - l.length with
   |zero=>rfl
   |succ q=>rw[qy,if_neg (by omega)]
  rw[hl2]
  refine⟨?_⟩
  refine(y9 _ _ _).trans ?_
  rw[List.map_cons,List.map_cons,List.map_nil]
  rw[nf (k:=4) bo a0,eK _ (iO o l)]
  rfl
end Go.Proofs.YtlonbgdonffcbaaGreatDoor
end
section
/- Ends compared: plain data, the small functions of the code. -/
namespace Go.Proofs.YtlonbgdonffcbaaGreatDoor
open Go Go.cW Go.Proofs
set_option linter.unusedSimpArgs false
set_option linter.unusedVariables false
structure cN where
 bg:List cD
 mem:List Int
 ended:Bool
 deriving Inhabited,DecidableEq
def cN.cells (e:cN):List AV:=[dt e.bg,jR e.mem,bl e.ended]
abbrev cN.av (e:cN):AV:= .agg e.cells
@[simp] theorem OP (n:Nat) (e:cN):cG n e.cells:=by simp[cN.cells,cG,cC,cF]
def eN (x y:Int):Int:=if x<y then -1 else if y<x then 1 else 0
def kE:List Int→Int
 |[]=>0
 |x::l=>if x=0 then kE l else x
def fP (p q:cD):Int:=kE [eN p.ch q.ch,eN p.word q.word]
def eG {α:Type} (f:α→α→Int):List α→List α→Int
 |[],[]=>0
 |[],_::_=>-1
 |_::_,[]=>1
 |x::a,y::b=>if f x y=0 then eG f a b else f x y
def rB (a b:Bool):Int:=if a=b then 0 else if b then -1 else 1
def dz (a b:cN):Int:=kE [eG fP a.bg b.bg,eG eN a.mem b.mem,rB a.ended b.ended]
theorem pC {α:Type} (f:α→α→Int) (d:α) {a b:List α} {i:Nat} (h1:i<a.length) (h2:i<b.length):eG f (a.drop i) (b.drop i)=if f (a.getD i d) (b.getD i d)=0 then eG f (a.drop (i+1)) (b.drop (i+1)) else f (a.getD i d) (b.getD i d):=by
 rw[List.drop_eq_getElem_cons h1,List.drop_eq_getElem_cons h2,eG]
 simp[List.getD,List.getElem?_eq_getElem h1,List.getElem?_eq_getElem h2]
theorem mT {α:Type} (f:α→α→Int) {a b:List α} {i:Nat} (h1:i<a.length) (h2:b.length≤i):eG f (a.drop i) (b.drop i)=1:=by
 rw[List.drop_eq_getElem_cons h1,List.drop_of_length_le h2,eG]
theorem mS {α:Type} (f:α→α→Int) {a b:List α} {i:Nat} (h1:a.length≤i) (h2:i≤b.length):eG f (a.drop i) (b.drop i)=if i<b.length then -1 else 0:=by
 rw[List.drop_of_length_le h1]
 split
 ·rename_i h;rw[List.drop_eq_getElem_cons h,eG]
 ·rw[List.drop_of_length_le (by omega),eG]
theorem yz (x:Int):Pure Tryz.prog 67 [i64 x] (fun r=>r=bl false):=by
 refine aI FI rfl ?_
 refine ca ?_
 refine kJ ?_
 simp
theorem vt (x:Int):Pure Tryz.prog 68 [i64 x] (fun r=>r=bl false):=by
 refine aI FJ rfl ?_
 refine ca ?_
 refine kJ ?_
 simp
theorem C0 (x y:Int):Pure Tryz.prog 46 [i64 x,i64 y] (fun r=>r=i64 (eN x y)):=by
 have c0:=yz x
 have c1:=yz y
 unfold eN
 by_cases h:x<y
 ·rw[if_pos h]
  refine aI xV rfl ?_
  refine ca ?_
  first|exact rfl|trivial
 ·rw[if_neg h]
  by_cases h2:y<x
  ·rw[if_pos h2]
   refine aI xV rfl ?_
   refine ca ?_
   first|exact rfl|trivial
  ·rw[if_neg h2]
   refine aI xV rfl ?_
   refine ca ?_
   first|exact rfl|trivial
theorem re (x y:Int):Pure Tryz.prog 47 [i64 x,i64 y] (fun r=>r=i64 (eN x y)):=by
 have c0:=vt x
 have c1:=vt y
 unfold eN
 by_cases h:x<y
 ·rw[if_pos h]
  refine aI xW rfl ?_
  refine ca ?_
  first|exact rfl|trivial
 ·rw[if_neg h]
  by_cases h2:y<x
  ·rw[if_pos h2]
   refine aI xW rfl ?_
   refine ca ?_
   first|exact rfl|trivial
  ·rw[if_neg h2]
   refine aI xW rfl ?_
   refine ca ?_
   first|exact rfl|trivial
theorem GM {l:List Int} {i:Nat} (h:i<l.length):kE (l.drop i)=if l.getD i 0=0 then kE (l.drop (i+1)) else l.getD i 0:=by
 rw[List.drop_eq_getElem_cons h,kE]
 simp[List.getD,List.getElem?_eq_getElem h]
theorem wC (l:List Int) (hl:l.length≤1000):Pure Tryz.prog 45 [jR l] (fun r=>r=i64 (kE l)):=by
 refine aI E5 rfl ?_
 refine ca ?_
 rw[List.length_map]
 refine aT (fun i:Nat=>[(3,i64 0),(6,jR l),(7,i64 l.length),(8,i64 i)]) (fun i H n=>i≤l.length∧kE l=kE (l.drop i)) (fun i=>l.length - i) 0 cH ⟨Nat.zero_le _,rfl⟩ ?_
 rintro i H n ⟨hi,ho⟩
 rw[ho]
 by_cases hil:i<l.length
 ·have e0:=fun d=>ints_at (l:=l) hil d
  have a0:(l.map i64).length=l.length:=by simp
  have hd:=GM hil
  by_cases hz:l.getD i 0=0
  ·have r0:=hz
   rw[if_pos hz] at hd
   refine ca ?_
   exact⟨i+1,by omega,cH,by omega,hd⟩
  ·have r0:=decide_eq_true hz
   rw[if_neg hz] at hd
   refine ca ?_
   rw[hd]
 ·rw[List.drop_of_length_le (by omega)]
  refine ca ?_
  first|exact rfl|trivial
end Go.Proofs.YtlonbgdonffcbaaGreatDoor
end
section
/- A result that is part of a row gets a row of its own; what stands over at an end. -/
namespace Go.cW
open Go.RowKit
theorem bw.rt {P:Program} {f:FuncId} {args:List AV} {H:Hp} {nx:Nat} {R R2:AV→Hp→Nat→Prop} (h:bw P f args H nx R) (hR:∀r H' n,R r H' n→∃fr2 H2 n2,Rt [(0,r)] H' n fr2 H2 n2∧R2 (cJ fr2 0) H2 n2):bw P f args H nx R2:=by
 refine⟨h.1,fun w0 c vs a1 a2 a3 a4=>(h.2 w0 c vs a1 a2 a3 a4).mono ?_⟩
 rintro e w' ⟨v,r,H',nx',ρ,U,rfl,hRr,hU,hS,hle,hv⟩
 obtain⟨fr2,H2,n2,hw,hR2⟩:=hR r H' nx' hRr
 have hh:Holds w0 c.M0 ⟨ρ,bd H',U,w',c.M0⟩ nx' 1 [(0,r)] H' nx' ⟨#[v],[]⟩ w':=by
  refine⟨rfl,rfl,ρ,U,hU,hS,fun t=> ?_,⟨hU,Cx.le.refl _⟩⟩
  by_cases ht:t=0
  ·subst ht;exact hv
  ·have:cJ [(0,r)] t= .any:=by simp[cJ,ht]
   rw[this];exact c8.any _ _ _ _ (by rw[VR];trivial)
 obtain⟨_,_,ρ2,U2,k1,k2,k3,k4⟩:=hw _ _ _ _ _ _ _ hh
 exact⟨v,_,H2,n2,ρ2,U2,rfl,hR2,k1,k2,hle.trans k4.2,k3 0⟩
end Go.cW
namespace Go.Proofs.YtlonbgdonffcbaaGreatDoor
open Go Go.cW Go.Proofs
set_option linter.unusedSimpArgs false
set_option linter.unusedVariables false
set_option maxRecDepth 8000
def la (o:Obj) (s:bk):cN:=⟨s.bg,s.mem.take o.shared.toNat,true⟩
theorem JB {o:Obj} {s:bk} (hlk:eB s) (hs:0≤o.shared∧o.shared≤s.mem.length):Pure Tryz.prog 49 [o.av,s.frozen o] (fun r=>r=(la o s).av):=by
 have c1:=nt o s hlk.mem
 have c2:=je o s hlk.bg
 simp only[bk.frozen] at c1 c2 ⊢
 refine cr ?_ (by simp[cC])
 refine aO E7 rfl ?_
 have hm:(s.mem.map i64).length=s.mem.length:=List.length_map _
 refine ca ?_
 refine⟨?_⟩
 have h1:cG 0 ((s.mem.map i64).take o.shared.toNat):=by rw[←List.map_take];exact(cF _ _).2 fun _ _=>by simp[cC]
 show cW.eH _ 6 (.agg [.im 2 .any (s.bg.map cD.av), .im 1 .any ((s.mem.map i64).take o.shared.toNat), .sc (.bool true)])=_
 rw[lQ _ (by simp[cC,cG,cF,h1]),←List.map_take]
 rfl
end Go.Proofs.YtlonbgdonffcbaaGreatDoor
end
section
/- Ends compared: the code's Compare and Same. -/
namespace Go.Proofs.YtlonbgdonffcbaaGreatDoor
open Go Go.cW Go.Proofs
set_option linter.unusedSimpArgs false
set_option linter.unusedVariables false
theorem zh (p q:cD):Pure Tryz.prog 44 [p.av,q.av] (fun r=>r=i64 (fP p q)):=by
 have c0:=C0 p.ch q.ch
 have c1:=re p.word q.word
 have c2:=wC [eN p.ch q.ch,eN p.word q.word] (by simp)
 refine aI E4 rfl ?_
 refine ca ?_
 refine aW (args2:=[jR [eN p.ch q.ch,eN p.word q.word]]) (r:=i64 (fP p q)) c2 rfl (by simp[cG,cC]) trivial ?_
 refine ca ?_
 first|exact rfl|trivial
theorem iI {l:List cD} {i:Nat} (h:i<l.length) (d:AV):(l.map cD.av).getD ((i:Int)).toNat d=(l.getD i default).av:=by
 rw[Int.toNat_natCast];exact dY cD.av l i d h
theorem wj (a b:List cD) (ha:a.length<9223372036854775807):Pure Tryz.prog 43 [dt a,dt b, .fn (.func 44) [] []] (fun r=>r=i64 (eG fP a b)):=by
 refine aI E3 rfl ?_
 refine ca ?_
 rw[List.length_map]
 refine aT (fun i:Nat=>[(0,dt a),(1,dt b),(2, .fn (.func 44) [] []),(11,dt a),(12,i64 a.length),(13,i64 i)]) (fun i H n=>i≤a.length∧i≤b.length∧eG fP a b=eG fP (a.drop i) (b.drop i)) (fun i=>a.length - i) 0 cH ⟨Nat.zero_le _,Nat.zero_le _,rfl⟩ ?_
 rintro i H n ⟨hi,hib,ho⟩
 rw[ho]
 have a0:(a.map cD.av).length=a.length:=by simp
 have a1:(b.map cD.av).length=b.length:=by simp
 by_cases hil:i<a.length
 ·have e0:=fun d=>iI hil d
  by_cases hbl:i<b.length
  ·have e1:=fun d=>iI hbl d
   have hd:=pC fP default hil hbl
   have c0:=zh (a.getD i default) (b.getD i default)
   generalize a.getD i default=p at *
   generalize b.getD i default=q at *
   by_cases hz:fP p q=0
   ·have r0:=hz
    rw[if_pos hz] at hd
    refine ca ?_
    exact⟨i+1,by omega,cH,by omega,by omega,hd⟩
   ·have r0:=decide_eq_true hz
    rw[if_neg hz] at hd
    refine ca ?_
    rw[hd]
  ·rw[mT fP hil (by omega)]
   refine ca ?_
   first|exact rfl|trivial
 ·obtain rfl:i=a.length:=by omega
  rw[mS fP (Nat.le_refl _) hib]
  by_cases h:a.length<b.length
  ·rw[if_pos h]
   refine ca ?_
   first|exact rfl|trivial
  ·rw[if_neg h]
   refine ca ?_
   first|exact rfl|trivial
theorem wh (a b:List Int) (ha:a.length<9223372036854775807):Pure Tryz.prog 48 [jR a,jR b] (fun r=>r=i64 (eG eN a b)):=by
 refine aI E6 rfl ?_
 refine ca ?_
 rw[List.length_map]
 refine aT (fun i:Nat=>[(0,jR a),(1,jR b),(9,jR a),(10,i64 a.length),(11,i64 i)]) (fun i H n=>i≤a.length∧i≤b.length∧eG eN a b=eG eN (a.drop i) (b.drop i)) (fun i=>a.length - i) 0 cH ⟨Nat.zero_le _,Nat.zero_le _,rfl⟩ ?_
 rintro i H n ⟨hi,hib,ho⟩
 rw[ho]
 have a0:(a.map i64).length=a.length:=by simp
 have a1:(b.map i64).length=b.length:=by simp
 by_cases hil:i<a.length
 ·have e0:=fun d=>ints_at hil d
  by_cases hbl:i<b.length
  ·have e1:=fun d=>ints_at hbl d
   have hd:=pC eN 0 hil hbl
   have c0:=re (a.getD i 0) (b.getD i 0)
   generalize a.getD i 0=p at *
   generalize b.getD i 0=q at *
   by_cases hz:eN p q=0
   ·have r0:=hz
    rw[if_pos hz] at hd
    refine ca ?_
    exact⟨i+1,by omega,cH,by omega,by omega,hd⟩
   ·have r0:=decide_eq_true hz
    rw[if_neg hz] at hd
    refine ca ?_
    rw[hd]
  ·rw[mT eN hil (by omega)]
   refine ca ?_
   first|exact rfl|trivial
 ·obtain rfl:i=a.length:=by omega
  rw[mS eN (Nat.le_refl _) hib]
  by_cases h:a.length<b.length
  ·rw[if_pos h]
   refine ca ?_
   first|exact rfl|trivial
  ·rw[if_neg h]
   refine ca ?_
   first|exact rfl|trivial
theorem rZ (a b:cN) (h1:a.bg.length<9223372036854775807) (h2:a.mem.length<9223372036854775807):Pure Tryz.prog 18 [a.av,b.av] (fun r=>r=i64 (dz a b)):=by
 have c0:=wj a.bg b.bg h1
 have c1:=wh a.mem b.mem h2
 have c2:=wC [eG fP a.bg b.bg,eG eN a.mem b.mem,rB a.ended b.ended] (by simp)
 obtain⟨ap,am,ae⟩:=a
 obtain⟨bp,bm,be⟩:=b
 cases ae<;>cases be<;>(refine aI EJ rfl ?_;refine ca ?_;refine aW (args2:=[jR [eG fP ap bp,eG eN am bm,_]]) (r:=i64 (kE [eG fP ap bp,eG eN am bm,_])) c2 rfl (by simp[cG,cC]) trivial ?_;refine ca ?_;first|exact rfl|trivial)
theorem qh (a b:cN) (h1:a.bg.length<9223372036854775807) (h2:a.mem.length<9223372036854775807):Pure Tryz.prog 42 [a.av,b.av] (fun r=>r=bl (decide (dz a b=0))):=by
 have c0:=rZ a b h1 h2
 refine aI E2 rfl ?_
 refine ca ?_
 refine kJ ?_
 simp
end Go.Proofs.YtlonbgdonffcbaaGreatDoor
end
section
/- Ends compared: the document's Compare; the plain laws. -/
namespace Go.Proofs.YtlonbgdonffcbaaGreatDoor
open Go Go.cW Go.Proofs
set_option linter.unusedSimpArgs false
set_option linter.unusedVariables false
theorem qe (b:Bool):Pure Tryz.prog 51 [bl b] (fun r=>r=i64 (if b then -1 else 1)):=by
 cases b<;>(refine aI E8 rfl ?_;refine ca ?_;first|exact rfl|trivial)
theorem jd {x:Bool} {v:Int} (h:(if x=true then -1 else 1)=v):Pure Tryz.prog 51 [bl x] (fun r=>r=i64 v):=by
 have:=qe x
 rw[h] at this
 exact this
theorem IC {p q:cD} (h:p.ch<q.ch∨p.ch=q.ch∧p.word<q.word):fP p q=-1:=by
 unfold fP eN
 simp only[kE]
 repeat' (first|omega|split)
theorem IB {p q:cD} (h:¬(p.ch<q.ch∨p.ch=q.ch∧p.word<q.word)) (hne:¬(p.ch=q.ch∧p.word=q.word)):fP p q=1:=by
 unfold fP eN
 simp only[kE]
 repeat' (first|omega|split)
theorem IA {p q:cD} (h:p.ch=q.ch∧p.word=q.word):fP p q=0:=by
 unfold fP eN
 simp only[kE]
 repeat' (first|omega|split)
theorem H9 {x y:Int} (h:x≠y):eN x y=if x<y then -1 else 1:=by
 unfold eN;split
 ·rfl
 ·rw[if_pos (by omega)]
theorem yW (x:Int):eN x x=0:=by unfold eN;simp
set_option maxHeartbeats 1000000 in
theorem xl (a b:cN) (h1:a.bg.length<9223372036854775807) (h2:a.mem.length<9223372036854775807):Pure Tryz.prog 20 [a.av,b.av] (fun r=>r=i64 (dz a b)):=by
 have a0:(a.bg.map cD.av).length=a.bg.length:=by simp
 have a1:(b.bg.map cD.av).length=b.bg.length:=by simp
 have a2:(a.mem.map i64).length=a.mem.length:=by simp
 have a3:(b.mem.map i64).length=b.mem.length:=by simp
 refine aI EK rfl ?_
 refine ca ?_
 refine aT (fun i:Nat=>[(2, .pt 0 1 0 0),(3, .pt 1 1 0 0),(5,i64 i)]) (fun i H n=>2≤n∧(∃d,bd H 0=some (.row 48 3 d [a.av]))∧(∃d,bd H 1=some (.row 48 3 d [b.av]))∧i≤a.bg.length∧i≤b.bg.length∧eG fP a.bg b.bg=eG fP (a.bg.drop i) (b.bg.drop i)) (fun i=>a.bg.length - i) 0 cH ⟨cO,⟨_,bo⟩,⟨_,bo⟩,Nat.zero_le _,Nat.zero_le _,rfl⟩ ?_
 rintro i H n ⟨hn,⟨d0,r0⟩,⟨d1,r1⟩,hi,hib,ho⟩
 by_cases hil:i<a.bg.length
 ·have e0:=fun d=>iI hil d
  by_cases hbl:i<b.bg.length
  ·have e1:=fun d=>iI hbl d
   have hd:=pC fP default hil hbl
   generalize a.bg.getD i default=p at *
   generalize b.bg.getD i default=q at *
   have g0:=decide_eq_true hil
   have g1:=decide_eq_true hbl
   by_cases hlt:p.ch<q.ch∨p.ch=q.ch∧p.word<q.word
   ·have hc:=IC hlt
    have hE:dz a b=-1:=by unfold dz;rw[ho,hd,hc,if_neg (by decide),kE,if_neg (by decide)]
    rw[hE]
    by_cases h3:p.ch<q.ch
    ·refine ca ?_
     first|exact rfl|trivial
    ·obtain⟨h4,h5⟩:=hlt.resolve_left h3
     have g2:=decide_eq_true h4
     have g3:=decide_eq_true h5
     refine ca ?_
     first|exact rfl|trivial
   ·have g4:¬p.ch<q.ch:=fun e=>hlt (.inl e)
    by_cases heq:p.ch=q.ch∧p.word=q.word
    ·obtain⟨h4,h5⟩:=heq
     have hc:=IA ⟨h4,h5⟩
     rw[hc,if_pos rfl] at hd
     have g5:¬p.word<q.word:=by omega
     refine ca ?_
     exact⟨i+1,by omega,cH,by omega,⟨_,bo⟩,⟨_,bo⟩,by omega,by omega,ho.trans hd⟩
    ·have hc:=IB hlt heq
     have hE:dz a b=1:=by unfold dz;rw[ho,hd,hc,if_neg (by decide),kE,if_neg (by decide)]
     rw[hE]
     refine ca ?_
     first|exact rfl|trivial
  ·have hE:dz a b=1:=by unfold dz;rw[ho,mT fP hil (by omega),kE,if_neg (by decide)]
   rw[hE]
   have hne:a.bg.length≠b.bg.length:=by omega
   have c0:=jd (x:=decide (((a.bg.map cD.av).length:Int)<((b.bg.map cD.av).length:Int))) (v:=1) (by rw[decide_eq_false (by omega)];rfl)
   refine ca ?_
   first|exact rfl|trivial
 ·obtain rfl:i=a.bg.length:=by omega
  rw[mS fP (Nat.le_refl _) hib] at ho
  by_cases hpl:a.bg.length<b.bg.length
  ·rw[if_pos hpl] at ho
   have hE:dz a b=-1:=by unfold dz;rw[ho,kE,if_neg (by decide)]
   rw[hE]
   have hne:a.bg.length≠b.bg.length:=by omega
   have c0:=jd (x:=decide (((a.bg.map cD.av).length:Int)<((b.bg.map cD.av).length:Int))) (v:=-1) (by rw[decide_eq_true (by omega)];rfl)
   refine ca ?_
   first|exact rfl|trivial
  ·rw[if_neg hpl] at ho
   have hpe:b.bg.length=a.bg.length:=by omega
   refine ca ?_
   refine aT (fun i:Nat=>[(2, .pt 0 1 0 0),(3, .pt 1 1 0 0),(8,i64 i)]) (fun i H n=>2≤n∧(∃d,bd H 0=some (.row 48 3 d [a.av]))∧(∃d,bd H 1=some (.row 48 3 d [b.av]))∧i≤a.mem.length∧i≤b.mem.length∧eG eN a.mem b.mem=eG eN (a.mem.drop i) (b.mem.drop i)) (fun i=>a.mem.length - i) 0 cH ⟨cO,⟨_,bo⟩,⟨_,bo⟩,Nat.zero_le _,Nat.zero_le _,rfl⟩ ?_
   clear r0 r1 hn
   rintro i H n ⟨hn,⟨d0,r0⟩,⟨d1,r1⟩,hi,hib,hm⟩
   by_cases hil:i<a.mem.length
   ·have e0:=fun d=>ints_at hil d
    by_cases hbl:i<b.mem.length
    ·have e1:=fun d=>ints_at hbl d
     have hd:=pC eN 0 hil hbl
     generalize a.mem.getD i 0=p at *
     generalize b.mem.getD i 0=q at *
     have g0:=decide_eq_true hil
     have g1:=decide_eq_true hbl
     by_cases heq:p=q
     ·rw[heq,yW,if_pos rfl] at hd
      refine ca ?_
      exact⟨i+1,by omega,cH,by omega,⟨_,bo⟩,⟨_,bo⟩,by omega,by omega,hm.trans hd⟩
     ·have hc:=H9 heq
      by_cases hlt:p<q
      ·rw[if_pos hlt] at hc
       have hE:dz a b=-1:=by unfold dz;rw[ho,hm,hd,hc,if_neg (by decide),kE,if_pos rfl,kE,if_neg (by decide)]
       rw[hE]
       have c0:=jd (x:=decide (p<q)) (v:=-1) (by rw[decide_eq_true hlt];rfl)
       refine ca ?_
       first|exact rfl|trivial
      ·rw[if_neg hlt] at hc
       have hE:dz a b=1:=by unfold dz;rw[ho,hm,hd,hc,if_neg (by decide),kE,if_pos rfl,kE,if_neg (by decide)]
       rw[hE]
       have c0:=jd (x:=decide (p<q)) (v:=1) (by rw[decide_eq_false hlt];rfl)
       refine ca ?_
       first|exact rfl|trivial
    ·have hE:dz a b=1:=by unfold dz;rw[ho,hm,mT eN hil (by omega),kE,if_pos rfl,kE,if_neg (by decide)]
     rw[hE]
     have hne:a.mem.length≠b.mem.length:=by omega
     have c0:=jd (x:=decide (((a.mem.map i64).length:Int)<((b.mem.map i64).length:Int))) (v:=1) (by rw[decide_eq_false (by omega)];rfl)
     refine ca ?_
     first|exact rfl|trivial
   ·obtain rfl:i=a.mem.length:=by omega
    rw[mS eN (Nat.le_refl _) hib] at hm
    by_cases hml:a.mem.length<b.mem.length
    ·rw[if_pos hml] at hm
     have hE:dz a b=-1:=by unfold dz;rw[ho,hm,kE,if_pos rfl,kE,if_neg (by decide)]
     rw[hE]
     have hne:a.mem.length≠b.mem.length:=by omega
     have c0:=jd (x:=decide (((a.mem.map i64).length:Int)<((b.mem.map i64).length:Int))) (v:=-1) (by rw[decide_eq_true (by omega)];rfl)
     refine ca ?_
     first|exact rfl|trivial
    ·rw[if_neg hml] at hm
     have hme:b.mem.length=a.mem.length:=by omega
     have hE:dz a b=rB a.ended b.ended:=by
      unfold dz;rw[ho,hm,kE,if_pos rfl,kE,if_pos rfl,kE]
      split<;>simp_all[kE]
     rw[hE]
     obtain⟨ap,am,ae⟩:=a
     obtain⟨bp,bm,be⟩:=b
     have c0:=qe be
     cases ae<;>cases be<;>(refine ca ?_;first|exact rfl|trivial)
end Go.Proofs.YtlonbgdonffcbaaGreatDoor
end
section
/- Ends compared: the order's plain laws. -/
namespace Go.Proofs.YtlonbgdonffcbaaGreatDoor
open Go Go.cW Go.Proofs
set_option linter.unusedSimpArgs false
set_option linter.unusedVariables false
theorem pk (x y:Int):eN y x=-eN x y:=by
 unfold eN
 repeat' (first|omega|split)
theorem tX:∀l:List Int,kE (l.map (-·))=-kE l
 |[]=>rfl
 |x::l=>by
  simp only[List.map_cons,kE]
  by_cases h:x=0
  ·rw[if_pos (by omega),if_pos h];exact tX l
  ·rw[if_neg (by omega),if_neg h]
theorem C1 (p q:cD):fP q p=-fP p q:=by
 unfold fP
 rw[←tX,pk p.ch,pk p.word];rfl
theorem pn {α:Type} {f:α→α→Int} (hf:∀x y,f y x=-f x y):∀a b:List α,eG f b a=-eG f a b
 |[],[]=>rfl
 |[],_::_=>rfl
 |_::_,[]=>rfl
 |x::a,y::b=>by
  rw[eG,eG,hf x y]
  by_cases h:f x y=0
  ·rw[if_pos (by omega),if_pos h];exact pn hf a b
  ·rw[if_neg (by omega),if_neg h]
theorem CY (a b:Bool):rB b a=-rB a b:=by cases a<;>cases b<;>rfl
theorem CZ (a b:cN):dz b a=-dz a b:=by
 unfold dz
 rw[←tX,pn C1 a.bg,pn pk a.mem,CY a.ended];rfl
theorem wB {l:List Int}:kE l=0↔∀x∈l,x=0:=by
 induction l with
 |nil=>simp[kE]
 |cons x l ih=>
  rw[kE]
  by_cases h:x=0
  ·rw[if_pos h,ih];simp[h]
  ·rw[if_neg h];simp[h]
theorem j5 {x y:Int}:eN x y=0↔x=y:=by
 constructor
 ·unfold eN;intro h;revert h;repeat' (first|omega|split)
 ·rintro rfl;exact yW _
theorem nW {p q:cD}:fP p q=0↔p=q:=by
 unfold fP
 rw[wB]
 simp only[List.mem_cons,List.not_mem_nil,or_false,forall_eq_or_imp,forall_eq,j5]
 constructor
 ·rintro⟨h1,h2⟩;cases p;cases q;simp_all
 ·rintro rfl;exact⟨rfl,rfl⟩
theorem j6 {α:Type} {f:α→α→Int} (hf:∀x y,f x y=0↔x=y):∀a b:List α,eG f a b=0↔a=b
 |[],[]=>by simp[eG]
 |[],_::_=>by simp[eG]
 |_::_,[]=>by simp[eG]
 |x::a,y::b=>by
  rw[eG]
  by_cases h:f x y=0
  ·rw[if_pos h,j6 hf a b]
   have:=(hf x y).1 h
   simp[this]
  ·rw[if_neg h]
   have:x≠y:=fun e=>h ((hf x y).2 e)
   simp[h,this]
theorem nV {a b:cN}:dz a b=0↔a=b:=by
 unfold dz
 rw[wB]
 simp only[List.mem_cons,List.not_mem_nil,or_false,forall_eq_or_imp,forall_eq,j6 (fun x y=>nW),j6 (fun x y=>j5)]
 constructor
 ·rintro⟨h1,h2,h3⟩
  obtain⟨ap,am,ae⟩:=a
  obtain⟨bp,bm,be⟩:=b
  cases ae<;>cases be<;>simp_all[rB]
 ·rintro rfl
  exact⟨rfl,rfl,by cases a.ended<;>rfl⟩
end Go.Proofs.YtlonbgdonffcbaaGreatDoor
end
section
/- Neighbours that are one go: the walk of the library's CompactFunc. -/
namespace Go.Proofs.YtlonbgdonffcbaaGreatDoor
open Go Go.cW Go.Proofs
set_option linter.unusedSimpArgs false
set_option linter.unusedVariables false
set_option maxRecDepth 8000
def kM (l:List cN):Nat→List cN
 |0=>[]
 |1=>[l.getD 0 default]
 |k+2=>if l.getD (k+1) default=l.getD k default then kM l (k+1) else kM l (k+1)++[l.getD (k+1) default]
theorem yY (l:List cN):∀k,(kM l k).length≤k
 |0=>Nat.le_refl _
 |1=>Nat.le_refl _
 |k+2=>by
  rw[kM]
  have:=yY l (k+1)
  split
  ·omega
  ·rw[List.length_append,List.length_cons,List.length_nil];omega
theorem uU (l:List cN) {k:Nat} (hk:1≤k):kM l (k+1)=if l.getD k default=l.getD (k - 1) default then kM l k else kM l k++[l.getD k default]:=by
 obtain⟨j,rfl⟩:∃j,k=j+1:=⟨k - 1,by omega⟩
 rw[kM]
 rfl
theorem iM {l:List cN} {i:Nat} (h:i<l.length) (d:AV):(l.map cN.av).getD i d=(l.getD i default).av:=dY cN.av l i d h
abbrev dw (l:List cN):AV:= .im 3 .any (l.map cN.av)
theorem iN (l:List cN):cG 0 (l.map cN.av):=(cF _ _).2 fun _ _=>by simp[cC]
theorem lj {α:Type} {l:List α} {i:Nat} {x:α} (h:i<l.length):(l.set i x).take (i+1)=l.take i++[x]:=by
 rw[List.take_succ_eq_append_getElem (by simpa using h),List.take_set_of_le (Nat.le_refl _)]
 simp
theorem LS {H:Hp} {k b len lo n:Nat} {e:TypeId} {sz:Nat} {d:AV} {es:List AV} (h:bd H b=some (.row e sz d es)) (hl:es.length=len):cW.eH H (k+1) (.sv b len lo n)= .im sz .any (((es.drop lo).take n).map (cW.eH H k)):=by
 simp only[cW.eH,h];rw[if_pos hl]
set_option maxHeartbeats 4000000 in
theorem uT (o:Nat) (l:List cN) (hl:l.length≤65536) (hok:∀e∈l,e.bg.length<9223372036854775807∧e.mem.length<9223372036854775807) (H:Hp) (nx:Nat) (ho:o<nx) (hr:∃d,bd H o=some (.row 48 3 d (l.map cN.av))):
 bw Tryz.prog 54 [.sl o l.length, .fn (.func 42) [] []] H nx (fun r H' n=>nx≤n∧(∀y,y<nx→y≠o→bd H' y=bd H y)∧(r= .sl o l.length∧(kM l l.length).length=l.length∧(∃d,bd H' o=some (.row 48 3 d ((kM l l.length).map cN.av)))∨∃es:List AV,r= .sv o l.length 0 (kM l l.length).length∧es.length=l.length∧(kM l l.length).length≤l.length∧es.take (kM l l.length).length=(kM l l.length).map cN.av∧∃d,bd H' o=some (.row 48 3 d es))):=by
 obtain⟨d0,r0'⟩:=hr
 have a0:(l.map cN.av).length=l.length:=by simp
 have same:∀i j,i<l.length→j<l.length→Pure Tryz.prog 42 [(l.getD i default).av,(l.getD j default).av] (fun r=>r=bl (decide (l.getD i default=l.getD j default))):=fun i j hi hj=>by
  obtain⟨p1,p2⟩:=hok _ (gS default hi)
  have:=qh (l.getD i default) (l.getD j default) p1 p2
  simpa only[nV] using this
 refine aO FA rfl ?_
 by_cases h2:l.length<2
 ·refine ca ?_
  have:kM l l.length=l:=by
   match l,h2 with
   |[],_=>rfl
   |[x],_=>rfl
  rw[this]
  exact⟨⟨cO,fun y y1 y2=>cE, .inl ⟨rfl,rfl,d0,bo⟩⟩⟩
 ·refine ca ?_
  refine aT (fun i:Nat=>[(0, .sl o l.length),(1, .fn (.func 42) [] []),(5,i64 i)]) (fun i H2 n=>1≤i∧i≤l.length∧nx≤n∧bd H2 o=some (.row 48 3 d0 (l.map cN.av))∧kM l i=l.take i∧∀y,y<nx→y≠o→bd H2 y=bd H y) (fun i=>l.length - i) 1 cH ⟨Nat.le_refl _,by omega,cO,bo,by rw[kM];cases l with|nil=>simp at h2|cons x t=>rfl,fun y y1 y2=>cE⟩ ?_
  clear r0'
  rintro i H2 n ⟨hi1,hi,hn,r0',hdd,hkp⟩
  by_cases hil:i<l.length
  ·have e0:∀d,(l.map cN.av).getD ((i:Int)).toNat d=(l.getD i default).av:=fun d=>by rw[Int.toNat_natCast];exact iM hil d
   have e1:∀d,(l.map cN.av).getD ((i:Int) - 1).toNat d=(l.getD (i - 1) default).av:=fun d=>by rw[show((i:Int) - 1).toNat=i - 1 by omega];exact iM (by omega) d
   have c0:=same i (i - 1) hil (by omega)
   have hsu:=uU l hi1
   by_cases he:l.getD i default=l.getD (i - 1) default
   ·rw[decide_eq_true he] at c0
    rw[if_pos he] at hsu
    refine ca ?_
    refine aT (fun σ:Nat×Nat×List cN=>[(0, .sl o l.length),(1, .fn (.func 42) [] []),(5,i64 σ.1),(6, .sv o l.length i (l.length - i)),(7,i64 σ.2.1)])
     (fun σ H2 n=>1≤σ.2.1∧i+σ.2.1≤l.length∧i≤σ.1∧σ.1+1≤i+σ.2.1∧σ.2.2.length=l.length∧(∀q,σ.1≤q→σ.2.2.getD q default=l.getD q default)∧σ.2.2.take σ.1=kM l (i+σ.2.1)∧nx≤n∧(∃d,bd H2 o=some (.row 48 3 d (σ.2.2.map cN.av)))∧∀y,y<nx→y≠o→bd H2 y=bd H y) (fun σ=>l.length - σ.2.1) (i,1,l) cH
     ⟨Nat.le_refl _,by show i+1≤l.length;omega,Nat.le_refl _,Nat.le_refl _,rfl,fun _ _=>rfl,by dsimp only;rw[hsu,hdd],cO,⟨_,bo⟩,fun y y1 y2=>Eq.trans cE (hkp y y1 y2)⟩ ?_
    clear c0 e0 e1 hsu hdd r0' hn hkp
    rintro⟨k,j,es⟩ H3 n ⟨hj1,hj,hik,hkj,hel,hsame,hdd,hn,⟨d1,r1'⟩,hkp⟩
    dsimp only at hj1 hj hik hkj hel hsame hdd r1' ⊢
    have a1:(es.map cN.av).length=l.length:=by simp[hel]
    by_cases hjl:j<l.length - i
    ·have e0:∀d,(es.map cN.av).getD (i+((j:Int)).toNat) d=(l.getD (i+j) default).av:=fun d=>by rw[Int.toNat_natCast,iM (by omega) d,hsame _ (by omega)]
     have e1:∀d,(es.map cN.av).getD (i+((j:Int) - 1).toNat) d=(l.getD (i+j - 1) default).av:=fun d=>by rw[show i+((j:Int) - 1).toNat=i+j - 1 by omega,iM (by omega) d,hsame _ (by omega)]
     have e2:∀d,(es.map cN.av).getD ((k:Int)).toNat d=(es.getD k default).av:=fun d=>by rw[Int.toNat_natCast];exact iM (by omega) d
     have c0:=same (i+j) (i+j - 1) (by omega) (by omega)
     have hsu:=uU l (k:=i+j) (by omega)
     by_cases he2:l.getD (i+j) default=l.getD (i+j - 1) default
     ·rw[decide_eq_true he2] at c0
      rw[if_pos he2] at hsu
      refine ca ?_
      exact⟨(k,j+1,es),by dsimp only;omega,cH,by dsimp only;omega,by dsimp only;omega,hik,by dsimp only;omega,hel,hsame,by dsimp only;rw[←Nat.add_assoc,hsu];exact hdd,cO,⟨d1,bo⟩,fun y y1 y2=>Eq.trans cE (hkp y y1 y2)⟩
     ·rw[decide_eq_false he2] at c0
      rw[if_neg he2] at hsu
      refine ca ?_
      refine⟨(k+1,j+1,es.set k (l.getD (i+j) default)),by dsimp only;omega,cH,by dsimp only;omega,by dsimp only;omega,by dsimp only;omega,by dsimp only;omega,by simp[hel],fun q hq=> ?_, ?_,cO,⟨d1,by dsimp only;rw[List.map_set];exact bo⟩,fun y y1 y2=>Eq.trans cE (hkp y y1 y2)⟩
      ·have hq:k+1≤q:=hq
       dsimp only
       rw[getD_set_ne (by omega)];exact hsame q (by omega)
      ·dsimp only
       rw[←Nat.add_assoc,hsu,lj (by omega),hdd]
    ·obtain rfl:j=l.length - i:=by omega
     rw[show i+(l.length - i)=l.length by omega] at hdd
     refine ca ?_
     rw[Int.toNat_natCast]
     have hkl:k≤l.length:=by omega
     have hkd:(kM l l.length).length=k:=by rw[←hdd,List.length_take,hel];omega
     generalize hZ:List.replicate (l.length - k) (gE true [Value.slice none 0 0,Value.slice none 0 0,Value.bool false])=Z
     have hZl:Z.length=l.length - k:=by rw[←hZ];simp
     rw[hkd]
     refine⟨⟨cO,fun y y1 y2=>Eq.trans cE (hkp y y1 y2), .inr ⟨(es.map cN.av).take k++Z++(es.map cN.av).drop (k+(l.length - k)),rfl, ?_,hkl, ?_,d1,bo⟩⟩⟩
     ·simp[hZl,hel];omega
     ·rw[List.append_assoc,List.take_append_of_le_length (by simp;omega),List.take_take,Nat.min_self,←List.map_take,hdd]
   ·rw[decide_eq_false he] at c0
    rw[if_neg he] at hsu
    refine ca ?_
    refine⟨i+1,by omega,cH,by omega,by omega,cO,bo, ?_,fun y y1 y2=>Eq.trans cE (hkp y y1 y2)⟩
    rw[hsu,hdd,List.take_succ_eq_append_getElem hil,show l.getD i default=l[i] by simp[List.getD,hil]]
  ·obtain rfl:i=l.length:=by omega
   rw[List.take_length] at hdd
   refine ca ?_
   rw[hdd]
   exact⟨⟨cO,fun y y1 y2=>Eq.trans cE (hkp y y1 y2), .inl ⟨rfl,rfl,d0,bo⟩⟩⟩
theorem tD (o:Nat) (l:List cN) (hl:l.length≤65536) (hok:∀e∈l,e.bg.length<9223372036854775807∧e.mem.length<9223372036854775807) (H:Hp) (nx:Nat) (ho:o<nx) (hr:∃d,bd H o=some (.row 48 3 d (l.map cN.av))):
 bw Tryz.prog 54 [.sl o l.length, .fn (.func 42) [] []] H nx (fun r H' n=>∃b,r= .sl b (kM l l.length).length∧(b=o∨nx≤b)∧b<n∧nx≤n∧(∃d,bd H' b=some (.row 48 3 d ((kM l l.length).map cN.av)))∧∀y,y<nx→y≠o→bd H' y=bd H y):=by
 refine(uT o l hl hok H nx ho hr).rt ?_
 rintro r H' n ⟨hn,hk,⟨rfl,h1,h2⟩|⟨es,rfl,h1,h2,h3,d,h4⟩⟩
 ·exact⟨_,H',n,Rt.refl _ _ _,o,by rw[h1];rfl, .inl rfl,by omega,hn,h2,hk⟩
 ·refine⟨_,_,n+1,Rt.part 0 rfl h4 h1 (by omega),n,rfl, .inr hn,by omega,by omega,⟨.any, ?_⟩,fun y y1 y2=> ?_⟩
  ·rw[List.drop_zero,h3];exact cK _ _ _
  ·exact(bh (by omega)).trans ((bh y2).trans (hk y y1 y2))
end Go.Proofs.YtlonbgdonffcbaaGreatDoor
end
section
/- The order of ends: what sorts them. -/
namespace Go.Proofs.YtlonbgdonffcbaaGreatDoor
open Go Go.cW Go.Proofs
set_option linter.unusedSimpArgs false
set_option linter.unusedVariables false
theorem tB {x y z:Int} (h1:eN x y<0) (h2:eN y z<0):eN x z<0:=by
 unfold eN at *
 repeat' split at *
 all_goals omega
theorem PD (a b c:Int):kE [a,b,c]<0↔a<0∨a=0∧(b<0∨b=0∧c<0):=by
 simp only[kE]
 repeat' split
 all_goals omega
theorem PC (a b:Int):kE [a,b]<0↔a<0∨a=0∧b<0:=by
 simp only[kE]
 repeat' split
 all_goals omega
theorem ID {p q r:cD} (h1:fP p q<0) (h2:fP q r<0):fP p r<0:=by
 unfold fP at *
 rw[PC] at *
 simp only[j5] at *
 rcases h1 with h1|⟨e1,h1⟩<;>rcases h2 with h2|⟨e2,h2⟩
 ·exact .inl (tB h1 h2)
 ·rw[←e2];exact .inl h1
 ·rw[e1];exact .inl h2
 ·exact .inr ⟨e1.trans e2,tB h1 h2⟩
theorem tC {α:Type} {f:α→α→Int} (hz:∀x y,f x y=0↔x=y) (hf:∀x y z,f x y<0→f y z<0→f x z<0):∀a b c:List α,eG f a b<0→eG f b c<0→eG f a c<0
 |[],[],_,h1,_=>by simp[eG] at h1
 |[],_::_,[],_,h2=>by simp[eG] at h2
 |[],_::_,_::_,_,_=>by simp[eG]
 |_::_,[],_,h1,_=>by simp[eG] at h1
 |_::_,_::_,[],_,h2=>by simp[eG] at h2
 |x::a,y::b,z::c,h1,h2=>by
  rw[eG] at h1 h2 ⊢
  by_cases e1:f x y=0
  ·have:=(hz _ _).1 e1
   subst this
   rw[if_pos e1] at h1
   by_cases e2:f x z=0
   ·rw[if_pos e2] at h2 ⊢
    exact tC hz hf a b c h1 h2
   ·rw[if_neg e2] at h2 ⊢
    exact h2
  ·rw[if_neg e1] at h1
   by_cases e2:f y z=0
   ·have:=(hz _ _).1 e2
    subst this
    rw[if_neg e1]
    exact h1
   ·rw[if_neg e2] at h2
    have h3:=hf _ _ _ h1 h2
    rw[if_neg (by omega)]
    exact h3
theorem H8 {a b c:cN} (h1:dz a b<0) (h2:dz b c<0):dz a c<0:=by
 unfold dz at *
 rw[PD] at *
 simp only[j6 (fun x y=>nW),j6 (fun x y=>j5)] at *
 have tp:=tC (f:=fP) (fun x y=>nW) (fun x y z=>ID) a.bg b.bg c.bg
 have ti:=tC (f:=eN) (fun x y=>j5) (fun x y z=>tB) a.mem b.mem c.mem
 have tb:rB a.ended b.ended<0→rB b.ended c.ended<0→rB a.ended c.ended<0:=by
  cases a.ended<;>cases b.ended<;>cases c.ended<;>simp[rB]
 rcases h1 with h1|⟨e1,h1⟩<;>rcases h2 with h2|⟨e2,h2⟩
 ·exact .inl (tp h1 h2)
 ·rw[←e2];exact .inl h1
 ·rw[e1];exact .inl h2
 ·refine .inr ⟨e1.trans e2, ?_⟩
  rcases h1 with h1|⟨e1',h1⟩<;>rcases h2 with h2|⟨e2',h2⟩
  ·exact .inl (ti h1 h2)
  ·rw[←e2'];exact .inl h1
  ·rw[e1'];exact .inl h2
  ·exact .inr ⟨e1'.trans e2',tb h1 h2⟩
structure jW {α:Type} (f:α→α→Int):Prop where
 neg:∀x y,f y x=-f x y
 zero:∀x y,f x y=0↔x=y
 tr:∀x y z,f x y<0→f y z<0→f x z<0
theorem iy:jW dz:=⟨CZ,fun _ _=>nV,fun _ _ _=>H8⟩
def sU {α:Type} (f:α→α→Int) (x y:α):Bool:=decide (f x y≤0)
theorem jW.N2 {α:Type} {f:α→α→Int} (h:jW f) {x y z:α} (h1:sU f x y=true) (h2:sU f y z=true):sU f x z=true:=by
 simp only[sU,decide_eq_true_eq] at *
 by_cases e1:f x y=0
 ·rw[(h.zero _ _).1 e1];exact h2
 ·by_cases e2:f y z=0
  ·rw[←(h.zero _ _).1 e2];exact h1
  ·have:=h.tr x y z (by omega) (by omega);omega
theorem jW.le_total {α:Type} {f:α→α→Int} (h:jW f) (x y:α):(sU f x y||sU f y x)=true:=by
 have:=h.neg x y
 simp only[sU,Bool.or_eq_true,decide_eq_true_eq]
 omega
theorem jW.yg {α:Type} {f:α→α→Int} (h:jW f) {x y:α} (h1:sU f x y=true) (h2:sU f y x=true):x=y:=by
 have:=h.neg x y
 simp only[sU,decide_eq_true_eq] at *
 exact(h.zero _ _).1 (by omega)
def fU {α:Type} (f:α→α→Int) (l:List α):List α:=l.mergeSort (sU f)
theorem ji {α:Type} (f:α→α→Int) (l:List α):(fU f l).length=l.length:=by simp[fU]
theorem kF {α:Type} (f:α→α→Int) (l:List α):(fU f l).Perm l:=List.mergeSort_perm _ _
theorem jW.sorted {α:Type} {f:α→α→Int} (h:jW f) (l:List α):(fU f l).Pairwise fun x y=>sU f x y=true:=
 List.pairwise_mergeSort (le:=sU f) (fun a b c h1 h2=>h.N2 h1 h2) (fun a b=>h.le_total a b) l
theorem jW.JN {α:Type} {f:α→α→Int} (h:jW f) {l l':List α} (hp:l'.Perm l) (hs:l'.Pairwise fun x y=>sU f x y=true):l'=fU f l:=
 List.Perm.eq_of_pairwise (fun a b _ _ h1 h2=>h.yg h1 h2) hs (h.sorted l) (hp.trans (kF f l).symm)
end Go.Proofs.YtlonbgdonffcbaaGreatDoor
end
