import Derived.Test.YtlonbgdonffcbaaGreatDoorM36
import Derived.Test.YtlonbgdonffcbaaGreatDoorM32
section
/- All situations: the walk. -/
namespace Go.Proofs.YtlonbgdonffcbaaGreatDoor
open Go Go.cY Go.Proofs
set_option linter.unusedSimpArgs false
set_option linter.unusedVariables false
set_option maxRecDepth 8000
abbrev iw:AV:= .sc (.slice none 0 0)
def uB (o:Obj):Option (List bw)→AV
 |none=> .dB [iw,i64 3]
 |some l=> .dB [fN o l,i64 0]
def lM (p:Bool) (o:Obj) (g:Nat):Prop:=∀s,pP o s→s.bh.length≤1048576→Pure Tryz.prog g [s.frozen o] (fun r=>r=nQ (de p o s))
theorem lX {o:Obj} (ok:cz o):lM false o 24:=fun s h hp=>A0 h.iE (h.look ok hp).bg
theorem yQ {o:Obj} (ok:cz o):lM true o 52:=fun s h hp=>yP h.iE ok (h.look ok hp) (by omega)
theorem nH {o:Obj}:∀(l:List cC) (s:bk) (x:cC),gA o s (l++[x])=(cj o (gA o s l) x.kind x.core).1
 |[],s,x=>rfl
 |y::l,s,x=>nH l _ x
theorem gl {o:Obj}:∀(l:List cC) (s:bk),(gA o s l).bh.length≤s.bh.length+l.length
 |[],s=>Nat.le_refl _
 |y::l,s=>by
  have h1:=gl (o:=o) l (cj o s y.kind y.core).1
  have h2:=lF o s y.kind y.core
  show(gA o (cj o s y.kind y.core).1 l).bh.length≤_
  rw[List.length_cons];omega
theorem wS {p:Bool} {o:Obj} {s:bk} {mv:List cC} (h:mv∈de p o s):mv≠[]:=by
 obtain⟨x,_,rfl|⟨_,_,_,rfl⟩⟩:=l7 h<;>simp
theorem zJ (H:Hp) (k:Nat) (cs:List AV):cY.eM H (k+1) (.dB cs)= .dB (cs.map (cY.eM H k)):=by simp only[cY.eM]
theorem BY {p:Bool} {o:Obj} {s:bk}:(de p o s).length≤2 * s.bg.length:=by
 have:=jo o s s.bg.length
 unfold de
 split
 ·rw[List.length_map]
  exact Nat.le_trans (List.length_filter_le _ _) this
 ·rw[List.length_map];exact this
theorem I0 {o:Obj} (ho:o.Wf) (h:fC o=false) (most:Int) (g:Nat):Pure Tryz.prog 30 [o.av,i64 most, .fn (.func g) [] []] (fun r=>r= .dB [iw,i64 160]):=by
 obtain⟨k,n,hk⟩:=AP h
 have c0:=jz o ho
 rw[hk] at c0
 refine cq ?_ (by simp[cJ,cB])
 refine aO xy rfl ?_
 refine rY ?_
 exact⟨by simp[eK,cJ,cB,cY.eM]⟩
theorem AG {o:Obj} (ho:o.Wf) (h:fC o=true) (most:Int) (hm:¬(1≤most∧most≤65536)) (g:Nat):Pure Tryz.prog 30 [o.av,i64 most, .fn (.func g) [] []] (fun r=>r= .dB [iw,i64 2]):=by
 have c0:=jz o ho
 rw[qN h] at c0
 refine cq ?_ (by simp[cJ,cB])
 refine aO xy rfl ?_
 by_cases h1:most<1
 ·refine rY ?_
  exact⟨by simp[eK,cJ,cB,cY.eM]⟩
 ·have h2:65536<most:=by omega
  refine rY ?_
  exact⟨by simp[eK,cJ,cB,cY.eM]⟩
set_option maxHeartbeats 4000000 in
theorem DE {p:Bool} {o:Obj} (ho:o.Wf) (h:fC o=true) {g:Nat} (hg:lM p o g) (most:Int) (hm:1≤most∧most≤65536):Pure Tryz.prog 30 [o.av,i64 most, .fn (.func g) [] []] (fun r=>r=uB o (mF p o most.toNat)):=by
 obtain⟨mo,rfl⟩:∃mo:Nat,most=mo:=⟨most.toNat,by omega⟩
 rw[Int.toNat_natCast]
 have ok:=nU h
 have hw:=ho.words
 have c0:=jz o ho
 rw[qN h] at c0
 refine cq ?_ (by cases mF p o mo<;>simp[uB,cJ,cB];exact gh o _)
 refine aO xy rfl ?_
 have hF:=gw.init (p:=p) ok hw
 have hm0:=(hF.ok 0 hF.pos).1
 have hm0':(List.getD (eu o) 0 default).m=cZ o:=rfl
 rw[hm0'] at hm0
 have g0:BZ true (Value.string (sH (eD (cZ o)))) [] (i64 1)=some (lB (eu o)):=rfl
 have h65:(65536:Int)<mo→False:=by omega
 refine rY ?_
 refine aP (yE ho ok h) ?_
 rintro r H1 n1 ⟨L,rfl,hM,hn1,hlt,hk1⟩
 refine ca ?_
 refine aX (E4 hm0 ok (by simp[cZ])) (args2:=[(cZ o).frozen o]) ?_ (by simp[cJ,ic]) trivial ?_
 ·rw[List.map_cons,List.map_nil]
  congr 1
  exact(hM.dS (fun y hy=>by have:=hlt y hy;have:=hM.lt y hy;exact cA) (Nat.le_refl _)).eM
 refine ca ?_
 have hno:∀y,y<20∨n1≤y→y∉L.ids:=fun y hy hm=>by
  have h1:=hlt y hm
  have h2:=hM.lt y hm
  omega
 refine aQ (fun σ:Nat×List bw=>[(1,i64 mo),(2, .fn (.func g) [] []),(13, .sl (n1+7) σ.2.length),(14, .mp (n1+9)),(15,i64 σ.1)])
  (fun σ H n=>σ.1≤σ.2.length∧σ.2.length≤mo∧gw p o σ.2∧rZ p o mo (mo - σ.1) σ.1 σ.2=mF p o mo∧n1+15≤n∧(∃d,bf H (n1+7)=some (.row 85 3 d (σ.2.map (bw.av o))))∧(∃e d,bf H (n1+9)=some (.row e 0 d (mapA (lB σ.2))))) (fun σ=>mo - σ.1) (0,eu o)
  ⟨_,_,_,Rt.wk (sk (lb:=n1+7) (l:=[]) (fr:=-1) (mv:=[]) (hM.dS ?_ (Nat.le_refl _)) ?_ bo (hno _ (by omega))),cG,Nat.zero_le _,by show 1≤mo;omega,hF,rfl,cO,⟨_,(dn (hno _ (by omega))).trans bo⟩,⟨_,_,(dn (hno _ (by omega))).trans bo⟩⟩ ?_
 ·intro y hy
  have:=hlt y hy
  have:=hM.lt y hy
  exact cA
 ·exact ff _ (EA 0 [])
 clear hM hlt hk1 hno
 rintro⟨k,l⟩ H n ⟨hk,hl,hfs,hall,hn,⟨d1,r1'⟩,⟨e2,d2,r2'⟩⟩
 dsimp only at hk hl hfs hall r1' r2' ⊢
 have a0:(l.map (bw.av o)).length=l.length:=List.length_map _
 by_cases hkl:k<l.length
 ·have e0:∀d,(l.map (bw.av o)).getD ((k:Int)).toNat d=(l.getD k default).av o:=fun d=>by rw[Int.toNat_natCast];exact dR (bw.av o) l k d hkl
  have hmk:mo - k=(mo - (k+1))+1:=by omega
  rw[hmk,rZ,if_pos hkl] at hall
  obtain⟨hmok,hpl⟩:=hfs.ok k hkl
  generalize hmm:(l.getD k default).m=m at hmok hpl hall
  have e0':∀d,(l.map (bw.av o)).getD ((k:Int)).toNat d= .agg [m.frozen o,i64 (l.getD k default).from_,kj (l.getD k default).xE]:=fun d=>by rw[e0 d,←hmm];rfl
  clear e0
  have e0:=e0'
  have c1:=hg m hmok (by omega)
  simp only[bk.frozen] at c1
  have hsub:∀mv∈de p o m,mv∈de p o m:=fun mv h=>h
  have hfew:=BY (p:=p) (o:=o) (s:=m)
  generalize hms:de p o m=ms at c1 hall hfew
  replace hsub:∀mv∈ms,mv∈de p o m:=fun mv h=>by rw[hms];exact h
  refine ca ?_
  have hlk:=hmok.look ok (by omega)
  have hc8:=hlk.bg
  have hfrom:(l.getD k default).from_=(l.getD k default).from_:=rfl
  generalize (l.getD k default).from_=fr0 at e0 e0'
  generalize (l.getD k default).xE=by0 at e0 e0'
  clear hfrom
  refine aQ (fun σ:Nat×List bw=>[(1,i64 mo),(2, .fn (.func g) [] []),(13, .sl (n1+7) σ.2.length),(14, .mp (n1+9)),(15,i64 k),(61,nQ ms),(62,i64 ms.length),(63,i64 σ.1)])
   (fun σ H n=>σ.1≤ms.length∧k<σ.2.length∧σ.2.length≤mo∧gw p o σ.2∧(σ.2.getD k default).m=m∧(match ru o mo k (ms.drop σ.1) σ.2 with
    |none=>none
    |some l2=>rZ p o mo (mo - (k+1)) (k+1) l2)=mF p o mo∧n1+15≤n∧(∃d,bf H (n1+7)=some (.row 85 3 d (σ.2.map (bw.av o))))∧(∃e d,bf H (n1+9)=some (.row e 0 d (mapA (lB σ.2))))) (fun σ=>ms.length - σ.1) (0,l)
   ⟨_,_,_,Rt.refl _ _ _,(by rw[List.length_map];exact cG),Nat.zero_le _,hkl,hl,hfs,hmm,hall,cO,⟨_,bo⟩,⟨_,_,bo⟩⟩ ?_
  clear e0 e0' a0 r1' r2' hall hfs hl hkl hn hmm
  rintro⟨t,l⟩ H n ⟨ht,hkl,hl,hfs,hmm,hall,hn,⟨d1,r1'⟩,⟨e2,d2,r2'⟩⟩
  dsimp only at ht hkl hl hfs hmm hall r1' r2' ⊢
  have a0:(l.map (bw.av o)).length=l.length:=List.length_map _
  have a1:(ms.map jC).length=ms.length:=List.length_map _
  by_cases htl:t<ms.length
  ·have e1:∀d,(ms.map jC).getD ((t:Int)).toNat d=jC (ms.getD t default):=fun d=>by rw[Int.toNat_natCast];exact dR jC ms t d htl
   have e0:∀d,(l.map (bw.av o)).getD ((k:Int)).toNat d= .agg [m.frozen o,i64 (l.getD k default).from_,kj (l.getD k default).xE]:=fun d=>by rw[Int.toNat_natCast,dR (bw.av o) l k d hkl,←hmm];rfl
   have hmv:=hsub _ (fu default htl)
   rw[show ms.drop t=ms.getD t default::ms.drop (t+1) by rw[List.drop_eq_getElem_cons htl];simp[List.getD,htl],ru] at hall
   generalize ms.getD t default=mv at e1 hmv hall
   have hml:=tE hmv
   refine ca ?_
   refine aP (q6 (o:=o) (s:=m) hlk _ _) ?_
   rintro r H2 n2 ⟨L2,rfl,hM2,hlt2,hn2,hk2⟩
   have hlt2:∀x∈L2.ids,n+9≤x:=hlt2
   have hn2:n+9≤n2:=hn2
   have hk2:∀y,y<n+9→bf H2 y=bf H y:=fun y hy=>(hk2 y hy).trans cA
   replace r1':=(hk2 (n1+7) (by omega)).trans r1'
   replace r2':=(hk2 (n1+9) (by omega)).trans r2'
   clear hk2
   have a2:(mv.map cC.av).length=mv.length:=List.length_map _
   refine ca ?_
   refine aQ (fun σ:Nat×Lay=>[(1,i64 mo),(2, .fn (.func g) [] []),(13, .sl (n1+7) l.length),(14, .mp (n1+9)),(15,i64 k),(17,jC mv),(18, .pt σ.2.m 1 0 0),(61,nQ ms),(62,i64 ms.length),(63,i64 t),(73,jC mv),(74,i64 mv.length),(75,i64 σ.1)])
    (fun σ H n3=>σ.1≤mv.length∧n+9≤n3∧fS o (gA o m (mv.take σ.1)) σ.2 H n3∧(∀x∈σ.2.ids,n+9≤x)∧(∃d,bf H (n1+7)=some (.row 85 3 d (l.map (bw.av o))))∧(∃e d,bf H (n1+9)=some (.row e 0 d (mapA (lB l))))) (fun σ=>mv.length - σ.1) (0,L2)
    ⟨_,_,_,Rt.refl _ _ _,(by rw[List.length_map];exact cG),Nat.zero_le _,cO,hM2.dS ?_ cO,hlt2,⟨_,bo⟩,⟨_,_,bo⟩⟩ ?_
   ·intro y hy
    have:=hM2.lt y hy
    exact cA
   clear hM2 hlt2 r1' r2' hn2
   rintro⟨i,L⟩ H n3 ⟨hi,hn3,hM,hlt,⟨d1,r1'⟩,⟨e2,d2,r2'⟩⟩
   dsimp only at hi hM hlt ⊢
   have hgp:=gl (o:=o) (mv.take i) m
   rw[List.length_take] at hgp
   have hgo:=EH ok hw (mv.take i) hmok
   by_cases hil:i<mv.length
   ·have e2:∀d,(mv.map cC.av).getD ((i:Int)).toNat d=(mv.getD i default).av:=fun d=>by rw[Int.toNat_natCast];exact dR _ _ _ d hil
    have hsn:gA o m (mv.take (i+1))=(cj o (gA o m (mv.take i)) (mv.getD i default).kind (mv.getD i default).core).1:=by
     rw[List.take_succ_eq_append_getElem hil,nH,show mv.getD i default=mv[i] by simp[List.getD,hil]]
    generalize mv.getD i default=x at e2 hsn
    refine ca ?_
    refine aP (lj (hM.dS ?_ cO) hgo.iE ok (by omega) x.kind x.core) ?_
    ·intro y hy
     have:=hM.lt y hy
     exact cA
    rintro r H3 n4 ⟨rfl,hn4,⟨L3,hM3,hmo3⟩,hk3⟩
    have hno:∀y,y<n+9→y∉L.ids:=fun y hy hm=>by have:=hlt y hm;omega
    replace r1':=(hk3 (n1+7) (by omega) (hno _ (by omega))).trans (Eq.trans cA r1')
    replace r2':=(hk3 (n1+9) (by omega) (hno _ (by omega))).trans (Eq.trans cA r2')
    have hid3:=hmo3.ids
    replace hM3:fS o (gA o m (mv.take (i+1))) L3 H3 n4:=by rw[hsn];exact hM3
    clear hk3
    refine ca ?_
    refine⟨(i+1,L3),by dsimp only;omega,_,_,_,Rt.refl _ _ _,by dsimp only;rw[hmo3.m];exact cG,by dsimp only;omega,cO,hM3.dS ?_ cO, ?_,⟨_,bo⟩,⟨_,_,bo⟩⟩
    ·intro y hy
     have:=hM3.lt y hy
     exact cA
    ·intro y hy
     rcases hid3 y hy with h|h
     ·exact hlt y h
     ·have h:n3+7≤y:=h
      omega
   ·obtain rfl:i=mv.length:=by omega
    rw[List.take_length] at hM hgo hgp
    have htry:CT o mo k mv l=if eD (gA o m mv)∈ed l then some l else if mo≤l.length then none else some (l++[⟨gA o m mv,k,mv⟩]):=by
     unfold CT
     rw[hmm]
    rw[htry] at hall
    have hput:=fun(h:eD (gA o m mv)∉ed l)=>BJ (l:=l) (m:=gA o m mv) (a:=k) (b:=mv) h
    have hadd:=fun(h:eD (gA o m mv)∉ed l)=>hfs.add (mv:=mv) ok hw hkl (by rw[hmm];exact hmv) (by rw[hmm];exact h)
    rw[hmm] at hadd
    have hkey:=E4 hgo ok (by omega)
    generalize gA o m mv=m2 at *
    have hget:=M6 E3 i64 (sH (eD m2)) (ij l) (i64 0)
    rw[ql] at hget
    have hno:∀y,y<n+9∨n3≤y→y∉L.ids:=fun y hy hm=>by
     have h1:=hlt y hm
     have h2:=hM.lt y hm
     omega
    by_cases hin:eD m2∈ed l
    ·rw[if_pos hin] at hget hall
     have g0:yC true (Value.string (sH (eD m2))) (lB l) (i64 0)=some (i64 1,true):=hget
     refine ca ?_
     refine aX hkey (args2:=[m2.frozen o]) ?_ (by simp[cJ,ic]) trivial ?_
     ·rw[List.map_cons,List.map_nil]
      congr 1
      exact(hM.dS (fun y hy=>by have:=hM.lt y hy;exact cA) (Nat.le_refl _)).eM
     refine ca ?_
     exact⟨(t+1,l),by dsimp only;omega,_,_,_,Rt.refl _ _ _,cG,by dsimp only;omega,hkl,hl,hfs,hmm,hall,cO,⟨_,bo⟩,⟨_,_,bo⟩⟩
    ·rw[if_neg hin] at hget hall
     have g0:yC true (Value.string (sH (eD m2))) (lB l) (i64 0)=some (i64 0,false):=hget
     by_cases hfull:mo≤l.length
     ·rw[if_pos hfull] at hall
      refine ca ?_
      refine aX hkey (args2:=[m2.frozen o]) ?_ (by simp[cJ,ic]) trivial ?_
      ·rw[List.map_cons,List.map_nil]
       congr 1
       exact(hM.dS (fun y hy=>by have:=hM.lt y hy;exact cA) (Nat.le_refl _)).eM
      refine ca ?_
      have hall2:none=mF p o mo:=hall
      rw[←hall2]
      exact⟨by simp[uB,cY.eM]⟩
     ·rw[if_neg hfull] at hall
      have g1:BZ true (Value.string (sH (eD m2))) (lB l) (i64 1)=some (lB (l++[⟨m2,k,mv⟩])):=by
       have:=M9 E3 i64 (sH (eD m2)) 1 (ij l)
       rw[hput hin] at this
       exact this
      refine ca ?_
      refine aX hkey (args2:=[m2.frozen o]) ?_ (by simp[cJ,ic]) trivial ?_
      ·rw[List.map_cons,List.map_nil]
       congr 1
       exact(hM.dS (fun y hy=>by have:=hM.lt y hy;exact cA) (Nat.le_refl _)).eM
      refine ca ?_
      refine⟨(t+1,l++[⟨m2,k,mv⟩]),by dsimp only;omega,_,_,_,Rt.wk (sk (L:=L) (lb:=n1+7) (l:=l) (fr:=k) (mv:=mv) (hM.dS ?_ (Nat.le_refl _)) ?_ bo (hno _ (by omega))),cG,by dsimp only;omega,by dsimp only;rw[List.length_append];omega,by dsimp only;simp only[List.length_append,List.length_cons,List.length_nil];omega,hadd hin,by dsimp only;rw[iN hkl];exact hmm,hall,cO,⟨_,(dn (hno _ (by omega))).trans bo⟩,⟨_,_,(dn (hno _ (by omega))).trans bo⟩⟩
      ·intro y hy
       have:=hlt y hy
       have:=hM.lt y hy
       exact cA
      ·rw[DQ (wS hmv)]
       exact ff _ (by simp[cB,cJ,cI])
  ·have htG:t=ms.length:=by omega
   subst htG
   rw[List.drop_of_length_le (Nat.le_refl _),ru] at hall
   refine ca ?_
   exact⟨(k+1,l),by dsimp only;omega,_,_,_,Rt.refl _ _ _,cG,by dsimp only;omega,hl,hfs,hall,cO,⟨_,bo⟩,⟨_,_,bo⟩⟩
 ·have hk2:k=l.length:=by omega
  refine ca ?_
  have hl2:mF p o mo=some l:=by
   rw[←hall]
   subst hk2
   cases h:mo - l.length with
   |zero=>rfl
   |succ q=>rw[rZ,if_neg (by omega)]
  rw[hl2]
  refine⟨?_⟩
  refine(zJ _ _ _).trans ?_
  rw[List.map_cons,List.map_cons,List.map_nil]
  rw[mN (k:=4) bo a0,eK _ (gh o l)]
  rfl
end Go.Proofs.YtlonbgdonffcbaaGreatDoor
end
section
/- Ends compared: plain data, the small functions of the code. -/
namespace Go.Proofs.YtlonbgdonffcbaaGreatDoor
open Go Go.cY Go.Proofs
set_option linter.unusedSimpArgs false
set_option linter.unusedVariables false
structure cL where
 bh:List cH
 mem:List Int
 ended:Bool
 deriving Inhabited,DecidableEq
def cL.cells (e:cL):List AV:=[eA e.bh,jZ e.mem,bl e.ended]
abbrev cL.av (e:cL):AV:= .agg e.cells
@[simp] theorem PT (n:Nat) (e:cL):cJ n e.cells:=by simp[cL.cells,cJ,cB,cI]
def eR (x y:Int):Int:=if x<y then -1 else if y<x then 1 else 0
def kN:List Int→Int
 |[]=>0
 |x::l=>if x=0 then kN l else x
def fT (p q:cH):Int:=kN [eR p.cn q.cn,eR p.word q.word]
def eL {α:Type} (f:α→α→Int):List α→List α→Int
 |[],[]=>0
 |[],_::_=>-1
 |_::_,[]=>1
 |x::a,y::b=>if f x y=0 then eL f a b else f x y
def rh (a b:Bool):Int:=if a=b then 0 else if b then -1 else 1
def dy (a b:cL):Int:=kN [eL fT a.bh b.bh,eL eR a.mem b.mem,rh a.ended b.ended]
theorem pV {α:Type} (f:α→α→Int) (d:α) {a b:List α} {i:Nat} (h1:i<a.length) (h2:i<b.length):eL f (a.drop i) (b.drop i)=if f (a.getD i d) (b.getD i d)=0 then eL f (a.drop (i+1)) (b.drop (i+1)) else f (a.getD i d) (b.getD i d):=by
 rw[List.drop_eq_getElem_cons h1,List.drop_eq_getElem_cons h2,eL]
 simp[List.getD,List.getElem?_eq_getElem h1,List.getElem?_eq_getElem h2]
theorem mr {α:Type} (f:α→α→Int) {a b:List α} {i:Nat} (h1:i<a.length) (h2:b.length≤i):eL f (a.drop i) (b.drop i)=1:=by
 rw[List.drop_eq_getElem_cons h1,List.drop_of_length_le h2,eL]
theorem mq {α:Type} (f:α→α→Int) {a b:List α} {i:Nat} (h1:a.length≤i) (h2:i≤b.length):eL f (a.drop i) (b.drop i)=if i<b.length then -1 else 0:=by
 rw[List.drop_of_length_le h1]
 split
 ·rename_i h;rw[List.drop_eq_getElem_cons h,eL]
 ·rw[List.drop_of_length_le (by omega),eL]
theorem zf (x:Int):Pure Tryz.prog 67 [i64 x] (fun r=>r=bl false):=by
 refine aI GD rfl ?_
 refine ca ?_
 refine lr ?_
 simp
theorem wT (x:Int):Pure Tryz.prog 68 [i64 x] (fun r=>r=bl false):=by
 refine aI GF rfl ?_
 refine ca ?_
 refine lr ?_
 simp
theorem DU (x y:Int):Pure Tryz.prog 46 [i64 x,i64 y] (fun r=>r=i64 (eR x y)):=by
 have c0:=zf x
 have c1:=zf y
 unfold eR
 by_cases h:x<y
 ·rw[if_pos h]
  refine aI xz rfl ?_
  refine ca ?_
  first|exact rfl|trivial
 ·rw[if_neg h]
  by_cases h2:y<x
  ·rw[if_pos h2]
   refine aI xz rfl ?_
   refine ca ?_
   first|exact rfl|trivial
  ·rw[if_neg h2]
   refine aI xz rfl ?_
   refine ca ?_
   first|exact rfl|trivial
theorem sO (x y:Int):Pure Tryz.prog 47 [i64 x,i64 y] (fun r=>r=i64 (eR x y)):=by
 have c0:=wT x
 have c1:=wT y
 unfold eR
 by_cases h:x<y
 ·rw[if_pos h]
  refine aI yA rfl ?_
  refine ca ?_
  first|exact rfl|trivial
 ·rw[if_neg h]
  by_cases h2:y<x
  ·rw[if_pos h2]
   refine aI yA rfl ?_
   refine ca ?_
   first|exact rfl|trivial
  ·rw[if_neg h2]
   refine aI yA rfl ?_
   refine ca ?_
   first|exact rfl|trivial
theorem HI {l:List Int} {i:Nat} (h:i<l.length):kN (l.drop i)=if l.getD i 0=0 then kN (l.drop (i+1)) else l.getD i 0:=by
 rw[List.drop_eq_getElem_cons h,kN]
 simp[List.getD,List.getElem?_eq_getElem h]
theorem wZ (l:List Int) (hl:l.length≤1000):Pure Tryz.prog 45 [jZ l] (fun r=>r=i64 (kN l)):=by
 refine aI FZ rfl ?_
 refine ca ?_
 rw[List.length_map]
 refine aT (fun i:Nat=>[(3,i64 0),(6,jZ l),(7,i64 l.length),(8,i64 i)]) (fun i H n=>i≤l.length∧kN l=kN (l.drop i)) (fun i=>l.length - i) 0 cG ⟨Nat.zero_le _,rfl⟩ ?_
 rintro i H n ⟨hi,ho⟩
 rw[ho]
 by_cases hil:i<l.length
 ·have e0:=fun d=>ints_at (l:=l) hil d
  have a0:(l.map i64).length=l.length:=by simp
  have hd:=HI hil
  by_cases hz:l.getD i 0=0
  ·have r0:=hz
   rw[if_pos hz] at hd
   refine ca ?_
   exact⟨i+1,by omega,cG,by omega,hd⟩
  ·have r0:=decide_eq_true hz
   rw[if_neg hz] at hd
   refine ca ?_
   rw[hd]
 ·rw[List.drop_of_length_le (by omega)]
  refine ca ?_
  first|exact rfl|trivial
end Go.Proofs.YtlonbgdonffcbaaGreatDoor
end
section
/- A result that is part of a row gets a row of its own; what stands over at an end. -/
namespace Go.cY
open Go.RowKit
theorem bz.rt {P:Program} {f:FuncId} {args:List AV} {H:Hp} {nx:Nat} {R R2:AV→Hp→Nat→Prop} (h:bz P f args H nx R) (hR:∀r H' n,R r H' n→∃fr2 H2 n2,Rt [(0,r)] H' n fr2 H2 n2∧R2 (cM fr2 0) H2 n2):bz P f args H nx R2:=by
 refine⟨h.1,fun w0 c vs a1 a2 a3 a4=>(h.2 w0 c vs a1 a2 a3 a4).mono ?_⟩
 rintro e w' ⟨v,r,H',nx',ρ,U,rfl,hRr,hU,hS,hle,hv⟩
 obtain⟨fr2,H2,n2,hw,hR2⟩:=hR r H' nx' hRr
 have hh:Holds w0 c.M0 ⟨ρ,bf H',U,w',c.M0⟩ nx' 1 [(0,r)] H' nx' ⟨#[v],[]⟩ w':=by
  refine⟨rfl,rfl,ρ,U,hU,hS,fun t=> ?_,⟨hU,Cx.le.refl _⟩⟩
  by_cases ht:t=0
  ·subst ht;exact hv
  ·have:cM [(0,r)] t= .any:=by simp[cM,ht]
   rw[this];exact cc.any _ _ _ _ (by rw[VR];trivial)
 obtain⟨_,_,ρ2,U2,k1,k2,k3,k4⟩:=hw _ _ _ _ _ _ _ hh
 exact⟨v,_,H2,n2,ρ2,U2,rfl,hR2,k1,k2,hle.trans k4.2,k3 0⟩
end Go.cY
namespace Go.Proofs.YtlonbgdonffcbaaGreatDoor
open Go Go.cY Go.Proofs
set_option linter.unusedSimpArgs false
set_option linter.unusedVariables false
set_option maxRecDepth 8000
def jl (o:Obj) (s:bk):cL:=⟨s.bh,s.mem.take o.shared.toNat,true⟩
theorem zj {o:Obj} {s:bk} (hlk:eH s) (hs:0≤o.shared∧o.shared≤s.mem.length):Pure Tryz.prog 49 [o.av,s.frozen o] (fun r=>r=(jl o s).av):=by
 have c1:=oR o s hlk.mem
 have c2:=la o s hlk.bh
 simp only[bk.frozen] at c1 c2 ⊢
 refine cq ?_ (by simp[cB])
 refine aO F1 rfl ?_
 have hm:(s.mem.map i64).length=s.mem.length:=List.length_map _
 refine ca ?_
 refine⟨?_⟩
 have h1:cJ 0 ((s.mem.map i64).take o.shared.toNat):=by rw[←List.map_take];exact(cI _ _).2 fun _ _=>by simp[cB]
 show cY.eM _ 6 (.agg [.im 2 .any (s.bh.map cH.av), .im 1 .any ((s.mem.map i64).take o.shared.toNat), .sc (.bool true)])=_
 rw[lY _ (by simp[cB,cJ,cI,h1]),←List.map_take]
 rfl
end Go.Proofs.YtlonbgdonffcbaaGreatDoor
end
section
/- Ends compared: the code's Compare and Same. -/
namespace Go.Proofs.YtlonbgdonffcbaaGreatDoor
open Go Go.cY Go.Proofs
set_option linter.unusedSimpArgs false
set_option linter.unusedVariables false
theorem AQ (p q:cH):Pure Tryz.prog 44 [p.av,q.av] (fun r=>r=i64 (fT p q)):=by
 have c0:=DU p.cn q.cn
 have c1:=sO p.word q.word
 have c2:=wZ [eR p.cn q.cn,eR p.word q.word] (by simp)
 refine aI FY rfl ?_
 refine ca ?_
 refine aX (args2:=[jZ [eR p.cn q.cn,eR p.word q.word]]) (r:=i64 (fT p q)) c2 rfl (by simp[cJ,cB]) trivial ?_
 refine ca ?_
 first|exact rfl|trivial
theorem iU {l:List cH} {i:Nat} (h:i<l.length) (d:AV):(l.map cH.av).getD ((i:Int)).toNat d=(l.getD i default).av:=by
 rw[Int.toNat_natCast];exact dR cH.av l i d h
theorem xT (a b:List cH) (ha:a.length<9223372036854775807):Pure Tryz.prog 43 [eA a,eA b, .fn (.func 44) [] []] (fun r=>r=i64 (eL fT a b)):=by
 refine aI FX rfl ?_
 refine ca ?_
 rw[List.length_map]
 refine aT (fun i:Nat=>[(0,eA a),(1,eA b),(2, .fn (.func 44) [] []),(11,eA a),(12,i64 a.length),(13,i64 i)]) (fun i H n=>i≤a.length∧i≤b.length∧eL fT a b=eL fT (a.drop i) (b.drop i)) (fun i=>a.length - i) 0 cG ⟨Nat.zero_le _,Nat.zero_le _,rfl⟩ ?_
 rintro i H n ⟨hi,hib,ho⟩
 rw[ho]
 have a0:(a.map cH.av).length=a.length:=by simp
 have a1:(b.map cH.av).length=b.length:=by simp
 by_cases hil:i<a.length
 ·have e0:=fun d=>iU hil d
  by_cases hbl:i<b.length
  ·have e1:=fun d=>iU hbl d
   have hd:=pV fT default hil hbl
   have c0:=AQ (a.getD i default) (b.getD i default)
   generalize a.getD i default=p at *
   generalize b.getD i default=q at *
   by_cases hz:fT p q=0
   ·have r0:=hz
    rw[if_pos hz] at hd
    refine ca ?_
    exact⟨i+1,by omega,cG,by omega,by omega,hd⟩
   ·have r0:=decide_eq_true hz
    rw[if_neg hz] at hd
    refine ca ?_
    rw[hd]
  ·rw[mr fT hil (by omega)]
   refine ca ?_
   first|exact rfl|trivial
 ·obtain rfl:i=a.length:=by omega
  rw[mq fT (Nat.le_refl _) hib]
  by_cases h:a.length<b.length
  ·rw[if_pos h]
   refine ca ?_
   first|exact rfl|trivial
  ·rw[if_neg h]
   refine ca ?_
   first|exact rfl|trivial
theorem xR (a b:List Int) (ha:a.length<9223372036854775807):Pure Tryz.prog 48 [jZ a,jZ b] (fun r=>r=i64 (eL eR a b)):=by
 refine aI F0 rfl ?_
 refine ca ?_
 rw[List.length_map]
 refine aT (fun i:Nat=>[(0,jZ a),(1,jZ b),(9,jZ a),(10,i64 a.length),(11,i64 i)]) (fun i H n=>i≤a.length∧i≤b.length∧eL eR a b=eL eR (a.drop i) (b.drop i)) (fun i=>a.length - i) 0 cG ⟨Nat.zero_le _,Nat.zero_le _,rfl⟩ ?_
 rintro i H n ⟨hi,hib,ho⟩
 rw[ho]
 have a0:(a.map i64).length=a.length:=by simp
 have a1:(b.map i64).length=b.length:=by simp
 by_cases hil:i<a.length
 ·have e0:=fun d=>ints_at hil d
  by_cases hbl:i<b.length
  ·have e1:=fun d=>ints_at hbl d
   have hd:=pV eR 0 hil hbl
   have c0:=sO (a.getD i 0) (b.getD i 0)
   generalize a.getD i 0=p at *
   generalize b.getD i 0=q at *
   by_cases hz:eR p q=0
   ·have r0:=hz
    rw[if_pos hz] at hd
    refine ca ?_
    exact⟨i+1,by omega,cG,by omega,by omega,hd⟩
   ·have r0:=decide_eq_true hz
    rw[if_neg hz] at hd
    refine ca ?_
    rw[hd]
  ·rw[mr eR hil (by omega)]
   refine ca ?_
   first|exact rfl|trivial
 ·obtain rfl:i=a.length:=by omega
  rw[mq eR (Nat.le_refl _) hib]
  by_cases h:a.length<b.length
  ·rw[if_pos h]
   refine ca ?_
   first|exact rfl|trivial
  ·rw[if_neg h]
   refine ca ?_
   first|exact rfl|trivial
theorem nw (a b:cL) (h1:a.bh.length<9223372036854775807) (h2:a.mem.length<9223372036854775807):Pure Tryz.prog 18 [a.av,b.av] (fun r=>r=i64 (dy a b)):=by
 have c0:=xT a.bh b.bh h1
 have c1:=xR a.mem b.mem h2
 have c2:=wZ [eL fT a.bh b.bh,eL eR a.mem b.mem,rh a.ended b.ended] (by simp)
 obtain⟨ap,am,ae⟩:=a
 obtain⟨bp,bm,be⟩:=b
 cases ae<;>cases be<;>(refine aI FC rfl ?_;refine ca ?_;refine aX (args2:=[jZ [eL fT ap bp,eL eR am bm,_]]) (r:=i64 (kN [eL fT ap bp,eL eR am bm,_])) c2 rfl (by simp[cJ,cB]) trivial ?_;refine ca ?_;first|exact rfl|trivial)
theorem mQ (a b:cL) (h1:a.bh.length<9223372036854775807) (h2:a.mem.length<9223372036854775807):Pure Tryz.prog 42 [a.av,b.av] (fun r=>r=bl (decide (dy a b=0))):=by
 have c0:=nw a b h1 h2
 refine aI FW rfl ?_
 refine ca ?_
 refine lr ?_
 simp
end Go.Proofs.YtlonbgdonffcbaaGreatDoor
end
section
/- Ends compared: the document's Compare; the plain laws. -/
namespace Go.Proofs.YtlonbgdonffcbaaGreatDoor
open Go Go.cY Go.Proofs
set_option linter.unusedSimpArgs false
set_option linter.unusedVariables false
theorem rE (b:Bool):Pure Tryz.prog 51 [bl b] (fun r=>r=i64 (if b then -1 else 1)):=by
 cases b<;>(refine aI F3 rfl ?_;refine ca ?_;first|exact rfl|trivial)
theorem jk {x:Bool} {v:Int} (h:(if x=true then -1 else 1)=v):Pure Tryz.prog 51 [bl x] (fun r=>r=i64 v):=by
 have:=rE x
 rw[h] at this
 exact this
theorem JD {p q:cH} (h:p.cn<q.cn∨p.cn=q.cn∧p.word<q.word):fT p q=-1:=by
 unfold fT eR
 simp only[kN]
 repeat' (first|omega|split)
theorem JC {p q:cH} (h:¬(p.cn<q.cn∨p.cn=q.cn∧p.word<q.word)) (hne:¬(p.cn=q.cn∧p.word=q.word)):fT p q=1:=by
 unfold fT eR
 simp only[kN]
 repeat' (first|omega|split)
theorem JB {p q:cH} (h:p.cn=q.cn∧p.word=q.word):fT p q=0:=by
 unfold fT eR
 simp only[kN]
 repeat' (first|omega|split)
theorem JA {x y:Int} (h:x≠y):eR x y=if x<y then -1 else 1:=by
 unfold eR;split
 ·rfl
 ·rw[if_pos (by omega)]
theorem yy (x:Int):eR x x=0:=by unfold eR;simp
set_option maxHeartbeats 1000000 in
theorem rG (a b:cL) (h1:a.bh.length<9223372036854775807) (h2:a.mem.length<9223372036854775807):Pure Tryz.prog 20 [a.av,b.av] (fun r=>r=i64 (dy a b)):=by
 have a0:(a.bh.map cH.av).length=a.bh.length:=by simp
 have a1:(b.bh.map cH.av).length=b.bh.length:=by simp
 have a2:(a.mem.map i64).length=a.mem.length:=by simp
 have a3:(b.mem.map i64).length=b.mem.length:=by simp
 refine aI FD rfl ?_
 refine ca ?_
 refine aT (fun i:Nat=>[(2, .pt 0 1 0 0),(3, .pt 1 1 0 0),(5,i64 i)]) (fun i H n=>2≤n∧(∃d,bf H 0=some (.row 48 3 d [a.av]))∧(∃d,bf H 1=some (.row 48 3 d [b.av]))∧i≤a.bh.length∧i≤b.bh.length∧eL fT a.bh b.bh=eL fT (a.bh.drop i) (b.bh.drop i)) (fun i=>a.bh.length - i) 0 cG ⟨cO,⟨_,bo⟩,⟨_,bo⟩,Nat.zero_le _,Nat.zero_le _,rfl⟩ ?_
 rintro i H n ⟨hn,⟨d0,r0⟩,⟨d1,r1⟩,hi,hib,ho⟩
 by_cases hil:i<a.bh.length
 ·have e0:=fun d=>iU hil d
  by_cases hbl:i<b.bh.length
  ·have e1:=fun d=>iU hbl d
   have hd:=pV fT default hil hbl
   generalize a.bh.getD i default=p at *
   generalize b.bh.getD i default=q at *
   have g0:=decide_eq_true hil
   have g1:=decide_eq_true hbl
   by_cases hlt:p.cn<q.cn∨p.cn=q.cn∧p.word<q.word
   ·have hc:=JD hlt
    have hE:dy a b=-1:=by unfold dy;rw[ho,hd,hc,if_neg (by decide),kN,if_neg (by decide)]
    rw[hE]
    by_cases h3:p.cn<q.cn
    ·refine ca ?_
     first|exact rfl|trivial
    ·obtain⟨h4,h5⟩:=hlt.resolve_left h3
     have g2:=decide_eq_true h4
     have g3:=decide_eq_true h5
     refine ca ?_
     first|exact rfl|trivial
   ·have g4:¬p.cn<q.cn:=fun e=>hlt (.inl e)
    by_cases heq:p.cn=q.cn∧p.word=q.word
    ·obtain⟨h4,h5⟩:=heq
     have hc:=JB ⟨h4,h5⟩
     rw[hc,if_pos rfl] at hd
     have g5:¬p.word<q.word:=by omega
     refine ca ?_
     exact⟨i+1,by omega,cG,by omega,⟨_,bo⟩,⟨_,bo⟩,by omega,by omega,ho.trans hd⟩
    ·have hc:=JC hlt heq
     have hE:dy a b=1:=by unfold dy;rw[ho,hd,hc,if_neg (by decide),kN,if_neg (by decide)]
     rw[hE]
     refine ca ?_
     first|exact rfl|trivial
  ·have hE:dy a b=1:=by unfold dy;rw[ho,mr fT hil (by omega),kN,if_neg (by decide)]
   rw[hE]
   have hne:a.bh.length≠b.bh.length:=by omega
   have c0:=jk (x:=decide (((a.bh.map cH.av).length:Int)<((b.bh.map cH.av).length:Int))) (v:=1) (by rw[decide_eq_false (by omega)];rfl)
   refine ca ?_
   first|exact rfl|trivial
 ·obtain rfl:i=a.bh.length:=by omega
  rw[mq fT (Nat.le_refl _) hib] at ho
  by_cases hpl:a.bh.length<b.bh.length
  ·rw[if_pos hpl] at ho
   have hE:dy a b=-1:=by unfold dy;rw[ho,kN,if_neg (by decide)]
   rw[hE]
   have hne:a.bh.length≠b.bh.length:=by omega
   have c0:=jk (x:=decide (((a.bh.map cH.av).length:Int)<((b.bh.map cH.av).length:Int))) (v:=-1) (by rw[decide_eq_true (by omega)];rfl)
   refine ca ?_
   first|exact rfl|trivial
  ·rw[if_neg hpl] at ho
   have hpe:b.bh.length=a.bh.length:=by omega
   refine ca ?_
   refine aT (fun i:Nat=>[(2, .pt 0 1 0 0),(3, .pt 1 1 0 0),(8,i64 i)]) (fun i H n=>2≤n∧(∃d,bf H 0=some (.row 48 3 d [a.av]))∧(∃d,bf H 1=some (.row 48 3 d [b.av]))∧i≤a.mem.length∧i≤b.mem.length∧eL eR a.mem b.mem=eL eR (a.mem.drop i) (b.mem.drop i)) (fun i=>a.mem.length - i) 0 cG ⟨cO,⟨_,bo⟩,⟨_,bo⟩,Nat.zero_le _,Nat.zero_le _,rfl⟩ ?_
   clear r0 r1 hn
   rintro i H n ⟨hn,⟨d0,r0⟩,⟨d1,r1⟩,hi,hib,hm⟩
   by_cases hil:i<a.mem.length
   ·have e0:=fun d=>ints_at hil d
    by_cases hbl:i<b.mem.length
    ·have e1:=fun d=>ints_at hbl d
     have hd:=pV eR 0 hil hbl
     generalize a.mem.getD i 0=p at *
     generalize b.mem.getD i 0=q at *
     have g0:=decide_eq_true hil
     have g1:=decide_eq_true hbl
     by_cases heq:p=q
     ·rw[heq,yy,if_pos rfl] at hd
      refine ca ?_
      exact⟨i+1,by omega,cG,by omega,⟨_,bo⟩,⟨_,bo⟩,by omega,by omega,hm.trans hd⟩
     ·have hc:=JA heq
      by_cases hlt:p<q
      ·rw[if_pos hlt] at hc
       have hE:dy a b=-1:=by unfold dy;rw[ho,hm,hd,hc,if_neg (by decide),kN,if_pos rfl,kN,if_neg (by decide)]
       rw[hE]
       have c0:=jk (x:=decide (p<q)) (v:=-1) (by rw[decide_eq_true hlt];rfl)
       refine ca ?_
       first|exact rfl|trivial
      ·rw[if_neg hlt] at hc
       have hE:dy a b=1:=by unfold dy;rw[ho,hm,hd,hc,if_neg (by decide),kN,if_pos rfl,kN,if_neg (by decide)]
       rw[hE]
       have c0:=jk (x:=decide (p<q)) (v:=1) (by rw[decide_eq_false hlt];rfl)
       refine ca ?_
       first|exact rfl|trivial
    ·have hE:dy a b=1:=by unfold dy;rw[ho,hm,mr eR hil (by omega),kN,if_pos rfl,kN,if_neg (by decide)]
     rw[hE]
     have hne:a.mem.length≠b.mem.length:=by omega
     have c0:=jk (x:=decide (((a.mem.map i64).length:Int)<((b.mem.map i64).length:Int))) (v:=1) (by rw[decide_eq_false (by omega)];rfl)
     refine ca ?_
     first|exact rfl|trivial
   ·obtain rfl:i=a.mem.length:=by omega
    rw[mq eR (Nat.le_refl _) hib] at hm
    by_cases hml:a.mem.length<b.mem.length
    ·rw[if_pos hml] at hm
     have hE:dy a b=-1:=by unfold dy;rw[ho,hm,kN,if_pos rfl,kN,if_neg (by decide)]
     rw[hE]
     have hne:a.mem.length≠b.mem.length:=by omega
     have c0:=jk (x:=decide (((a.mem.map i64).length:Int)<((b.mem.map i64).length:Int))) (v:=-1) (by rw[decide_eq_true (by omega)];rfl)
     refine ca ?_
     first|exact rfl|trivial
    ·rw[if_neg hml] at hm
     have hme:b.mem.length=a.mem.length:=by omega
     have hE:dy a b=rh a.ended b.ended:=by
      unfold dy;rw[ho,hm,kN,if_pos rfl,kN,if_pos rfl,kN]
      split<;>simp_all[kN]
     rw[hE]
     obtain⟨ap,am,ae⟩:=a
     obtain⟨bp,bm,be⟩:=b
     have c0:=rE be
     cases ae<;>cases be<;>(refine ca ?_;first|exact rfl|trivial)
end Go.Proofs.YtlonbgdonffcbaaGreatDoor
end
section
/- Ends compared: the order's plain laws. -/
namespace Go.Proofs.YtlonbgdonffcbaaGreatDoor
open Go Go.cY Go.Proofs
set_option linter.unusedSimpArgs false
set_option linter.unusedVariables false
theorem qR (x y:Int):eR y x=-eR x y:=by
 unfold eR
 repeat' (first|omega|split)
theorem uN:∀l:List Int,kN (l.map (-·))=-kN l
 |[]=>rfl
 |x::l=>by
  simp only[List.map_cons,kN]
  by_cases h:x=0
  ·rw[if_pos (by omega),if_pos h];exact uN l
  ·rw[if_neg (by omega),if_neg h]
theorem DV (p q:cH):fT q p=-fT p q:=by
 unfold fT
 rw[←uN,qR p.cn,qR p.word];rfl
theorem qS {α:Type} {f:α→α→Int} (hf:∀x y,f y x=-f x y):∀a b:List α,eL f b a=-eL f a b
 |[],[]=>rfl
 |[],_::_=>rfl
 |_::_,[]=>rfl
 |x::a,y::b=>by
  rw[eL,eL,hf x y]
  by_cases h:f x y=0
  ·rw[if_pos (by omega),if_pos h];exact qS hf a b
  ·rw[if_neg (by omega),if_neg h]
theorem DS (a b:Bool):rh b a=-rh a b:=by cases a<;>cases b<;>rfl
theorem DT (a b:cL):dy b a=-dy a b:=by
 unfold dy
 rw[←uN,qS DV a.bh,qS qR a.mem,DS a.ended];rfl
theorem wY {l:List Int}:kN l=0↔∀x∈l,x=0:=by
 induction l with
 |nil=>simp[kN]
 |cons x l ih=>
  rw[kN]
  by_cases h:x=0
  ·rw[if_pos h,ih];simp[h]
  ·rw[if_neg h];simp[h]
theorem jb {x y:Int}:eR x y=0↔x=y:=by
 constructor
 ·unfold eR;intro h;revert h;repeat' (first|omega|split)
 ·rintro rfl;exact yy _
theorem ny {p q:cH}:fT p q=0↔p=q:=by
 unfold fT
 rw[wY]
 simp only[List.mem_cons,List.not_mem_nil,or_false,forall_eq_or_imp,forall_eq,jb]
 constructor
 ·rintro⟨h1,h2⟩;cases p;cases q;simp_all
 ·rintro rfl;exact⟨rfl,rfl⟩
theorem jc {α:Type} {f:α→α→Int} (hf:∀x y,f x y=0↔x=y):∀a b:List α,eL f a b=0↔a=b
 |[],[]=>by simp[eL]
 |[],_::_=>by simp[eL]
 |_::_,[]=>by simp[eL]
 |x::a,y::b=>by
  rw[eL]
  by_cases h:f x y=0
  ·rw[if_pos h,jc hf a b]
   have:=(hf x y).1 h
   simp[this]
  ·rw[if_neg h]
   have:x≠y:=fun e=>h ((hf x y).2 e)
   simp[h,this]
theorem lP {a b:cL}:dy a b=0↔a=b:=by
 unfold dy
 rw[wY]
 simp only[List.mem_cons,List.not_mem_nil,or_false,forall_eq_or_imp,forall_eq,jc (fun x y=>ny),jc (fun x y=>jb)]
 constructor
 ·rintro⟨h1,h2,h3⟩
  obtain⟨ap,am,ae⟩:=a
  obtain⟨bp,bm,be⟩:=b
  cases ae<;>cases be<;>simp_all[rh]
 ·rintro rfl
  exact⟨rfl,rfl,by cases a.ended<;>rfl⟩
end Go.Proofs.YtlonbgdonffcbaaGreatDoor
end
section
/- Neighbours that are one go: the walk of the library's CompactFunc. -/
namespace Go.Proofs.YtlonbgdonffcbaaGreatDoor
open Go Go.cY Go.Proofs
set_option linter.unusedSimpArgs false
set_option linter.unusedVariables false
set_option maxRecDepth 8000
def kU (l:List cL):Nat→List cL
 |0=>[]
 |1=>[l.getD 0 default]
 |k+2=>if l.getD (k+1) default=l.getD k default then kU l (k+1) else kU l (k+1)++[l.getD (k+1) default]
theorem zA (l:List cL):∀k,(kU l k).length≤k
 |0=>Nat.le_refl _
 |1=>Nat.le_refl _
 |k+2=>by
  rw[kU]
  have:=zA l (k+1)
  split
  ·omega
  ·rw[List.length_append,List.length_cons,List.length_nil];omega
theorem uz (l:List cL) {k:Nat} (hk:1≤k):kU l (k+1)=if l.getD k default=l.getD (k - 1) default then kU l k else kU l k++[l.getD k default]:=by
 obtain⟨j,rfl⟩:∃j,k=j+1:=⟨k - 1,by omega⟩
 rw[kU]
 rfl
theorem iY {l:List cL} {i:Nat} (h:i<l.length) (d:AV):(l.map cL.av).getD i d=(l.getD i default).av:=dR cL.av l i d h
abbrev eC (l:List cL):AV:= .im 3 .any (l.map cL.av)
theorem iZ (l:List cL):cJ 0 (l.map cL.av):=(cI _ _).2 fun _ _=>by simp[cB]
theorem mB {α:Type} {l:List α} {i:Nat} {x:α} (h:i<l.length):(l.set i x).take (i+1)=l.take i++[x]:=by
 rw[List.take_succ_eq_append_getElem (by simpa using h),List.take_set_of_le (Nat.le_refl _)]
 simp
theorem MS {H:Hp} {k b len lo n:Nat} {e:TypeId} {sz:Nat} {d:AV} {es:List AV} (h:bf H b=some (.row e sz d es)) (hl:es.length=len):cY.eM H (k+1) (.sv b len lo n)= .im sz .any (((es.drop lo).take n).map (cY.eM H k)):=by
 simp only[cY.eM,h];rw[if_pos hl]
set_option maxHeartbeats 4000000 in
theorem ux (o:Nat) (l:List cL) (hl:l.length≤65536) (hok:∀e∈l,e.bh.length<9223372036854775807∧e.mem.length<9223372036854775807) (H:Hp) (nx:Nat) (ho:o<nx) (hr:∃d,bf H o=some (.row 48 3 d (l.map cL.av))):
 bz Tryz.prog 54 [.sl o l.length, .fn (.func 42) [] []] H nx (fun r H' n=>nx≤n∧(∀y,y<nx→y≠o→bf H' y=bf H y)∧(r= .sl o l.length∧(kU l l.length).length=l.length∧(∃d,bf H' o=some (.row 48 3 d ((kU l l.length).map cL.av)))∨∃es:List AV,r= .sv o l.length 0 (kU l l.length).length∧es.length=l.length∧(kU l l.length).length≤l.length∧es.take (kU l l.length).length=(kU l l.length).map cL.av∧∃d,bf H' o=some (.row 48 3 d es))):=by
 obtain⟨d0,r0'⟩:=hr
 have a0:(l.map cL.av).length=l.length:=by simp
 have same:∀i j,i<l.length→j<l.length→Pure Tryz.prog 42 [(l.getD i default).av,(l.getD j default).av] (fun r=>r=bl (decide (l.getD i default=l.getD j default))):=fun i j hi hj=>by
  obtain⟨p1,p2⟩:=hok _ (gk default hi)
  have:=mQ (l.getD i default) (l.getD j default) p1 p2
  simpa only[lP] using this
 refine aO F5 rfl ?_
 by_cases h2:l.length<2
 ·refine ca ?_
  have:kU l l.length=l:=by
   match l,h2 with
   |[],_=>rfl
   |[x],_=>rfl
  rw[this]
  exact⟨⟨cO,fun y y1 y2=>cA, .inl ⟨rfl,rfl,d0,bo⟩⟩⟩
 ·refine ca ?_
  refine aT (fun i:Nat=>[(0, .sl o l.length),(1, .fn (.func 42) [] []),(5,i64 i)]) (fun i H2 n=>1≤i∧i≤l.length∧nx≤n∧bf H2 o=some (.row 48 3 d0 (l.map cL.av))∧kU l i=l.take i∧∀y,y<nx→y≠o→bf H2 y=bf H y) (fun i=>l.length - i) 1 cG ⟨Nat.le_refl _,by omega,cO,bo,by rw[kU];cases l with|nil=>simp at h2|cons x t=>rfl,fun y y1 y2=>cA⟩ ?_
  clear r0'
  rintro i H2 n ⟨hi1,hi,hn,r0',hdd,hkp⟩
  by_cases hil:i<l.length
  ·have e0:∀d,(l.map cL.av).getD ((i:Int)).toNat d=(l.getD i default).av:=fun d=>by rw[Int.toNat_natCast];exact iY hil d
   have e1:∀d,(l.map cL.av).getD ((i:Int) - 1).toNat d=(l.getD (i - 1) default).av:=fun d=>by rw[show((i:Int) - 1).toNat=i - 1 by omega];exact iY (by omega) d
   have c0:=same i (i - 1) hil (by omega)
   have hsu:=uz l hi1
   by_cases he:l.getD i default=l.getD (i - 1) default
   ·rw[decide_eq_true he] at c0
    rw[if_pos he] at hsu
    refine ca ?_
    refine aT (fun σ:Nat×Nat×List cL=>[(0, .sl o l.length),(1, .fn (.func 42) [] []),(5,i64 σ.1),(6, .sv o l.length i (l.length - i)),(7,i64 σ.2.1)])
     (fun σ H2 n=>1≤σ.2.1∧i+σ.2.1≤l.length∧i≤σ.1∧σ.1+1≤i+σ.2.1∧σ.2.2.length=l.length∧(∀q,σ.1≤q→σ.2.2.getD q default=l.getD q default)∧σ.2.2.take σ.1=kU l (i+σ.2.1)∧nx≤n∧(∃d,bf H2 o=some (.row 48 3 d (σ.2.2.map cL.av)))∧∀y,y<nx→y≠o→bf H2 y=bf H y) (fun σ=>l.length - σ.2.1) (i,1,l) cG
     ⟨Nat.le_refl _,by show i+1≤l.length;omega,Nat.le_refl _,Nat.le_refl _,rfl,fun _ _=>rfl,by dsimp only;rw[hsu,hdd],cO,⟨_,bo⟩,fun y y1 y2=>Eq.trans cA (hkp y y1 y2)⟩ ?_
    clear c0 e0 e1 hsu hdd r0' hn hkp
    rintro⟨k,j,es⟩ H3 n ⟨hj1,hj,hik,hkj,hel,hsame,hdd,hn,⟨d1,r1'⟩,hkp⟩
    dsimp only at hj1 hj hik hkj hel hsame hdd r1' ⊢
    have a1:(es.map cL.av).length=l.length:=by simp[hel]
    by_cases hjl:j<l.length - i
    ·have e0:∀d,(es.map cL.av).getD (i+((j:Int)).toNat) d=(l.getD (i+j) default).av:=fun d=>by rw[Int.toNat_natCast,iY (by omega) d,hsame _ (by omega)]
     have e1:∀d,(es.map cL.av).getD (i+((j:Int) - 1).toNat) d=(l.getD (i+j - 1) default).av:=fun d=>by rw[show i+((j:Int) - 1).toNat=i+j - 1 by omega,iY (by omega) d,hsame _ (by omega)]
     have e2:∀d,(es.map cL.av).getD ((k:Int)).toNat d=(es.getD k default).av:=fun d=>by rw[Int.toNat_natCast];exact iY (by omega) d
     have c0:=same (i+j) (i+j - 1) (by omega) (by omega)
     have hsu:=uz l (k:=i+j) (by omega)
     by_cases he2:l.getD (i+j) default=l.getD (i+j - 1) default
     ·rw[decide_eq_true he2] at c0
      rw[if_pos he2] at hsu
      refine ca ?_
      exact⟨(k,j+1,es),by dsimp only;omega,cG,by dsimp only;omega,by dsimp only;omega,hik,by dsimp only;omega,hel,hsame,by dsimp only;rw[←Nat.add_assoc,hsu];exact hdd,cO,⟨d1,bo⟩,fun y y1 y2=>Eq.trans cA (hkp y y1 y2)⟩
     ·rw[decide_eq_false he2] at c0
      rw[if_neg he2] at hsu
      refine ca ?_
      refine⟨(k+1,j+1,es.set k (l.getD (i+j) default)),by dsimp only;omega,cG,by dsimp only;omega,by dsimp only;omega,by dsimp only;omega,by dsimp only;omega,by simp[hel],fun q hq=> ?_, ?_,cO,⟨d1,by dsimp only;rw[List.map_set];exact bo⟩,fun y y1 y2=>Eq.trans cA (hkp y y1 y2)⟩
      ·have hq:k+1≤q:=hq
       dsimp only
       rw[getD_set_ne (by omega)];exact hsame q (by omega)
      ·dsimp only
       rw[←Nat.add_assoc,hsu,mB (by omega),hdd]
    ·obtain rfl:j=l.length - i:=by omega
     rw[show i+(l.length - i)=l.length by omega] at hdd
     refine ca ?_
     rw[Int.toNat_natCast]
     have hkl:k≤l.length:=by omega
     have hkd:(kU l l.length).length=k:=by rw[←hdd,List.length_take,hel];omega
     generalize hZ:List.replicate (l.length - k) (gO true [Value.slice none 0 0,Value.slice none 0 0,Value.bool false])=Z
     have hZl:Z.length=l.length - k:=by rw[←hZ];simp
     rw[hkd]
     refine⟨⟨cO,fun y y1 y2=>Eq.trans cA (hkp y y1 y2), .inr ⟨(es.map cL.av).take k++Z++(es.map cL.av).drop (k+(l.length - k)),rfl, ?_,hkl, ?_,d1,bo⟩⟩⟩
     ·simp[hZl,hel];omega
     ·rw[List.append_assoc,List.take_append_of_le_length (by simp;omega),List.take_take,Nat.min_self,←List.map_take,hdd]
   ·rw[decide_eq_false he] at c0
    rw[if_neg he] at hsu
    refine ca ?_
    refine⟨i+1,by omega,cG,by omega,by omega,cO,bo, ?_,fun y y1 y2=>Eq.trans cA (hkp y y1 y2)⟩
    rw[hsu,hdd,List.take_succ_eq_append_getElem hil,show l.getD i default=l[i] by simp[List.getD,hil]]
  ·obtain rfl:i=l.length:=by omega
   rw[List.take_length] at hdd
   refine ca ?_
   rw[hdd]
   exact⟨⟨cO,fun y y1 y2=>Eq.trans cA (hkp y y1 y2), .inl ⟨rfl,rfl,d0,bo⟩⟩⟩
theorem tm (o:Nat) (l:List cL) (hl:l.length≤65536) (hok:∀e∈l,e.bh.length<9223372036854775807∧e.mem.length<9223372036854775807) (H:Hp) (nx:Nat) (ho:o<nx) (hr:∃d,bf H o=some (.row 48 3 d (l.map cL.av))):
 bz Tryz.prog 54 [.sl o l.length, .fn (.func 42) [] []] H nx (fun r H' n=>∃b,r= .sl b (kU l l.length).length∧(b=o∨nx≤b)∧b<n∧nx≤n∧(∃d,bf H' b=some (.row 48 3 d ((kU l l.length).map cL.av)))∧∀y,y<nx→y≠o→bf H' y=bf H y):=by
 refine(ux o l hl hok H nx ho hr).rt ?_
 rintro r H' n ⟨hn,hk,⟨rfl,h1,h2⟩|⟨es,rfl,h1,h2,h3,d,h4⟩⟩
 ·exact⟨_,H',n,Rt.refl _ _ _,o,by rw[h1];rfl, .inl rfl,by omega,hn,h2,hk⟩
 ·refine⟨_,_,n+1,Rt.part 0 rfl h4 h1 (by omega),n,rfl, .inr hn,by omega,by omega,⟨.any, ?_⟩,fun y y1 y2=> ?_⟩
  ·rw[List.drop_zero,h3];exact cN _ _ _
  ·exact(bj (by omega)).trans ((bj y2).trans (hk y y1 y2))
end Go.Proofs.YtlonbgdonffcbaaGreatDoor
end
section
/- The order of ends: what sorts them. -/
namespace Go.Proofs.YtlonbgdonffcbaaGreatDoor
open Go Go.cY Go.Proofs
set_option linter.unusedSimpArgs false
set_option linter.unusedVariables false
theorem tj {x y z:Int} (h1:eR x y<0) (h2:eR y z<0):eR x z<0:=by
 unfold eR at *
 repeat' split at *
 all_goals omega
theorem QF (a b c:Int):kN [a,b,c]<0↔a<0∨a=0∧(b<0∨b=0∧c<0):=by
 simp only[kN]
 repeat' split
 all_goals omega
theorem QE (a b:Int):kN [a,b]<0↔a<0∨a=0∧b<0:=by
 simp only[kN]
 repeat' split
 all_goals omega
theorem JE {p q r:cH} (h1:fT p q<0) (h2:fT q r<0):fT p r<0:=by
 unfold fT at *
 rw[QE] at *
 simp only[jb] at *
 rcases h1 with h1|⟨e1,h1⟩<;>rcases h2 with h2|⟨e2,h2⟩
 ·exact .inl (tj h1 h2)
 ·rw[←e2];exact .inl h1
 ·rw[e1];exact .inl h2
 ·exact .inr ⟨e1.trans e2,tj h1 h2⟩
theorem tk {α:Type} {f:α→α→Int} (hz:∀x y,f x y=0↔x=y) (hf:∀x y z,f x y<0→f y z<0→f x z<0):∀a b c:List α,eL f a b<0→eL f b c<0→eL f a c<0
 |[],[],_,h1,_=>by simp[eL] at h1
 |[],_::_,[],_,h2=>by simp[eL] at h2
 |[],_::_,_::_,_,_=>by simp[eL]
 |_::_,[],_,h1,_=>by simp[eL] at h1
 |_::_,_::_,[],_,h2=>by simp[eL] at h2
 |x::a,y::b,z::c,h1,h2=>by
  rw[eL] at h1 h2 ⊢
  by_cases e1:f x y=0
  ·have:=(hz _ _).1 e1
   subst this
   rw[if_pos e1] at h1
   by_cases e2:f x z=0
   ·rw[if_pos e2] at h2 ⊢
    exact tk hz hf a b c h1 h2
   ·rw[if_neg e2] at h2 ⊢
    exact h2
  ·rw[if_neg e1] at h1
   by_cases e2:f y z=0
   ·have:=(hz _ _).1 e2
    subst this
    rw[if_neg e1]
    exact h1
   ·rw[if_neg e2] at h2
    have h3:=hf _ _ _ h1 h2
    rw[if_neg (by omega)]
    exact h3
theorem I9 {a b c:cL} (h1:dy a b<0) (h2:dy b c<0):dy a c<0:=by
 unfold dy at *
 rw[QF] at *
 simp only[jc (fun x y=>ny),jc (fun x y=>jb)] at *
 have tp:=tk (f:=fT) (fun x y=>ny) (fun x y z=>JE) a.bh b.bh c.bh
 have ti:=tk (f:=eR) (fun x y=>jb) (fun x y z=>tj) a.mem b.mem c.mem
 have tb:rh a.ended b.ended<0→rh b.ended c.ended<0→rh a.ended c.ended<0:=by
  cases a.ended<;>cases b.ended<;>cases c.ended<;>simp[rh]
 rcases h1 with h1|⟨e1,h1⟩<;>rcases h2 with h2|⟨e2,h2⟩
 ·exact .inl (tp h1 h2)
 ·rw[←e2];exact .inl h1
 ·rw[e1];exact .inl h2
 ·refine .inr ⟨e1.trans e2, ?_⟩
  rcases h1 with h1|⟨e1',h1⟩<;>rcases h2 with h2|⟨e2',h2⟩
  ·exact .inl (ti h1 h2)
  ·rw[←e2'];exact .inl h1
  ·rw[e1'];exact .inl h2
  ·exact .inr ⟨e1'.trans e2',tb h1 h2⟩
structure j3 {α:Type} (f:α→α→Int):Prop where
 neg:∀x y,f y x=-f x y
 zero:∀x y,f x y=0↔x=y
 tr:∀x y z,f x y<0→f y z<0→f x z<0
theorem jI:j3 dy:=⟨DT,fun _ _=>lP,fun _ _ _=>I9⟩
def tA {α:Type} (f:α→α→Int) (x y:α):Bool:=decide (f x y≤0)
theorem j3.O1 {α:Type} {f:α→α→Int} (h:j3 f) {x y z:α} (h1:tA f x y=true) (h2:tA f y z=true):tA f x z=true:=by
 simp only[tA,decide_eq_true_eq] at *
 by_cases e1:f x y=0
 ·rw[(h.zero _ _).1 e1];exact h2
 ·by_cases e2:f y z=0
  ·rw[←(h.zero _ _).1 e2];exact h1
  ·have:=h.tr x y z (by omega) (by omega);omega
theorem j3.le_total {α:Type} {f:α→α→Int} (h:j3 f) (x y:α):(tA f x y||tA f y x)=true:=by
 have:=h.neg x y
 simp only[tA,Bool.or_eq_true,decide_eq_true_eq]
 omega
theorem j3.zP {α:Type} {f:α→α→Int} (h:j3 f) {x y:α} (h1:tA f x y=true) (h2:tA f y x=true):x=y:=by
 have:=h.neg x y
 simp only[tA,decide_eq_true_eq] at *
 exact(h.zero _ _).1 (by omega)
def fY {α:Type} (f:α→α→Int) (l:List α):List α:=l.mergeSort (tA f)
theorem jt {α:Type} (f:α→α→Int) (l:List α):(fY f l).length=l.length:=by simp[fY]
theorem kO {α:Type} (f:α→α→Int) (l:List α):(fY f l).Perm l:=List.mergeSort_perm _ _
theorem j3.sorted {α:Type} {f:α→α→Int} (h:j3 f) (l:List α):(fY f l).Pairwise fun x y=>tA f x y=true:=
 List.pairwise_mergeSort (le:=tA f) (fun a b c h1 h2=>h.O1 h1 h2) (fun a b=>h.le_total a b) l
theorem j3.KK {α:Type} {f:α→α→Int} (h:j3 f) {l l':List α} (hp:l'.Perm l) (hs:l'.Pairwise fun x y=>tA f x y=true):l'=fY f l:=
 List.Perm.eq_of_pairwise (fun a b _ _ h1 h2=>h.zP h1 h2) hs (h.sorted l) (hp.trans (kO f l).symm)
end Go.Proofs.YtlonbgdonffcbaaGreatDoor
end
