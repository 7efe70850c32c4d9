import Derived.Test.YtjopoheligmmoaaGreatDoorM18
section
/- Rows of rows; loops at whose head things are told anew. -/
set_option linter.unusedSimpArgs false
set_option linter.unusedVariables false
namespace Go.cw
open Go.RowKit
theorem aZ {sz:Nat} {b:Bool}:Ask (fits true sz (.agg (List.replicate sz (.sc (.bool b))))=true):=⟨MA rfl⟩
theorem Holds.EI {w0:World} {M0:Nat->Prop} {c0:Cx} {lo n:Nat} {fr:Fr} {H:Hp} {nx:Nat} {a:Act} {w:World} (h:Holds w0 M0 c0 lo n fr H nx a w) {H2:Hp} {nx2:Nat} (hw:Wk .any H nx .any H2 nx2):Holds w0 M0 c0 lo n fr H2 nx2 a w:=by
 obtain⟨h1,h2,ρ,U,hU,hS,hF,hT⟩:=h
 obtain⟨ρ2,U2,k1,k2,k3,_⟩:=hw w0 ρ U w M0 hU hS
 exact⟨h1,h2,ρ2,U2,k1,k2,fun t=>VR.cc k3 (hF t),hT.to k3⟩
theorem cE {p:Prop} (h:p:=by repeat(first|exact rfl|(refine Eq.trans (cN (by first|omega|(simp only[List.length_cons,List.length_nil];omega))) ?_))):p:=h
section
variable {P:Program}
theorem jU.aAH {n lo:Nat} {x:LC} {fr:Fr} {H:Hp} {nx:Nat} {Q:QT} {σ:Type} (I:σ->Fr->Hp->Nat->Prop) (μ:σ->Nat) (s0:σ)
 (h0:∃fr' H' nx',(∀t,cq fr' t= .any\/cq fr' t=cq fr t)/\Wk .any H nx .any H' nx'/\I s0 fr' H' nx')
 (round:∀s fr H nx,I s fr H nx->WL P n lo x fr H nx (jH (fun fr' H' nx'=>∃s',μ s'<μ s/\∃fr2 H2 nx2,(∀t,cq fr2 t= .any\/cq fr2 t=cq fr' t)/\Wk .any H' nx' .any H2 nx2/\I s' fr2 H2 nx2) Q)):jU P n lo x fr H nx Q:=by
 refine⟨fun code hc w0 M0 c0 a w hh=> ?_⟩
 have:∃c1,code= .loop c1/\dD P n c1=some x:=by
  cases code<;>simp only[dD] at hc
  case loop c1=>
   simp only[Option.map_eq_some_iff,LC.loop.injEq] at hc
   obtain⟨x',h1,rfl⟩:=hc
   exact⟨c1,rfl,h1⟩
  all_goals (exfalso;repeat' (split at hc))<;>simp at hc
 obtain⟨c1,rfl,h1⟩:=this
 intro b k cs
 have key:∀m,∀s,μ s=m->∀fr H nx,I s fr H nx->∀a w,Holds w0 M0 c0 lo n fr H nx a w->
  ∃e a' w',LQ w0 M0 c0 lo n Q e a' w'/\Arrives P (lone (b.at a (.code c1:: .inLoop c1::k)) cs w) b k cs e a' w':=by
  intro m
  induction m using Nat.strongRecOn with
  |_ m ih=>
   intro s hs fr H nx hI a w hh
   obtain⟨e,a1,w1,hq,harr⟩:=round s fr H nx hI c1 h1 w0 M0 c0 a w hh b (.inLoop c1::k) cs
   obtain⟨x',fr',H',nx',rfl,hQ,hh'⟩:=hq
   cases x' with
   |normal=>
    obtain⟨s',hlt,fr2,H2,nx2,hless,hwk,hI'⟩:=hQ
    obtain⟨e2,a2,w2,hq2,harr2⟩:=ih (μ s') (by omega) s' rfl fr2 H2 nx2 hI' a1 w1 ((hh'.less hless).EI hwk)
    exact⟨e2,a2,w2,hq2, .of_steps (Steps.trans harr (.one step_inLoop)) harr2⟩
   |exit id=>exact⟨_,a1,w1,⟨.exit id,fr',H',nx',rfl,hQ,hh'⟩, .pass (x:= .inLoop c1) rfl (fun _ _=> .inl (by simp[Ex.to])) harr⟩
   |ret=>exact⟨_,a1,w1,⟨.ret,fr',H',nx',rfl,hQ,hh'⟩, .pass (x:= .inLoop c1) rfl (fun _ _=> .inl (by simp[Ex.to])) harr⟩
 obtain⟨fr',H',nx',hless,hwk,hI⟩:=h0
 obtain⟨e,a',w',hq,harr⟩:=key _ s0 rfl fr' H' nx' hI a w ((hh.less hless).EI hwk)
 exact⟨e,a',w',hq, .of_steps (.one step_loop) harr⟩
theorem af {n lo:Nat} {x:LC} {fr:Fr} {H:Hp} {nx:Nat} {Q:QT} {σ:Type} (F:σ->Fr) (I:σ->Hp->Nat->Prop) (μ:σ->Nat) (s0:σ) (h0:k7 fr (F s0)) (h1:∃H' nx',Wk .any H nx .any H' nx'/\I s0 H' nx')
 (round:∀s H nx,I s H nx->Go (W P n lo x (F s) H nx (jH (fun fr' H' nx'=>∃s',μ s'<μ s/\k7 fr' (F s')/\∃H2 nx2,Wk .any H' nx' .any H2 nx2/\I s' H2 nx2) Q))):jU P n lo x fr H nx Q:=by
 obtain⟨H1,nx1,hw1,hI1⟩:=h1
 refine jU.aAH (fun s fr H nx=>fr=F s/\I s H nx) μ s0 ⟨F s0,H1,nx1,iP h0,hw1,rfl,hI1⟩ ?_
 rintro s fr H nx ⟨rfl,hI⟩
 refine(fX (round s H nx hI)).mono ?_
 intro e fr' H' nx' hh
 cases e with
 |normal=>
  obtain⟨s',h2,h3,H2,nx2,h4,h5⟩:=hh
  exact⟨s',h2,F s',H2,nx2,iP h3,h4,rfl,h5⟩
 |exit id=>exact hh
 |ret=>exact hh
end
def K3 (e:TypeId) (sz:Nat) (n:Nat):Nat->Hp->Hp
 |0,H=>H
 |k+1,H=>(n+k,some (.row e sz .any []))::K3 e sz n k H
theorem l4 {e:TypeId} {sz n:Nat} {H:Hp} {b:Nat}:∀(k:Nat),bt (K3 e sz n k H) b=if n<=b/\b<n+k then some (.row e sz .any []) else bt H b
 |0=>by simp only[K3];rw[if_neg (by omega)]
 |k+1=>by
  simp only[K3]
  by_cases h:b=n+k
  ·subst h;rw[ca,if_pos (by omega)]
  ·rw[cN h,l4 k]
   by_cases h2:n<=b/\b<n+k
   ·rw[if_pos h2,if_pos (by omega)]
   ·rw[if_neg h2,if_neg (by omega)]
def sn (ids:List Nat) (S:List (List AV)):List AV:=List.zipWith (fun x l=>AV.sl x l.length) ids S
structure B4 (te e:TypeId) (sz b:Nat) (ids:List Nat) (S:List (List AV)) (H:Hp):Prop where
 row:∃d,bt H b=some (.row te 1 d (sn ids S))
 qs:∀i,i<S.length->∃d,bt H (ids.getD i 0)=some (.row e sz d (S.getD i []))
 lens:ids.length=S.length
 nodup:(b::ids).Nodup
theorem eE {l:List Nat} {q:Nat} (h:q<l.length):l.getD q 0∈l:=by
 have:l.getD q 0=l[q]:=by simp[List.getD,h]
 rw[this];exact List.getElem_mem h
section
variable {te e:TypeId} {sz b:Nat} {ids:List Nat} {S:List (List AV)} {H:Hp}
theorem B4.len (h:B4 te e sz b ids S H):(sn ids S).length=S.length:=by simp[sn,h.lens]
theorem B4.get (h:B4 te e sz b ids S H) {q:Nat} (hq:q<S.length) (d:AV):(sn ids S).getD q d= .sl (ids.getD q 0) (S.getD q []).length:=by
 have h2:q<ids.length:=by rw[h.lens];exact hq
 have h3:q<(sn ids S).length:=by rw[h.len];exact hq
 rw[List.getD,List.getElem?_eq_getElem h3]
 simp[sn,List.getD,hq,h2]
theorem B4.ne (h:B4 te e sz b ids S H) {q:Nat} (hq:q<S.length):b≠ids.getD q 0:=by
 have hn:=h.nodup
 simp only[List.nodup_cons] at hn
 exact fun he=>hn.1 (he▸eE (by rw[h.lens];exact hq))
theorem B4.other (h:B4 te e sz b ids S H) {q j:Nat} (hq:q<S.length) (hj:j<S.length) (hne:j≠q):ids.getD j 0≠ids.getD q 0:=by
 have hn:=h.nodup
 simp only[List.nodup_cons] at hn
 have e1:ids.getD j 0=ids[j]'(by rw[h.lens];exact hj):=by simp[List.getD,h.lens,hj]
 have e2:ids.getD q 0=ids[q]'(by rw[h.lens];exact hq):=by simp[List.getD,h.lens,hq]
 rw[e1,e2]
 have hp:=List.pairwise_iff_getElem.1 hn.2
 rcases Nat.lt_or_gt_of_ne hne with h1|h1
 ·exact hp _ _ _ _ h1
 ·exact(hp _ _ _ _ h1).symm
theorem B4.cc (h:B4 te e sz b ids S H) {H':Hp} (hf:∀x∈b::ids,bt H' x=bt H x):B4 te e sz b ids S H':=by
 obtain⟨d,h1⟩:=h.row
 refine⟨⟨d,(hf _ (by simp)).trans h1⟩,fun i hi=> ?_,h.lens,h.nodup⟩
 obtain⟨d2,h2⟩:=h.qs i hi
 exact⟨d2,(hf _ (by simp only[List.mem_cons];exact .inr (eE (by rw[h.lens];exact hi)))).trans h2⟩
theorem JF {l:List Nat} {q b:Nat} (h:l.Nodup) (hb:b∉l):(l.set q b).Nodup:=by
 refine List.pairwise_iff_getElem.2 fun i j hi hj hij=> ?_
 have hp:=List.pairwise_iff_getElem.1 h
 simp only[List.length_set] at hi hj
 simp only[List.getElem_set]
 by_cases e1:q=i
 ·rw[if_pos e1,if_neg (by omega)]
  intro he;exact hb (he▸List.getElem_mem hj)
 ·rw[if_neg e1]
  by_cases e2:q=j
  ·rw[if_pos e2]
   intro he;exact hb (he▸List.getElem_mem hi)
  ·rw[if_neg e2];exact hp _ _ _ _ hij
theorem B4.next (h:B4 te e sz b ids S H) {H':Hp} {q x:Nat} (hq:q<S.length) (l:List AV) (hx:x=ids.getD q 0\/x∉b::ids)
 (h1:∃d es,bt H' b=some (.row te 1 d es)/\es=(sn ids S).set q (.sl x l.length)) (h2:∃d es,bt H' x=some (.row e sz d es)/\es=l)
 (h3:∀j,j<S.length->j≠q->ids.getD j 0≠b->ids.getD j 0≠ids.getD q 0->ids.getD j 0≠x->bt H' (ids.getD j 0)=bt H (ids.getD j 0)):B4 te e sz b (ids.set q x) (S.set q l) H':=by
 obtain⟨d1,_,h1,rfl⟩:=h1
 obtain⟨d2,es2,h2,he2⟩:=h2
 rw[he2] at h2
 have hqb:q<ids.length:=by rw[h.lens];exact hq
 have hn:=h.nodup
 simp only[List.nodup_cons] at hn
 refine⟨⟨d1, ?_⟩,fun i hi=> ?_,by simp[h.lens], ?_⟩
 ·rw[h1]
  congr 2
  simp only[sn]
  apply List.ext_getElem
  ·simp
  ·intro i p1 p2
   simp only[List.getElem_zipWith,List.getElem_set]
   by_cases he:q=i<;>simp[he]
 ·simp only[List.length_set] at hi
  by_cases he:i=q
  ·subst he
   simp only[List.getD,List.getElem?_set_self hqb,List.getElem?_set_self hq,Option.getD_some]
   exact⟨_,h2⟩
  ·have e1:(ids.set q x).getD i 0=ids.getD i 0:=by simp[List.getD,List.getElem?_set_ne (Ne.symm he)]
   have e2:(S.set q l).getD i []=S.getD i []:=by simp[List.getD,List.getElem?_set_ne (Ne.symm he)]
   have ho:=h.other hq hi he
   rw[e1,e2,h3 i hi he (h.ne hi).symm ho ?_]
   ·exact h.qs i hi
   ·rcases hx with rfl|hx
    ·exact ho
    ·exact fun hh=>hx (by rw[<-hh];simp only[List.mem_cons];exact .inr (eE (by rw[h.lens];exact hi)))
 ·simp only[List.nodup_cons]
  constructor
  ·intro hm
   rcases List.mem_or_eq_of_mem_set hm with hm|rfl
   ·exact hn.1 hm
   ·rcases hx with hx|hx
    ·exact h.ne hq hx
    ·exact hx (by simp)
  ·rcases hx with rfl|hx
   ·have:ids.set q (ids.getD q 0)=ids:=by
     have e:ids.getD q 0=ids[q]:=by simp[List.getD,hqb]
     rw[e,List.set_getElem_self]
    rw[this];exact hn.2
   ·exact JF hn.2 fun hm=>hx (by simp[hm])
end
def nJ (te e:TypeId) (sz b n nx:Nat) (H:Hp):Hp:=(b,some (.row te 1 .any (sn ((List.range n).map (nx+·)) (List.replicate n []))))::K3 e sz nx n H
theorem xG (n nx:Nat):sn ((List.range n).map (nx+·)) (List.replicate n [])=(List.range n).map fun i=>AV.sl (nx+i) 0:=by
 apply List.ext_getElem
 ·simp[sn]
 ·intro i p1 p2
  simp[sn]
theorem LH {te e:TypeId} {sz b n nx:Nat} {H:Hp} {x:Nat} (hx:x<nx) (hne:x≠b):bt (nJ te e sz b n nx H) x=bt H x:=by
 rw[nJ,cN hne,l4,if_neg (by omega)]
theorem B4.born {te e:TypeId} {sz b n nx:Nat} {H:Hp} (hb:b<nx):B4 te e sz b ((List.range n).map (nx+·)) (List.replicate n []) (nJ te e sz b n nx H):=by
 refine⟨⟨_,ca _ _ _⟩,fun i hi=> ?_,by simp, ?_⟩
 ·have hi2:i<n:=by simpa using hi
  have e1:((List.range n).map (nx+·)).getD i 0=nx+i:=by simp[List.getD,hi2]
  have e2:(List.replicate n ([]:List AV)).getD i []=[]:=by simp[List.getD,hi2]
  rw[e1,e2,nJ,cN (by omega),l4,if_pos (by omega)]
  exact⟨_,rfl⟩
 ·simp only[List.nodup_cons,List.mem_map,List.mem_range,not_exists,not_and]
  refine⟨fun i hi=>by omega, ?_⟩
  refine List.pairwise_iff_getElem.2 fun i j hi hj hij=> ?_
  simp;omega
theorem Wk.born {te e:TypeId} {sz b n nx:Nat} {H:Hp} {d:AV} (hb:b<nx) (hsz:0<sz) (h:bt H b=some (.row te 1 d (List.replicate n (.sc (.slice none 0 0))))):Wk .any H nx .any (nJ te e sz b n nx H) (nx+n):=by
 have look:∀x,bt (nJ te e sz b n nx H) x=if x=b then some (.row te 1 .any ((List.range n).map fun i=>AV.sl (nx+i) 0)) else if nx<=x/\x<nx+n then some (.row e sz .any []) else bt H x:=by
  intro x
  rw[nJ]
  by_cases h1:x=b
  ·subst h1;rw[ca,if_pos rfl,xG]
  ·rw[cN h1,if_neg h1,l4]
 refine Wk.tell (by omega) (fun x e' sz' d' es he=> ?_) (fun w0 c c2 hS hU hc hc2 hw hle hnew _=>⟨db.any _ _ _,fun x e' sz' d' es d0 es0 he he0=> ?_⟩)
 ·rw[look] at he
  by_cases h1:x=b
  ·subst h1
   rw[if_pos rfl] at he
   cases he
   exact .inl ⟨_,_,h,by simp⟩
  ·rw[if_neg h1] at he
   by_cases h2:nx<=x/\x<nx+n
   ·rw[if_pos h2] at he
    cases he
    exact .inr ⟨h2.1,h2.2,rfl,hsz⟩
   ·rw[if_neg h2] at he
    exact .inl ⟨_,_,he,rfl⟩
 ·rw[look] at he
  by_cases h1:x=b
  ·subst h1
   rw[if_pos rfl] at he
   cases he
   rw[h] at he0
   cases he0
   refine dW.DY (by simp) fun i hi=> ?_
   have hi2:i<n:=by simpa using hi
   have e1:(List.replicate n (AV.sc (.slice none 0 0))).getD i .any= .sc (.slice none 0 0):=by simp[List.getD,hi2]
   have e2:((List.range n).map fun i=>AV.sl (nx+i) 0).getD i .any= .sl (nx+i) 0:=by simp[List.getD,hi2]
   rw[e1,e2]
   have h3:bt (nJ te e sz x n nx H) (nx+i)=some (.row e sz .any []):=by rw[look,if_neg (by omega),if_pos (by omega)]
   obtain⟨g1,g2⟩:=hnew (nx+i) e sz .any (by omega) h3
   exact db.nil g1 (by rw[hc2];exact h3) g2
  ·rw[if_neg h1] at he
   by_cases h2:nx<=x/\x<nx+n
   ·have:=hU x (hS.row x _ _ _ _ (by rw[hc];exact he0)).1
    omega
   ·rw[if_neg h2,he0] at he
    cases he
    exact dW.cc hle _
theorem Wk.part {te e:TypeId} {sz b x q nx len lo n:Nat} {H:Hp} {d d2:AV} {es l:List AV} (h1:bt H b=some (.row te 1 d es)) (hq:q<es.length) (h2:es.getD q .any= .sv x len lo n) (h3:bt H x=some (.row e sz d2 l)) (hl:l.length=len) (hn:lo+n<=len) (hne:x≠b) (hxt:e∉XT:=by decide):
 Wk .any H nx .any ((nx,some (.row e sz .any ((l.drop lo).take n)))::(x,none)::(b,some (.row te 1 .any (es.set q (.sl nx n))))::H) (nx+1):=by
 intro w0 ρ U w M0 hU hS
 obtain⟨hbU,_,hbrow⟩:=hS.BC b _ _ _ _ h1 (by omega)
 have hxU:=(hS.row x _ _ _ _ h3).1
 have hbn:=hU b hbU
 have hxn:=hU x hxU
 -- the value that stands there
 have hval:∃blk o z v,ρ b=some (blk,o,z)/\At w blk (o+q * 1) 1 v/\VR ⟨ρ,bt H,U,w,M0⟩ (.sv x len lo n) v:=by
  rcases hbrow with⟨_,h0⟩|⟨blk,o,z,hρ,_,_,_,hrow⟩
  ·rw[h0] at hq;simp at hq
  ·obtain⟨v,ha,hv⟩:=eC hrow q hq
   exact⟨blk,o,z,v,hρ,ha,by rw[h2] at hv;exact hv⟩
 obtain⟨blk0,o0,z0,v,hρb,hat,hv⟩:=hval
 rw[VR] at hv
 obtain⟨_,_,a,cap,rfl,hcn,hvr⟩:=hv
 obtain⟨_,hvr⟩:=hvr e sz d2 l h3
 obtain⟨hv1,hv2⟩:=hvr hl
 obtain⟨_,hsz,hxrow⟩:=hS.kO x _ _ _ _ h3 (KC hv2)
 -- where the new row lies
 let ρn:Option (Nat×Nat×Nat):=(ρ x).bind fun p=>a.map fun ad=>(p.1,ad.off,p.2.1+p.2.2 - ad.off)
 let ρ2:Nat->Option (Nat×Nat×Nat):=fun y=>if y=nx then ρn else ρ y
 let H2:Hp:=(nx,some (.row e sz .any ((l.drop lo).take n)))::(x,none)::(b,some (.row te 1 .any (es.set q (.sl nx n))))::H
 have look:∀y,bt H2 y=if y=nx then some (.row e sz .any ((l.drop lo).take n)) else if y=x then none else if y=b then some (.row te 1 .any (es.set q (.sl nx n))) else bt H y:=by
  intro y
  show bt ((nx,_)::(x,none)::(b,_)::H) y=_
  by_cases g1:y=nx
  ·subst g1;rw[ca,if_pos rfl]
  rw[cN g1,if_neg g1]
  by_cases g2:y=x
  ·subst g2;rw[ca,if_pos rfl]
  rw[cN g2,if_neg g2]
  by_cases g3:y=b
  ·subst g3;rw[ca,if_pos rfl]
  rw[cN g3,if_neg g3]
 have hρn:(ρ x=none/\a=none/\cap=0/\ρn=none)\/∃blk o z o2,ρ x=some (blk,o,z)/\a=some ⟨blk,o2,none⟩/\o<=o2/\o2+cap * sz<=o+z/\cap<=maxLen/\ρn=some (blk,o2,o+z - o2):=by
  rcases hv2 with⟨g1,g2,g3⟩|⟨blk,o,z,o2,g1,g2,g3,g4,g5,_⟩
  ·have g1:ρ x=none:=g1
   exact .inl ⟨g1,g2,g3,by simp[ρn,g1]⟩
  ·have g1:ρ x=some (blk,o,z):=g1
   exact .inr ⟨blk,o,z,o2,g1,g2,g3,g4,g5,by simp[ρn,g1,g2]⟩
 have hmono:∀blk,(⟨ρ2,bt H2,fun y=>U y\/y=nx,w,M0⟩:Cx).M blk->(⟨ρ,bt H,U,w,M0⟩:Cx).M blk:=by
  rintro blk (h0|⟨y,k,o,z,hk,hy⟩)
  ·exact .inl h0
  ·simp only at hk hy
   rw[look] at hk
   by_cases g1:y=nx
   ·simp only[ρ2] at hy
    rw[if_pos g1] at hy
    rcases hρn with⟨_,_,_,g2⟩|⟨blk',o',z',o2,g2,_,_,_,_,g3⟩
    ·rw[g2] at hy;cases hy
    ·rw[g3] at hy;cases hy
     exact .inr ⟨x,_,_,_,h3,g2⟩
   ·rw[if_neg g1] at hk
    simp only[ρ2] at hy
    rw[if_neg g1] at hy
    by_cases g2:y=x
    ·rw[if_pos g2] at hk;cases hk
    ·rw[if_neg g2] at hk
     by_cases g3:y=b
     ·subst g3;exact .inr ⟨y,_,_,_,h1,hy⟩
     ·rw[if_neg g3] at hk;exact .inr ⟨y,_,_,_,hk,hy⟩
 have hle:Cx.le ⟨ρ,bt H,U,w,M0⟩ ⟨ρ2,bt H2,fun y=>U y\/y=nx,w,M0⟩:=by
  refine⟨fun _ h=> .inl h,Nat.le_refl _,fun blk hm _=>⟨rfl,fun hh=>hm (hmono blk hh)⟩,fun y hy e' sz' d' es' he=> ?_⟩
  have hyn:=hU y hy
  simp only at he
  rw[look,if_neg (by omega)] at he
  have e2:ρ2 y=ρ y:=by simp only[ρ2];rw[if_neg (by omega)]
  by_cases g2:y=x
  ·rw[if_pos g2] at he;cases he
  ·rw[if_neg g2] at he
   by_cases g3:y=b
   ·subst g3
    rw[if_pos rfl] at he
    cases he
    exact⟨_,_,_,h1, .inl ⟨by simp,e2⟩⟩
   ·rw[if_neg g3] at he
    exact⟨_,_,_,he, .inl ⟨rfl,e2⟩⟩
 have hdl:((l.drop lo).take n).length=n:=by simp;omega
 have e2n:ρ2 nx=ρn:=by simp only[ρ2];rw[if_pos trivial]
 have hval2:VR ⟨ρ2,bt H2,fun y=>U y\/y=nx,w,M0⟩ (.sl nx n) (.slice a n cap):=by
  rw[VR]
  refine⟨.inr rfl,a,cap,rfl,fun e' sz' d' es' he=> ?_⟩
  simp only at he
  rw[look,if_pos rfl] at he
  cases he
  refine⟨by omega,fun _=> ?_⟩
  simp only[e2n]
  rcases hρn with⟨_,g2,g3,g4⟩|⟨blk,o,z,o2,_,g2,g3,g4,g5,g6⟩
  ·exact .inl ⟨g4,g2,g3⟩
  ·exact .inr ⟨blk,o2,o+z - o2,g6,g2,hcn,by omega,g5,hsz⟩
 refine⟨ρ2,fun y=>U y\/y=nx, ?_,⟨hS.below,hS.m0,fun y e' sz' d' es' he=> ?_, ?_⟩,hle,db.any _ _ _⟩
 ·rintro y (hy|rfl)
  ·have:=hU y hy;omega
  ·omega
 ·simp only at he
  rw[look] at he
  by_cases g1:y=nx
  ·rw[if_pos g1] at he
   cases he
   refine⟨.inr g1, .inl ⟨hsz, ?_⟩⟩
   rw[g1]
   simp only[e2n]
   rcases hρn with⟨g2,_,_,g4⟩|⟨blk,o,z,o2,g2,ga,g3,g4,g5,g6⟩
   ·rcases hxrow with⟨_,h0⟩|⟨_,_,_,hρ,_⟩
    ·exact .inl ⟨g4,by rw[h0];simp⟩
    ·simp only at hρ;rw[g2] at hρ;cases hρ
   ·rcases hxrow with⟨hρ,_⟩|⟨blk',o',z',hρ,k1,⟨arr,k2,k3⟩,k4,k5⟩
    ·simp only at hρ;rw[g2] at hρ;cases hρ
    ·simp only at hρ
     rw[g2] at hρ;cases hρ
     refine .inr ⟨blk,o2,o+z - o2,g6,k1,⟨arr,k2,by omega,fun he=>absurd he hxt⟩, ?_, ?_⟩
     ·rw[hdl]
      have:n * sz<=cap * sz:=Nat.mul_le_mul_right _ hcn
      omega
     ·rcases hv1 with h0|⟨blk',o',z',q1,q2⟩
      ·have:(l.drop lo).take n=[]:=by rw[h0];simp
       rw[this,eA];trivial
      ·simp only at q1
       rw[g2] at q1;cases q1
       rw[ga] at q2
       simp only[Option.some.injEq,Addr.mk.injEq,true_and,and_true] at q2
       subst q2
       have k6:=jK (eA.cc hle rfl k5) lo n (by omega)
       exact k6
  ·rw[if_neg g1] at he
   have e2:ρ2 y=ρ y:=by simp only[ρ2];rw[if_neg g1]
   by_cases g2:y=x
   ·rw[if_pos g2] at he;cases he
   ·rw[if_neg g2] at he
    by_cases g3:y=b
    ·subst g3
     rw[if_pos rfl] at he
     cases he
     refine⟨.inl hbU, .inl ⟨by omega, ?_⟩⟩
     simp only[e2]
     rcases hbrow with⟨_,h0⟩|⟨blk,o,z,hρ,k1,k2,k4,k5⟩
     ·rw[h0] at hq;simp at hq
     ·simp only at hρ
      rw[hρ] at hρb;cases hρb
      refine .inr ⟨_,_,_,hρ,k1,by simpa using k2,by rw[List.length_set];exact k4,kV fun i hi=> ?_⟩
      rw[List.length_set] at hi
      by_cases hiq:i=q
      ·subst hiq
       refine⟨_,hat, ?_⟩
       simp only[List.getD,List.getElem?_set_self hq,Option.getD_some]
       exact hval2
      ·obtain⟨u,u1,u2⟩:=eC k5 i hi
       refine⟨u,u1, ?_⟩
       have:(es.set q (.sl nx n)).getD i .any=es.getD i .any:=by simp[List.getD,List.getElem?_set_ne (Ne.symm hiq)]
       rw[this]
       exact VR.cc hle u2
    ·rw[if_neg g3] at he
     obtain⟨k0,k2⟩:=hS.row y _ _ _ _ he
     exact⟨.inl k0,k2.cc hle e2 fun _ _ _ _ _=>rfl⟩
 ·intro y y' k k' blk o z o' z' hk hk' hρ hρ'
  have get:∀{y k},y≠nx->bt H2 y=some k->y≠x/\∃k2,bt H y=some k2:=by
   intro y k g1 hk
   rw[look,if_neg g1] at hk
   by_cases g2:y=x
   ·rw[if_pos g2] at hk;cases hk
   ·rw[if_neg g2] at hk
    by_cases g3:y=b
    ·subst g3;exact⟨g2,_,h1⟩
    ·rw[if_neg g3] at hk;exact⟨g2,_,hk⟩
  have nxρ:∀{blk o z},ρn=some (blk,o,z)->∃o1 z1,ρ x=some (blk,o1,z1):=by
   intro blk o z h
   rcases hρn with⟨_,_,_,g4⟩|⟨blk',o1,z1,o2,g2,_,_,_,_,g6⟩
   ·rw[g4] at h;cases h
   ·rw[g6] at h;cases h;exact⟨_,_,g2⟩
  simp only at hk hk' hρ hρ'
  by_cases g1:y=nx
  ·by_cases g2:y'=nx
   ·rw[g1,g2]
   ·obtain⟨g3,k2,g4⟩:=get g2 hk'
    rw[g1,e2n] at hρ
    obtain⟨o1,z1,g5⟩:=nxρ hρ
    have e2:ρ2 y'=ρ y':=by simp only[ρ2];rw[if_neg g2]
    rw[e2] at hρ'
    exact absurd (hS.inj y' x _ _ _ _ _ _ _ g4 h3 hρ' g5) g3
  ·have e1:ρ2 y=ρ y:=by simp only[ρ2];rw[if_neg g1]
   rw[e1] at hρ
   obtain⟨g3,k1,g4⟩:=get g1 hk
   by_cases g2:y'=nx
   ·rw[g2,e2n] at hρ'
    obtain⟨o1,z1,g5⟩:=nxρ hρ'
    exact absurd (hS.inj y x _ _ _ _ _ _ _ g4 h3 hρ g5) g3
   ·obtain⟨_,k2,g6⟩:=get g2 hk'
    have e2:ρ2 y'=ρ y':=by simp only[ρ2];rw[if_neg g2]
    rw[e2] at hρ'
    exact hS.inj y y' _ _ _ _ _ _ _ g4 g6 hρ hρ'
theorem TT {H:Hp} {k b len i off:Nat} {e:TypeId} {sz:Nat} {d:AV} {es:List AV} (h:bt H b=some (.row e sz d es)) (hl:es.length=len):dY H (k+1) (.pt b len i off)= .ip sz .any (es.map (dY H k)) i off:=by
 simp only[dY,h];rw[if_pos hl]
theorem dH {H:Hp} {k b len:Nat} {e:TypeId} {sz:Nat} {d:AV} {es:List AV} (h:bt H b=some (.row e sz d es)) (hl:es.length=len):dY H (k+1) (.sl b len)= .im sz .any (es.map (dY H k)):=by
 simp only[dY,h];rw[if_pos hl]
theorem cn {H:Hp} (k:Nat) {es:List AV} (h:c8 0 es):es.map (dY H k)=es:=uh fun a ha=>dA k (nQ h a ha)
end Go.cw
namespace Go.cw
theorem lO.toN {P:Program} {f:FuncId} {args:List AV} {H:Hp} {nx:Nat} {K:AV->Hp->Prop} (h:lO P f args H nx K):cU P f args H nx (fun r H' n=>K r H'/\n=nx+1):=by
 refine⟨h.1,fun w0 c vs hS hH hU hv=>(h.2 w0 c vs hS hH (fun hu=>Nat.lt_irrefl _ (hU _ hu)) hv).mono ?_⟩
 rintro e w' ⟨v,r,H',ρ,he,hK,h1,h2,h3⟩
 refine⟨v,r,H',nx+1,ρ,_,he,⟨hK,rfl⟩, ?_,h1,h2,h3⟩
 rintro b (hb|rfl)
 ·have:=hU b hb;omega
 ·omega
theorem cU.TR {P:Program} {f:FuncId} {args args2:List AV} {e:TypeId} {sz:Nat} {es:List AV} (h:cU P f args2 [] 0 (fun r1 H1 _=>∃b d0,r1= .sl b es.length/\bt H1 b=some (.row e sz d0 es))) (hfl:∀i,i<es.length->gT (es.getD i .any)) {H:Hp} {nx:Nat} (ha:args.map (dY H 6)=args2) (hfa:c8 0 args2):
 cU P f args H nx (fun r H' n=>r= .sl nx es.length/\H'=(nx,some (.row e sz .any es))::H/\n=nx+1):=
 (h.MC hfl .any ha hfa).toN.mono fun r H' n ⟨⟨h1,h2⟩,h3⟩=>⟨h1,h2,h3⟩
end Go.cw
end
