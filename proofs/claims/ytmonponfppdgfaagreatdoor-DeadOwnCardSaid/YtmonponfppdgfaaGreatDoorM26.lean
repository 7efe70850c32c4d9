import Derived.Test.YtmonponfppdgfaaGreatDoorM25
import Derived.Test.YtmonponfppdgfaaGreatDoorM22
namespace Go.Proofs.YtmonponfppdgfaaGreatDoor
open Go Go.dD Go.Proofs
set_option linter.unusedSimpArgs false
set_option linter.unusedVariables false
abbrev tf (l:List Bool) (i:Nat):Bool:=l.getD i false
theorem sg {l:List Bool} {i:Nat} (h:tf l i=true):i<l.length:=by
 apply Classical.byContradiction
 intro hn
 unfold tf at h
 rw[List.getD,List.getElem?_eq_none (by omega)] at h
 cases h
theorem jD:∀{l m:List Nat},l.Nodup->(∀a∈l,a∈m)->l.length<=m.length
 |[],_,_,_=>Nat.zero_le _
 |a::l,m,h,hs=>by
  rw[List.nodup_cons] at h
  have h1:a∈m:=hs a (by simp)
  have:=jD (m:=m.erase a) h.2 fun x hx=>by
   have hne:x≠a:=fun e=>h.1 (e▸hx)
   exact(List.mem_erase_of_ne hne).2 (hs x (by simp[hx]))
  rw[List.length_erase_of_mem h1] at this
  have:=List.length_pos_of_mem h1
  simp only[List.length_cons]
  omega
abbrev hD (g:br) (i:Nat):Nat:=(g.nd i).next.toNat
def iter (g:br) (i:Nat):Nat->Nat
 |0=>i
 |k+1=>hD g (iter g i k)
theorem jM (g:br) (i a:Nat):∀b,iter g i (a+b)=iter g (iter g i a) b
 |0=>rfl
 |b+1=>by rw[<-Nat.add_assoc,iter,iter,jM g i a b]
theorem jh (g:br) (i:Nat) (k:Nat):iter g i (k+1)=iter g (hD g i) k:=by
 rw[Nat.add_comm,jM];rfl
def BH (l:List Bool) (g:br) (i:Nat):Prop:=∃p,1<=p/\iter g i p=i/\∀q,q<p->tf l (iter g i q)=true
theorem FO {g:br} {i p:Nat} (hp:iter g i p=i) (hmin:∀p',1<=p'->p'<p->iter g i p'≠i) {a b:Nat} (hab:a<b) (hb:b<p):iter g i a≠iter g i b:=by
 intro h
 refine hmin (a+(p - b)) (by omega) (by omega) ?_
 rw[jM,h,<-jM,show b+(p - b)=p by omega,hp]
theorem rP {P:Nat->Prop} (h:∃n,P n):∃n,P n/\∀m,m<n->¬P m:=by
 obtain⟨n,hn⟩:=h
 induction n using Nat.strongRecOn with
 |_ n ih=>
  by_cases h:∃m,m<n/\P m
  ·obtain⟨m,h1,h2⟩:=h;exact ih m h1 h2
  ·exact⟨n,hn,fun m hm hp=>h ⟨m,hm,hp⟩⟩
theorem np {g:br} {i p:Nat} (h:∀a b,a<b->b<p->iter g i a≠iter g i b):((List.range p).map (iter g i)).Nodup:=by
 induction p with
 |zero=>simp
 |succ p ih=>
  rw[List.range_succ,List.map_append,List.nodup_append]
  refine⟨ih fun a b h1 h2=>h a b h1 (by omega),by simp,fun x hx y hy=> ?_⟩
  simp only[List.map_cons,List.map_nil,List.mem_cons,List.not_mem_nil,or_false] at hy
  subst hy
  rw[List.mem_map] at hx
  obtain⟨a,ha,rfl⟩:=hx
  exact h a p (List.mem_range.1 ha) (by omega)
theorem DD {l:List Bool} {g:br} {i:Nat} (h:BH l g i):∃p,1<=p/\p<=l.length/\iter g i p=i/\∀q,q<p->tf l (iter g i q)=true:=by
 obtain⟨p,⟨h1,h2,h3⟩,hmin⟩:=rP h
 refine⟨p,h1, ?_,h2,h3⟩
 have hm:∀p',1<=p'->p'<p->iter g i p'≠i:=fun p' a b e=>hmin p' b ⟨a,e,fun q hq=>h3 q (by omega)⟩
 have hn:=np (g:=g) (i:=i) (p:=p) fun a b hab hb=>FO h2 hm hab hb
 have:=jD (m:=List.range l.length) hn fun x hx=>by
  rw[List.mem_map] at hx
  obtain⟨a,ha,rfl⟩:=hx
  exact List.mem_range.2 (sg (h3 a (List.mem_range.1 ha)))
 simpa using this
open Classical in
noncomputable def dE (l:List Bool) (g:br):List Bool:=(List.range l.length).map fun i=>tf l i&& !decide (BH l g i)
theorem fY (l:List Bool) (g:br):(dE l g).length=l.length:=by simp[dE]
theorem gC {l:List Bool} {g:br} {i:Nat}:tf (dE l g) i=true↔tf l i=true/\¬BH l g i:=by
 by_cases hi:i<l.length
 ·simp[tf,dE,List.getD,hi]
 ·constructor
  ·intro h;have:=sg h;rw[fY] at this;omega
  ·intro h;have:=sg h.1;omega
theorem CI (l:List Bool) (g:br) (i:Nat):∃k,k<=l.length/\tf (dE l g) (iter g i k)=false/\∀q,q<k->tf (dE l g) (iter g i q)=true:=by
 have hex:∃k,tf (dE l g) (iter g i k)=false:=by
  apply Classical.byContradiction
  intro hn
  have hall:∀k,tf (dE l g) (iter g i k)=true:=fun k=>by
   cases h:tf (dE l g) (iter g i k) with
   |true=>rfl
   |false=>exact absurd ⟨k,h⟩ hn
  have:¬((List.range (l.length+1)).map (iter g i)).Nodup:=fun hd=>by
   have:=jD (m:=List.range l.length) hd fun x hx=>by
    rw[List.mem_map] at hx
    obtain⟨a,ha,rfl⟩:=hx
    have:=sg (hall a)
    rw[fY] at this
    exact List.mem_range.2 this
   simp at this
   omega
  refine this (np fun a b hab hb e=> ?_)
  have h1:=(gC.1 (hall a)).2
  refine h1 ⟨b - a,by omega, ?_,fun q _=> ?_⟩
  ·rw[<-jM,show a+(b - a)=b by omega,<-e]
  ·rw[<-jM];exact(gC.1 (hall _)).1
 obtain⟨k,h1,h2⟩:=rP hex
 have hq:∀q,q<k->tf (dE l g) (iter g i q)=true:=fun q hq=>by
  have:=h2 q hq
  cases h:tf (dE l g) (iter g i q) with
  |true=>rfl
  |false=>exact absurd h this
 refine⟨k, ?_,h1,hq⟩
 have hd:((List.range k).map (iter g i)).Nodup:=np fun a b hab hb e=>by
  have h1:=(gC.1 (hq a (by omega))).2
  refine h1 ⟨b - a,by omega, ?_,fun q hqb=> ?_⟩
  ·rw[<-jM,show a+(b - a)=b by omega,<-e]
  ·rw[<-jM];exact(gC.1 (hq _ (by omega))).1
 have:=jD (m:=List.range l.length) hd fun x hx=>by
  rw[List.mem_map] at hx
  obtain⟨a,ha,rfl⟩:=hx
  have:=sg (hq a (List.mem_range.1 ha))
  rw[fY] at this
  exact List.mem_range.2 this
 simpa using this
def wa (out:List Bool) (g:br):Nat->Nat->Nat
 |0,i=>i
 |f+1,i=>if tf out i=true then wa out g f (hD g i) else i
def dX (out:List Bool) (g:br) (i:Nat):Nat:=wa out g out.length i
def Ends (out:List Bool) (g:br):Prop:=∀i,∃k,k<=out.length/\tf out (iter g i k)=false/\∀q,q<k->tf out (iter g i q)=true
theorem pL (l:List Bool) (g:br):Ends (dE l g) g:=fun i=>by rw[fY];exact CI l g i
theorem jo (out:List Bool) (g:br):∀(k f i:Nat),k<=f->tf out (iter g i k)=false->(∀q,q<k->tf out (iter g i q)=true)->wa out g f i=iter g i k
 |0,0,i,_,_,_=>rfl
 |0,f+1,i,_,h,_=>by rw[wa,if_neg (by rw[show tf out i=false from h];decide)];rfl
 |k+1,f+1,i,hk,h,hq=>by
  rw[wa,if_pos (show tf out i=true from hq 0 (by omega)),jh]
  refine jo out g k f _ (by omega) ?_ fun q hqk=> ?_
  ·rw[<-jh];exact h
  ·rw[<-jh];exact hq (q+1) (by omega)
theorem wb {out:List Bool} {g:br} (h:Ends out g) (i:Nat):tf out (dX out g i)=false:=by
 obtain⟨k,h1,h2,h3⟩:=h i
 rw[dX,jo out g k _ i h1 h2 h3];exact h2
theorem pS {out:List Bool} {g:br} {i:Nat} (hi:tf out i=false):dX out g i=i:=jo out g 0 _ i (Nat.zero_le _) hi fun q hq=>by omega
theorem KB {out:List Bool} {g:br} (h:Ends out g) {i:Nat} (hi:tf out i=true):dX out g i=dX out g (hD g i):=by
 obtain⟨k,h1,h2,h3⟩:=h i
 cases k with
 |zero=>rw[show tf out (iter g i 0)=tf out i from rfl,hi] at h2;cases h2
 |succ k=>
  rw[dX,jo out g (k+1) _ i h1 h2 h3,jh]
  refine(jo out g k _ _ (by omega) ?_ fun q hq=> ?_).symm
  ·rw[<-jh];exact h2
  ·rw[<-jh];exact h3 (q+1) (by omega)
theorem oY {out:List Bool} {g:br} (h:Ends out g) {P:Nat->Prop} (hp:∀i,tf out i=true->P i->P (hD g i)) {i:Nat} (hi:P i):P (dX out g i):=by
 obtain⟨k,h1,h2,h3⟩:=h i
 rw[dX,jo out g k _ i h1 h2 h3]
 clear h1 h2
 induction k with
 |zero=>exact hi
 |succ k ih=>exact hp _ (h3 k (by omega)) (ih fun q hq=>h3 q (by omega))
noncomputable def dJ (g:br) (cls:List cF) (t:Nat) (i:Nat):Bool:=
 let n:=g.nd i
 iF (cj g (-1)) (i:Int)&&(if n.kind=1 then !kX (eN g) n n.slot.toNat||(decide (n.op=0)&&n.a.eA&&decide (n.a.slot=n.slot)) else if n.kind=2 then decide ((cls.getD n.cT.toNat default).kind≠3)&& !kX (eN g) n n.slot.toNat else if n.kind=3 then ny cls t n.cT.toNat&& !kX (kU g cls t) n n.cT.toNat else if n.kind=8 then decide (n.next=n.jc) else false)
noncomputable def df (g:br) (cls:List cF) (t:Nat) (m:Nat):List Bool:=(List.range m).map (dJ g cls t)
noncomputable def kS (g:br) (cls:List cF) (t:Nat):List Bool:=df g cls t g.nodes.length
noncomputable def eR (g:br) (cls:List cF) (t:Nat):List Bool:=dE (kS g cls t) g
theorem kz (g:br) (cls:List cF) (t:Nat):(kS g cls t).length=g.nodes.length:=by simp[kS,df]
theorem mn (g:br) (cls:List cF) (t:Nat):(eR g cls t).length=g.nodes.length:=by rw[eR,fY,kz]
noncomputable def ca (g:br) (out:List Bool):List Nat:=dX out g 0::(List.range g.nodes.length).filter fun i=>iF (cj g (-1)) (i:Int)&& !tf out i&&decide (i≠dX out g 0)
def eC (o:List Nat) (i:Nat):Nat:=(o.findIdx? (fun j=>decide (j=i))).getD 0
def dH (g:br) (out:List Bool) (o:List Nat) (n:Node):Node:={ n with next:=if n.kind≠9 then(eC o (dX out g n.next.toNat):Int) else n.next,jc:=if n.kind=8 then(eC o (dX out g n.jc.toNat):Int) else n.jc }
noncomputable def fj (g:br) (cls:List cF) (t:Nat):br:={ g with nodes:=(ca g (eR g cls t)).map fun i=>dH g (eR g cls t) (ca g (eR g cls t)) (g.nd i) }
noncomputable def dA (u:bq):bq:={ u with bo:=(List.range u.bo.length).map fun t=>fj (u.gr t) (ck u) t }
def fW (u:bq):Nat:=(u.bo.map fun g=>g.nodes.length).sum
open Classical in
noncomputable def fO:Nat->bq->bq
 |0,v=>v
 |f+1,v=>if dA v=v then v else fO f (dA v)
noncomputable def gF (u:bq):bq:=fO (fW u) (dA u)
end Go.Proofs.YtmonponfppdgfaaGreatDoor
namespace Go.dD
open Go.RowKit
theorem Wk.NB {H:Hp} {nx b:Nat} {e:TypeId} {sz:Nat} {d:AV} {es es2:List AV} (d2:AV) (hb:bk H b=some (.row e sz d es)) (hl:es.length=es2.length) (h:∀c c2:Cx,c.le c2->c2.w=c.w->dI c c2 es es2):Wk .any H nx .any ((b,some (.row e sz d2 es2))::H) nx:=by
 refine Wk.tell (Nat.le_refl _) (fun x e' sz' d' es' he=> ?_) (fun w0 c c2 hS hU hc hc2 hw hle hnew hM=>⟨dk.any _ _ _,fun x e' sz' d' es' d0 es0 h1 h2=> ?_⟩)
 ·by_cases hx:x=b
  ·subst hx
   rw[ch] at he
   cases he
   exact .inl ⟨d,es,hb,hl⟩
  ·rw[cQ hx] at he
   exact .inl ⟨d',es',he,rfl⟩
 ·by_cases hx:x=b
  ·subst hx
   rw[ch] at h1
   rw[hb] at h2
   cases h1;cases h2
   exact h c c2 hle hw
  ·rw[cQ hx] at h1
   rw[h1] at h2;cases h2
   exact dI.cH hle _
theorem dI.rep {c c2:Cx} {a b:AV} (h:dk c c2 a b):∀n,dI c c2 (List.replicate n a) (List.replicate n b)
 |0=> .nil
 |n+1=> .cons h (dI.rep h n)
end Go.dD
namespace Go.Proofs.YtmonponfppdgfaaGreatDoor
open Go Go.dD Go.Proofs
set_option linter.unusedSimpArgs false
set_option linter.unusedVariables false
theorem o5 {l:List Int} {i:Nat} (h:i<l.length) (d:AV):(l.map i64).getD i d=i64 (l.getD i 0):=dG i64 l i d h
theorem tA {es:List AV} (hsz:es.length * 8<=140737488355328):cM Tryz.prog 89 [.im 1 .any es] [] 0 (nW [] 0 3 1 es):=by
 refine nW.of (by omega) ?_
 refine aI HR rfl ?_
 cases hes:es with
 |nil=>
  repeat' (first|refine aQ ?_|exact aC|with_reducible refine aB ?_ ?_|(apply aA;(·exact bp))|refine aH ?_|((with_reducible refine aE ?_ ?_)<;>intro hc<;>try(exfalso;omega)))
  ·exact⟨.inl ⟨rfl,rfl,cI,kE⟩⟩
  ·exact⟨.inr ⟨_,_,rfl,cI,cI,cI,bm,kE⟩⟩
 |cons x t=>
  rw[hes] at hsz
  simp only[List.length_cons] at hsz
  repeat' (first|refine aQ ?_|exact aC|with_reducible refine aB ?_ ?_|(apply aA;(·exact bp))|refine aH ?_|((with_reducible refine aE ?_ ?_)<;>intro hc<;>try(exfalso;omega)))
  ·exact⟨.inr ⟨3,_,(by simp),cI,cI,cI,bm,kE⟩⟩
theorem nK {es:List AV} (hsz:es.length * 8<=140737488355328):cM Tryz.prog 89 [.im 1 .any es] [] 0 (fun r1 H1 _=>∃b d0,r1= .sl b es.length/\bk H1 b=some (.row 3 1 d0 es)):=
 (tA hsz).mono fun r H n ⟨b,d,h1,_,_,_,h2,_⟩=>⟨b,d,h1,h2⟩
theorem wF (l m:List Int) (hl:l.length * 8<=140737488351232) (hm:m.length * 8<=140737488351232):Pure Tryz.prog 91 [dV l,dV m] (fun r=>r=bl (decide (l=m))):=by
 refine aG HU rfl ?_
 unfold dV
 repeat' (first|refine aQ ?_|exact aC|with_reducible refine aB ?_ ?_|(apply aA;(·exact bp))|refine aH ?_|((with_reducible refine aE ?_ ?_)<;>intro hc<;>try(exfalso;omega)))
 ·refine cn (Eq.symm ?_)
  exact decide_eq_false fun e=>hc (by rw[e])
 ·have hlm:l.length=m.length:=by omega
  refine aF (fun i:Nat=>[(0,dV l),(1,dV m),(12,i64 l.length),(13,i64 i)])
   (fun i H n=>i<=l.length/\∀j,j<i->l.getD j 0=m.getD j 0) (fun i=>l.length - i) 0 bu ⟨Nat.zero_le _,fun _ h=>by omega⟩ ?_
  unfold dV
  rintro i H n ⟨hi,hall⟩
  by_cases hil:i<l.length
  ·have e1:=o5 (l:=l) hil
   have e2:=o5 (l:=m) (i:=i) (by omega)
   repeat' (first|refine aQ ?_|exact aC|with_reducible refine aB ?_ ?_|(apply aA;(·(first|exact e1 _|exact e2 _|exact bp)))|refine aH ?_|((with_reducible refine aE ?_ ?_)<;>intro hc<;>try(exfalso;omega)))
   ·refine cn (Eq.symm ?_)
    exact decide_eq_false fun e=>hc (by rw[e])
   ·refine⟨i+1,by omega,bu,by omega,fun j hj=> ?_⟩
    by_cases hji:j=i
    ·subst hji;exact hc
    ·exact hall j (by omega)
  ·have:i=l.length:=by omega
   subst this
   repeat' (first|refine aQ ?_|exact aC|with_reducible refine aB ?_ ?_|(apply aA;(·exact bp))|refine aH ?_|((with_reducible refine aE ?_ ?_)<;>intro hc<;>try(exfalso;omega)))
   refine cn (Eq.symm ?_)
   refine decide_eq_true (List.ext_getElem hlm fun j h1 h2=> ?_)
   have:=hall j h1
   simpa[List.getD,h1,h2] using this
def Told (nv:AV) (l:List Int) (H:Hp) (nx:Nat):Prop:=nv=dV l\/∃b d,nv= .sl b l.length/\b<nx/\bk H b=some (.row 3 1 d (l.map i64))
theorem Told.de {nv:AV} {l:List Int} {H:Hp} {nx:Nat} (h:Told nv l H nx) (k:Nat):dD.de H (k+1) nv=dV l:=by
 rcases h with rfl|⟨b,d,rfl,_,hb⟩
 ·exact dB _ (by simp[cJ,dV,cK])
 ·rw[dM hb (by simp),cf _ ((cK _ _).2 fun _ _=>by simp[cJ])];rfl
theorem qu {nv:AV} {l:List Int} {H:Hp} {nx:Nat} (h:Told nv l H nx) (m:List Int) (hl:l.length * 8<=140737488351232) (hm:m.length * 8<=140737488351232):cM Tryz.prog 91 [dV m,nv] H nx (fun r H' n=>r=bl (decide (m=l))/\H'=H/\n=nx):=by
 refine Pure.view (args2:=[dV m,dV l]) (wF m l hm hl) ?_ (by simp[cL,cJ,dV,cK]) trivial ⟨rfl,rfl,rfl⟩
 rw[List.map_cons,List.map_cons,List.map_nil,h.de,dB 6 (by simp[cJ,dV,cK])]
theorem l3 {nv:AV} {l:List Int} {H:Hp} {nx:Nat} (h:Told nv l H nx) (hl:l.length * 8<=140737488351232):cM Tryz.prog 89 [nv] H nx (fun r H' n=>r=dV l/\nx<=n/\∀b,b<nx->bk H' b=bk H b):=by
 refine cM.wk (cM.MC (es:=l.map i64) (args2:=[dV l]) (nK (by rw[List.length_map];omega)) (fun i hi=>by rw[dG i64 _ _ _ (by simpa using hi)];trivial) (by rw[List.map_cons,List.map_nil,h.de]) (by simp[cL,cJ,dV,cK])) ?_
 rintro r H' n ⟨rfl,rfl,rfl⟩
 have hw:=Wk.N6 (r:= .sl nx (l.map i64).length) (H:=(nx,some (.row 3 1 .any (l.map i64)))::H) (nx:=nx+1) [(nx,some (.row 3 1 .any (l.map i64)))] 1 (fun b q hq=>by
  by_cases hb:b=nx
  ·subst hb;rw[ch] at hq ⊢;exact hq
  ·rw[cQ hb] at hq;cases hq)
 refine⟨_,_,_,hw, ?_,by omega,fun b hb=> ?_⟩
 ·rw[pU (ch _ _ _) rfl,wh];rfl
 ·rw[lR,uM,cQ (by omega),cQ (by omega)]
theorem iP {n:Node} {k:Int}:k∈n.fold↔k∈n.dQ:=by
 have:=vr (fun j=>decide (j=k)) n
 rw[Bool.eq_iff_iff,List.any_eq_true,List.any_eq_true] at this
 constructor
 ·intro h;obtain⟨x,h1,h2⟩:=this.1 ⟨k,h,by simp⟩;rw[<-of_decide_eq_true h2];exact h1
 ·intro h;obtain⟨x,h1,h2⟩:=this.2 ⟨k,h,by simp⟩;rw[<-of_decide_eq_true h2];exact h1
theorem mJ (n:Node):n.fold.length<=2:=by unfold Node.fold;split<;>(try split)<;>simp
theorem ml (n:Node):n.dQ.length<=2:=by unfold Node.dQ;split<;>(try split)<;>simp
theorem gd {α:Type} {l:List α} {q:Nat} (h:q<l.length) (d:α):l.getD q d=l[q]:=by simp[List.getD,h]
theorem oP (n:Nat) (l:List Int):cL n (l.map i64):=(cK _ _).2 fun _ _=>by simp[cJ]
theorem jd (n:Nat) (l:List Bool):cL n (l.map bl):=(cK _ _).2 fun _ _=>by simp[cJ]
theorem eH {l:List Node} {i:Nat} (h:i<l.length) (d:AV):(l.map Node.av).getD ((i:Int).toNat) d=(l.getD i default).av:=by
 rw[Int.toNat_natCast];exact dG Node.av l i d h
theorem j3 {l:List br} {i:Nat} (h:i<l.length) (d:AV):(l.map br.av).getD ((i:Int).toNat) d=(l.getD i default).av:=by
 rw[Int.toNat_natCast];exact dG br.av l i d h
theorem e9 {l:List Int} {i:Nat} (h:i<l.length) (d:AV):(l.map i64).getD ((i:Int).toNat) d=i64 (l.getD i 0):=by
 rw[Int.toNat_natCast];exact dG i64 l i d h
theorem sq (g:br) (hg:g.Wf):Pure Tryz.prog 73 [g.av] (fun r=>r=bl (l5 g)):=by
 have hl:=hg.len
 refine aG HA rfl ?_
 repeat' (first|refine aQ ?_|exact cP|with_reducible refine aB ?_ ?_|((with_reducible refine Ask.mk ?_);first|exact bx|exact bt|(intro h;simp_all[br.cells]<;>fail)|(simp_all[br.cells]<;>fail))|(apply aA;(·exact bp))|refine aH ?_|((with_reducible refine aE ?_ ?_)<;>intro hc<;>try(exfalso;omega)))
 ·refine cn (Eq.symm ?_)
  unfold l5
  by_cases h1:1<=g.nodes.length
  ·rw[decide_eq_false (show ¬g.nodes.length<=4096 by omega)];simp
  ·rw[decide_eq_false h1];simp
 ·simp only[List.length_map]
  refine aF (fun i:Nat=>[(1, .pt 0 1 0 0),(18,ee g.nodes),(19,i64 g.nodes.length),(20,i64 i)])
   (fun i H n=>i<=g.nodes.length/\16<=n/\(∃d,bk H 0=some (.row 40 4 d [g.av]))/\∀j,j<i->sa g.nodes.length (g.nd j)=true) (fun i=>g.nodes.length - i) 0 bu ⟨Nat.zero_le _,cI,⟨_,bm⟩,fun _ h=>by omega⟩ ?_
  rintro i H n ⟨hi,hn,⟨d0,r0⟩,hall⟩
  by_cases hil:i<g.nodes.length
  ·have hbad:sa g.nodes.length (g.nd i)=false->l5 g=false:=fun h=>by
    unfold l5
    rw[Bool.and_eq_false_iff]
    right
    rw[Bool.eq_false_iff,ne_eq,List.all_eq_true]
    intro hA
    have:=hA _ (cE default hil)
    rw[show g.nodes.getD i default=g.nd i from rfl,h] at this;cases this
   have hf:=lQ (g.nd i)
   have h2:=mJ (g.nd i)
   unfold dV at hf
   repeat' (first|refine aQ ?_|exact cP|with_reducible refine aB ?_ ?_|((with_reducible refine Ask.mk ?_);first|exact bx|exact bt|(intro h;simp_all[br.cells,Node.cells]<;>fail)|(simp_all[br.cells,Node.cells]<;>fail))|(apply aA;(·(first|exact eH hil _|exact bp)))|refine aK (hf) ?_|refine aH ?_|((with_reducible refine aE ?_ ?_)<;>intro hc<;>try(exfalso;omega)))
   ·refine cn (Eq.symm (hbad ?_))
    unfold sa
    have hc:(g.nd i).kind=0\/10<=(g.nd i).kind:=hc
    by_cases h1:(g.nd i).kind<10
    ·rw[decide_eq_false (show ¬1<=(g.nd i).kind by omega)];simp
    ·rw[decide_eq_false h1];simp
   ·have hk0:0<=(g.nd i).kind:=(hg.nodes _ (cE default hil)).kind.1
    have hkk:¬(g.nd i).kind=0/\(g.nd i).kind<10:=hc
    clear hf
    simp only[List.length_map]
    refine aF (fun j:Nat=>[(1, .pt 0 1 0 0),(4, .pt (n+3) 1 0 0),(18,ee g.nodes),(19,i64 g.nodes.length),(20,i64 i),(33,dV (g.nd i).fold),(34,i64 (g.nd i).fold.length),(35,i64 j)])
     (fun j H2 n2=>j<=(g.nd i).fold.length/\n+4<=n2/\(∃d,bk H2 0=some (.row 40 4 d [g.av]))/\∀q,q<j->0<=(g.nd i).fold.getD q 0/\(g.nd i).fold.getD q 0<g.nodes.length) (fun j=>(g.nd i).fold.length - j) 0 bu ⟨Nat.zero_le _,cI,⟨_,bm⟩,fun _ h=>by omega⟩ ?_
    clear r0
    rintro j H2 n2 ⟨hj,hn2,⟨d02,r02⟩,hq⟩
    unfold dV
    by_cases hjl:j<(g.nd i).fold.length
    ·repeat' (first|refine aQ ?_|exact cP|with_reducible refine aB ?_ ?_|((with_reducible refine Ask.mk ?_);first|exact bx|exact bt|(intro h;simp_all[br.cells]<;>fail)|(simp_all[br.cells]<;>fail))|(apply aA;(·(first|exact e9 hjl _|exact bp)))|refine aH ?_|((with_reducible refine aE ?_ ?_)<;>intro hc<;>try(exfalso;omega)))
     ·refine cn (Eq.symm (hbad ?_))
      unfold sa
      rw[Bool.and_eq_false_iff]
      right
      rw[Bool.eq_false_iff,ne_eq,List.all_eq_true]
      intro hA
      have:=hA _ (iP.1 (cE 0 hjl))
      simp only[Bool.and_eq_true,decide_eq_true_eq] at this
      omega
     ·refine⟨j+1,by omega,bu,by omega,by omega,⟨_,bm⟩,fun q hq2=> ?_⟩
      by_cases e:q=j
      ·rw[e];omega
      ·exact hq q (by omega)
    ·have:j=(g.nd i).fold.length:=by omega
     subst this
     repeat' (first|refine aQ ?_|exact aC|with_reducible refine aB ?_ ?_|(apply aA;(·exact bp))|refine aH ?_|((with_reducible refine aE ?_ ?_)<;>intro hc<;>try(exfalso;omega)))
     refine⟨i+1,by omega,bu,by omega,by omega,⟨_,bm⟩,fun j hj=> ?_⟩
     by_cases e:j=i
     ·rw[e]
      unfold sa
      rw[decide_eq_true (show 1<=(g.nd i).kind by omega),decide_eq_true hkk.2]
      simp only[Bool.true_and]
      rw[List.all_eq_true]
      intro k hk
      obtain⟨q,hq1,e⟩:=List.getElem_of_mem (iP.2 hk)
      have:=hq q hq1
      rw[gd hq1,e] at this
      simp[this.1,this.2]
     ·exact hall j (by omega)
  ·have:i=g.nodes.length:=by omega
   subst this
   repeat' (first|refine aQ ?_|exact aC|with_reducible refine aB ?_ ?_|(apply aA;(·exact bp))|refine aH ?_|((with_reducible refine aE ?_ ?_)<;>intro hc<;>try(exfalso;omega)))
   refine cn (Eq.symm ?_)
   unfold l5
   rw[decide_eq_true (show 1<=g.nodes.length by omega),decide_eq_true (show g.nodes.length<=4096 by omega)]
   simp only[Bool.true_and]
   rw[List.all_eq_true]
   intro m hm
   obtain⟨q,hq1,rfl⟩:=List.getElem_of_mem hm
   have:=hall q hq1
   rw[show g.nd q=g.nodes[q] by simp[List.getD,hq1]] at this
   exact this
theorem om (g:br) (hg:g.Wf) (hw:l5 g=true) (hs:Pure Tryz.prog 74 [g.av,i64 (-1)] (fun r=>r=fE (cj g (-1)))):Pure Tryz.prog 42 [g.av] (fun r=>r=fE (cj g (-1))):=by
 refine aG GG rfl ?_
 have h1:=sq g hg
 rw[hw] at h1
 repeat' (first|refine aQ ?_|exact cP|with_reducible refine aB ?_ ?_|((with_reducible refine Ask.mk ?_);first|exact bx|exact bt|(intro h;simp_all[br.cells]<;>fail)|(simp_all[br.cells]<;>fail))|(apply aA;(·exact bp))|refine aK (h1) ?_|refine aK (hs) ?_|refine aH ?_|((with_reducible refine aE ?_ ?_)<;>intro hc<;>try(exfalso;omega)))
 exact vg.eq (by simp[cJ,fE,cK]) rfl
end Go.Proofs.YtmonponfppdgfaaGreatDoor
