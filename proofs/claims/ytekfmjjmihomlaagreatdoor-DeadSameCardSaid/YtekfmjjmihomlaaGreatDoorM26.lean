import Derived.Test.YtekfmjjmihomlaaGreatDoorM25
import Derived.Test.YtekfmjjmihomlaaGreatDoorM22
namespace Go.Proofs.YtekfmjjmihomlaaGreatDoor
open Go Go.cw Go.Proofs
set_option linter.unusedSimpArgs false
set_option linter.unusedVariables false
abbrev tf (l:List Bool) (i:Nat):Bool:=l.getD i false
theorem uy {l:List Bool} {i:Nat} (h:tf l i=true):i<l.length:=by
 apply Classical.byContradiction
 intro hn
 unfold tf at h
 rw[List.getD,List.getElem?_eq_none (by omega)] at h
 cases h
theorem jC:∀{l m:List Nat},l.Nodup->(∀a∈l,a∈m)->l.length<=m.length
 |[],_,_,_=>Nat.zero_le _
 |a::l,m,h,hs=>by
  rw[List.nodup_cons] at h
  have h1:a∈m:=hs a (by simp)
  have:=jC (m:=m.erase a) h.2 fun x hx=>by
   have hne:x≠a:=fun e=>h.1 (e▸hx)
   exact(List.mem_erase_of_ne hne).2 (hs x (by simp[hx]))
  rw[List.length_erase_of_mem h1] at this
  have:=List.length_pos_of_mem h1
  simp only[List.length_cons]
  omega
abbrev iD (g:bu) (i:Nat):Nat:=(g.nd i).next.toNat
def iter (g:bu) (i:Nat):Nat->Nat
 |0=>i
 |k+1=>iD g (iter g i k)
theorem jL (g:bu) (i a:Nat):∀b,iter g i (a+b)=iter g (iter g i a) b
 |0=>rfl
 |b+1=>by rw[<-Nat.add_assoc,iter,iter,jL g i a b]
theorem iC (g:bu) (i:Nat) (k:Nat):iter g i (k+1)=iter g (iD g i) k:=by
 rw[Nat.add_comm,jL];rfl
def RD (l:List Bool) (g:bu) (i:Nat):Prop:=∃p,1<=p/\iter g i p=i/\∀q,q<p->tf l (iter g i q)=true
theorem NG {g:bu} {i p:Nat} (hp:iter g i p=i) (hmin:∀p',1<=p'->p'<p->iter g i p'≠i) {a b:Nat} (hab:a<b) (hb:b<p):iter g i a≠iter g i b:=by
 intro h
 refine hmin (a+(p - b)) (by omega) (by omega) ?_
 rw[jL,h,<-jL,show b+(p - b)=p by omega,hp]
theorem tZ {P:Nat->Prop} (h:∃n,P n):∃n,P n/\∀m,m<n->¬P m:=by
 obtain⟨n,hn⟩:=h
 induction n using Nat.strongRecOn with
 |_ n ih=>
  by_cases h:∃m,m<n/\P m
  ·obtain⟨m,h1,h2⟩:=h;exact ih m h1 h2
  ·exact⟨n,hn,fun m hm hp=>h ⟨m,hm,hp⟩⟩
theorem pA {g:bu} {i p:Nat} (h:∀a b,a<b->b<p->iter g i a≠iter g i b):((List.range p).map (iter g i)).Nodup:=by
 induction p with
 |zero=>simp
 |succ p ih=>
  rw[List.range_succ,List.map_append,List.nodup_append]
  refine⟨ih fun a b h1 h2=>h a b h1 (by omega),by simp,fun x hx y hy=> ?_⟩
  simp only[List.map_cons,List.map_nil,List.mem_cons,List.not_mem_nil,or_false] at hy
  subst hy
  rw[List.mem_map] at hx
  obtain⟨a,ha,rfl⟩:=hx
  exact h a p (List.mem_range.1 ha) (by omega)
theorem J7 {l:List Bool} {g:bu} {i:Nat} (h:RD l g i):∃p,1<=p/\p<=l.length/\iter g i p=i/\∀q,q<p->tf l (iter g i q)=true:=by
 obtain⟨p,⟨h1,h2,h3⟩,hmin⟩:=tZ h
 refine⟨p,h1, ?_,h2,h3⟩
 have hm:∀p',1<=p'->p'<p->iter g i p'≠i:=fun p' a b e=>hmin p' b ⟨a,e,fun q hq=>h3 q (by omega)⟩
 have hn:=pA (g:=g) (i:=i) (p:=p) fun a b hab hb=>NG h2 hm hab hb
 have:=jC (m:=List.range l.length) hn fun x hx=>by
  rw[List.mem_map] at hx
  obtain⟨a,ha,rfl⟩:=hx
  exact List.mem_range.2 (uy (h3 a (List.mem_range.1 ha)))
 simpa using this
open Classical in
noncomputable def fN (l:List Bool) (g:bu):List Bool:=(List.range l.length).map fun i=>tf l i&& !decide (RD l g i)
theorem gw (l:List Bool) (g:bu):(fN l g).length=l.length:=by simp[fN]
theorem fT {l:List Bool} {g:bu} {i:Nat}:tf (fN l g) i=true↔tf l i=true/\¬RD l g i:=by
 by_cases hi:i<l.length
 ·simp[tf,fN,List.getD,hi]
 ·constructor
  ·intro h;have:=uy h;rw[gw] at this;omega
  ·intro h;have:=uy h.1;omega
theorem I7 (l:List Bool) (g:bu) (i:Nat):∃k,k<=l.length/\tf (fN l g) (iter g i k)=false/\∀q,q<k->tf (fN l g) (iter g i q)=true:=by
 have hex:∃k,tf (fN l g) (iter g i k)=false:=by
  apply Classical.byContradiction
  intro hn
  have hall:∀k,tf (fN l g) (iter g i k)=true:=fun k=>by
   cases h:tf (fN l g) (iter g i k) with
   |true=>rfl
   |false=>exact absurd ⟨k,h⟩ hn
  have:¬((List.range (l.length+1)).map (iter g i)).Nodup:=fun hd=>by
   have:=jC (m:=List.range l.length) hd fun x hx=>by
    rw[List.mem_map] at hx
    obtain⟨a,ha,rfl⟩:=hx
    have:=uy (hall a)
    rw[gw] at this
    exact List.mem_range.2 this
   simp at this
   omega
  refine this (pA fun a b hab hb e=> ?_)
  have h1:=(fT.1 (hall a)).2
  refine h1 ⟨b - a,by omega, ?_,fun q _=> ?_⟩
  ·rw[<-jL,show a+(b - a)=b by omega,<-e]
  ·rw[<-jL];exact(fT.1 (hall _)).1
 obtain⟨k,h1,h2⟩:=tZ hex
 have hq:∀q,q<k->tf (fN l g) (iter g i q)=true:=fun q hq=>by
  have:=h2 q hq
  cases h:tf (fN l g) (iter g i q) with
  |true=>rfl
  |false=>exact absurd h this
 refine⟨k, ?_,h1,hq⟩
 have hd:((List.range k).map (iter g i)).Nodup:=pA fun a b hab hb e=>by
  have h1:=(fT.1 (hq a (by omega))).2
  refine h1 ⟨b - a,by omega, ?_,fun q hqb=> ?_⟩
  ·rw[<-jL,show a+(b - a)=b by omega,<-e]
  ·rw[<-jL];exact(fT.1 (hq _ (by omega))).1
 have:=jC (m:=List.range l.length) hd fun x hx=>by
  rw[List.mem_map] at hx
  obtain⟨a,ha,rfl⟩:=hx
  have:=uy (hq a (List.mem_range.1 ha))
  rw[gw] at this
  exact List.mem_range.2 this
 simpa using this
def zX (out:List Bool) (g:bu):Nat->Nat->Nat
 |0,i=>i
 |f+1,i=>if tf out i=true then zX out g f (iD g i) else i
def eR (out:List Bool) (g:bu) (i:Nat):Nat:=zX out g out.length i
def Ends (out:List Bool) (g:bu):Prop:=∀i,∃k,k<=out.length/\tf out (iter g i k)=false/\∀q,q<k->tf out (iter g i q)=true
theorem vy (l:List Bool) (g:bu):Ends (fN l g) g:=fun i=>by rw[gw];exact I7 l g i
theorem lH (out:List Bool) (g:bu):∀(k f i:Nat),k<=f->tf out (iter g i k)=false->(∀q,q<k->tf out (iter g i q)=true)->zX out g f i=iter g i k
 |0,0,i,_,_,_=>rfl
 |0,f+1,i,_,h,_=>by rw[zX,if_neg (by rw[show tf out i=false from h];decide)];rfl
 |k+1,f+1,i,hk,h,hq=>by
  rw[zX,if_pos (show tf out i=true from hq 0 (by omega)),iC]
  refine lH out g k f _ (by omega) ?_ fun q hqk=> ?_
  ·rw[<-iC];exact h
  ·rw[<-iC];exact hq (q+1) (by omega)
theorem zY {out:List Bool} {g:bu} (h:Ends out g) (i:Nat):tf out (eR out g i)=false:=by
 obtain⟨k,h1,h2,h3⟩:=h i
 rw[eR,lH out g k _ i h1 h2 h3];exact h2
theorem jA {out:List Bool} {g:bu} {i:Nat} (hi:tf out i=false):eR out g i=i:=lH out g 0 _ i (Nat.zero_le _) hi fun q hq=>by omega
theorem xi {out:List Bool} {g:bu} (h:Ends out g) {i:Nat} (hi:tf out i=true):eR out g i=eR out g (iD g i):=by
 obtain⟨k,h1,h2,h3⟩:=h i
 cases k with
 |zero=>rw[show tf out (iter g i 0)=tf out i from rfl,hi] at h2;cases h2
 |succ k=>
  rw[eR,lH out g (k+1) _ i h1 h2 h3,iC]
  refine(lH out g k _ _ (by omega) ?_ fun q hq=> ?_).symm
  ·rw[<-iC];exact h2
  ·rw[<-iC];exact h3 (q+1) (by omega)
theorem uD {out:List Bool} {g:bu} (h:Ends out g) {P:Nat->Prop} (hp:∀i,tf out i=true->P i->P (iD g i)) {i:Nat} (hi:P i):P (eR out g i):=by
 obtain⟨k,h1,h2,h3⟩:=h i
 rw[eR,lH out g k _ i h1 h2 h3]
 clear h1 h2
 induction k with
 |zero=>exact hi
 |succ k ih=>exact hp _ (h3 k (by omega)) (ih fun q hq=>h3 q (by omega))
noncomputable def eF (g:bu) (cls:List cY) (t:Nat) (i:Nat):Bool:=
 let n:=g.nd i
 ji (dW g (-1)) (i:Int)&&(if n.kind=1 then !mb (iO g) n n.slot.toNat||(decide (n.op=0)&&n.a.ee&&decide (n.a.slot=n.slot)) else if n.kind=2 then decide ((cls.getD n.cB.toNat default).kind≠3)&& !mb (iO g) n n.slot.toNat else if n.kind=3 then jr cls t n.cB.toNat&& !mb (oU g cls t) n n.cB.toNat else if n.kind=8 then decide (n.next=n.iu) else false)
noncomputable def fI (g:bu) (cls:List cY) (t:Nat) (m:Nat):List Bool:=(List.range m).map (eF g cls t)
noncomputable def lS (g:bu) (cls:List cY) (t:Nat):List Bool:=fI g cls t g.nodes.length
noncomputable def fG (g:bu) (cls:List cY) (t:Nat):List Bool:=fN (lS g cls t) g
theorem oB (g:bu) (cls:List cY) (t:Nat):(lS g cls t).length=g.nodes.length:=by simp[lS,fI]
theorem qq (g:bu) (cls:List cY) (t:Nat):(fG g cls t).length=g.nodes.length:=by rw[fG,gw,oB]
noncomputable def cS (g:bu) (out:List Bool):List Nat:=eR out g 0::(List.range g.nodes.length).filter fun i=>ji (dW g (-1)) (i:Int)&& !tf out i&&decide (i≠eR out g 0)
def eS (o:List Nat) (i:Nat):Nat:=(o.findIdx? (fun j=>decide (j=i))).getD 0
def dQ (g:bu) (out:List Bool) (o:List Nat) (n:Node):Node:={ n with next:=if n.kind≠9 then(eS o (eR out g n.next.toNat):Int) else n.next,iu:=if n.kind=8 then(eS o (eR out g n.iu.toNat):Int) else n.iu }
noncomputable def iE (g:bu) (cls:List cY) (t:Nat):bu:={ g with nodes:=(cS g (fG g cls t)).map fun i=>dQ g (fG g cls t) (cS g (fG g cls t)) (g.nd i) }
noncomputable def dH (u:bq):bq:={ u with br:=(List.range u.br.length).map fun t=>iE (u.gr t) (cP u) t }
def gB (u:bq):Nat:=(u.br.map fun g=>g.nodes.length).sum
open Classical in
noncomputable def fc:Nat->bq->bq
 |0,v=>v
 |f+1,v=>if dH v=v then v else fc f (dH v)
noncomputable def fJ (u:bq):bq:=fc (gB u) (dH u)
end Go.Proofs.YtekfmjjmihomlaaGreatDoor
namespace Go.cw
open Go.RowKit
theorem Wk.YL {H:Hp} {nx b:Nat} {e:TypeId} {sz:Nat} {d:AV} {es es2:List AV} (d2:AV) (hb:bo H b=some (.row e sz d es)) (hl:es.length=es2.length) (h:∀c c2:Cx,c.le c2->c2.w=c.w->dL c c2 es es2):Wk .any H nx .any ((b,some (.row e sz d2 es2))::H) nx:=by
 refine Wk.tell (Nat.le_refl _) (fun x e' sz' d' es' he=> ?_) (fun w0 c c2 hS hU hc hc2 hw hle hnew hM=>⟨da.any _ _ _,fun x e' sz' d' es' d0 es0 h1 h2=> ?_⟩)
 ·by_cases hx:x=b
  ·subst hx
   rw[cq] at he
   cases he
   exact .inl ⟨d,es,hb,hl⟩
  ·rw[cX hx] at he
   exact .inl ⟨d',es',he,rfl⟩
 ·by_cases hx:x=b
  ·subst hx
   rw[cq] at h1
   rw[hb] at h2
   cases h1;cases h2
   exact h c c2 hle hw
  ·rw[cX hx] at h1
   rw[h1] at h2;cases h2
   exact dL.keep hle _
theorem dL.rep {c c2:Cx} {a b:AV} (h:da c c2 a b):∀n,dL c c2 (List.replicate n a) (List.replicate n b)
 |0=> .nil
 |n+1=> .cons h (dL.rep h n)
end Go.cw
namespace Go.Proofs.YtekfmjjmihomlaaGreatDoor
open Go Go.cw Go.Proofs
set_option linter.unusedSimpArgs false
set_option linter.unusedVariables false
theorem zb {l:List Int} {i:Nat} (h:i<l.length) (d:AV):(l.map i64).getD i d=i64 (l.getD i 0):=dN i64 l i d h
theorem vN {es:List AV} (hsz:es.length * 8<=140737488355328):cQ Tryz.prog 101 [.im 1 .any es] [] 0 (oV [] 0 3 1 es):=by
 refine oV.of (by omega) ?_
 refine aJ zi rfl ?_
 cases hes:es with
 |nil=>
  repeat' (first|refine aQ ?_|exact aC|with_reducible refine aB ?_ ?_|(apply aA;(·exact bz))|refine aH ?_|((with_reducible refine aE ?_ ?_)<;>intro hc<;>try(exfalso;omega)))
  ·exact⟨.inl ⟨rfl,rfl,cU,kB⟩⟩
  ·exact⟨.inr ⟨_,_,rfl,cU,cU,cU,bt,kB⟩⟩
 |cons x t=>
  rw[hes] at hsz
  simp only[List.length_cons] at hsz
  repeat' (first|refine aQ ?_|exact aC|with_reducible refine aB ?_ ?_|(apply aA;(·exact bz))|refine aH ?_|((with_reducible refine aE ?_ ?_)<;>intro hc<;>try(exfalso;omega)))
  ·exact⟨.inr ⟨3,_,(by simp),cU,cU,cU,bt,kB⟩⟩
theorem oJ {es:List AV} (hsz:es.length * 8<=140737488355328):cQ Tryz.prog 101 [.im 1 .any es] [] 0 (fun r1 H1 _=>∃b d0,r1= .sl b es.length/\bo H1 b=some (.row 3 1 d0 es)):=
 (vN hsz).mono fun r H n ⟨b,d,h1,_,_,_,h2,_⟩=>⟨b,d,h1,h2⟩
theorem yp (l m:List Int) (hl:l.length * 8<=140737488351232) (hm:m.length * 8<=140737488351232):Pure Tryz.prog 103 [gy l,gy m] (fun r=>r=bl (decide (l=m))):=by
 refine aD zk rfl ?_
 unfold gy
 repeat' (first|refine aQ ?_|exact aC|with_reducible refine aB ?_ ?_|(apply aA;(·exact bz))|refine aH ?_|((with_reducible refine aE ?_ ?_)<;>intro hc<;>try(exfalso;omega)))
 ·refine dZ (Eq.symm ?_)
  exact decide_eq_false fun e=>hc (by rw[e])
 ·have hlm:l.length=m.length:=by omega
  refine aI (fun i:Nat=>[(0,gy l),(1,gy m),(12,i64 l.length),(13,i64 i)])
   (fun i H n=>i<=l.length/\∀j,j<i->l.getD j 0=m.getD j 0) (fun i=>l.length - i) 0 cG ⟨Nat.zero_le _,fun _ h=>by omega⟩ ?_
  unfold gy
  rintro i H n ⟨hi,hall⟩
  by_cases hil:i<l.length
  ·have e1:=zb (l:=l) hil
   have e2:=zb (l:=m) (i:=i) (by omega)
   repeat' (first|refine aQ ?_|exact aC|with_reducible refine aB ?_ ?_|(apply aA;(·(first|exact e1 _|exact e2 _|exact bz)))|refine aH ?_|((with_reducible refine aE ?_ ?_)<;>intro hc<;>try(exfalso;omega)))
   ·refine dZ (Eq.symm ?_)
    exact decide_eq_false fun e=>hc (by rw[e])
   ·refine⟨i+1,by omega,cG,by omega,fun j hj=> ?_⟩
    by_cases hji:j=i
    ·subst hji;exact hc
    ·exact hall j (by omega)
  ·have:i=l.length:=by omega
   subst this
   repeat' (first|refine aQ ?_|exact aC|with_reducible refine aB ?_ ?_|(apply aA;(·exact bz))|refine aH ?_|((with_reducible refine aE ?_ ?_)<;>intro hc<;>try(exfalso;omega)))
   refine dZ (Eq.symm ?_)
   refine decide_eq_true (List.ext_getElem hlm fun j h1 h2=> ?_)
   have:=hall j h1
   simpa[List.getD,h1,h2] using this
def Told (nv:AV) (l:List Int) (H:Hp) (nx:Nat):Prop:=nv=gy l\/∃b d,nv= .sl b l.length/\b<nx/\bo H b=some (.row 3 1 d (l.map i64))
theorem Told.dj {nv:AV} {l:List Int} {H:Hp} {nx:Nat} (h:Told nv l H nx) (k:Nat):cw.dj H (k+1) nv=gy l:=by
 rcases h with rfl|⟨b,d,rfl,_,hb⟩
 ·exact dG _ (by simp[cF,gy,cI])
 ·rw[dv hb (by simp),cu _ ((cI _ _).2 fun _ _=>by simp[cF])];rfl
theorem si {nv:AV} {l:List Int} {H:Hp} {nx:Nat} (h:Told nv l H nx) (m:List Int) (hl:l.length * 8<=140737488351232) (hm:m.length * 8<=140737488351232):cQ Tryz.prog 103 [gy m,nv] H nx (fun r H' n=>r=bl (decide (m=l))/\H'=H/\n=nx):=by
 refine Pure.view (args2:=[gy m,gy l]) (yp m l hm hl) ?_ (by simp[cT,cF,gy,cI]) trivial ⟨rfl,rfl,rfl⟩
 rw[List.map_cons,List.map_cons,List.map_nil,h.dj,dG 6 (by simp[cF,gy,cI])]
theorem mF {nv:AV} {l:List Int} {H:Hp} {nx:Nat} (h:Told nv l H nx) (hl:l.length * 8<=140737488351232):cQ Tryz.prog 101 [nv] H nx (fun r H' n=>r=gy l/\nx<=n/\∀b,b<nx->bo H' b=bo H b):=by
 refine cQ.wk (cQ.VL (es:=l.map i64) (args2:=[gy l]) (oJ (by rw[List.length_map];omega)) (fun i hi=>by rw[dN i64 _ _ _ (by simpa using hi)];trivial) (by rw[List.map_cons,List.map_nil,h.dj]) (by simp[cT,cF,gy,cI])) ?_
 rintro r H' n ⟨rfl,rfl,rfl⟩
 have hw:=Wk.XQ (r:= .sl nx (l.map i64).length) (H:=(nx,some (.row 3 1 .any (l.map i64)))::H) (nx:=nx+1) [(nx,some (.row 3 1 .any (l.map i64)))] 1 (fun b q hq=>by
  by_cases hb:b=nx
  ·subst hb;rw[cq] at hq ⊢;exact hq
  ·rw[cX hb] at hq;cases hq)
 refine⟨_,_,_,hw, ?_,by omega,fun b hb=> ?_⟩
 ·rw[NC (cq _ _ _) rfl,uG];rfl
 ·rw[oh,I1,cX (by omega),cX (by omega)]
theorem iQ {n:Node} {k:Int}:k∈n.fold↔k∈n.iA:=by
 have:=yb (fun j=>decide (j=k)) n
 rw[Bool.eq_iff_iff,List.any_eq_true,List.any_eq_true] at this
 constructor
 ·intro h;obtain⟨x,h1,h2⟩:=this.1 ⟨k,h,by simp⟩;rw[<-of_decide_eq_true h2];exact h1
 ·intro h;obtain⟨x,h1,h2⟩:=this.2 ⟨k,h,by simp⟩;rw[<-of_decide_eq_true h2];exact h1
theorem mh (n:Node):n.fold.length<=2:=by unfold Node.fold;split<;>(try split)<;>simp
theorem gd {α:Type} {l:List α} {q:Nat} (h:q<l.length) (d:α):l.getD q d=l[q]:=by simp[List.getD,h]
theorem MC (n:Nat) (l:List Int):cT n (l.map i64):=(cI _ _).2 fun _ _=>by simp[cF]
theorem n9 (n:Nat) (l:List Bool):cT n (l.map bl):=(cI _ _).2 fun _ _=>by simp[cF]
theorem gh {l:List Node} {i:Nat} (h:i<l.length) (d:AV):(l.map Node.av).getD ((i:Int).toNat) d=(l.getD i default).av:=by
 rw[Int.toNat_natCast];exact dN Node.av l i d h
theorem pj {l:List bu} {i:Nat} (h:i<l.length) (d:AV):(l.map bu.av).getD ((i:Int).toNat) d=(l.getD i default).av:=by
 rw[Int.toNat_natCast];exact dN bu.av l i d h
theorem kY {l:List Int} {i:Nat} (h:i<l.length) (d:AV):(l.map i64).getD ((i:Int).toNat) d=i64 (l.getD i 0):=by
 rw[Int.toNat_natCast];exact dN i64 l i d h
theorem vF (g:bu) (hg:g.Wf):Pure Tryz.prog 87 [g.av] (fun r=>r=bl (mH g)):=by
 have hl:=hg.len
 refine aD OV rfl ?_
 repeat' (first|refine aQ ?_|exact dR|with_reducible refine aB ?_ ?_|((with_reducible refine Ask.mk ?_);first|exact cW|exact cJ|(intro h;simp_all[bu.cells]<;>fail)|(simp_all[bu.cells]<;>fail))|(apply aA;(·exact bz))|refine aH ?_|((with_reducible refine aE ?_ ?_)<;>intro hc<;>try(exfalso;omega)))
 ·refine dZ (Eq.symm ?_)
  unfold mH
  by_cases h1:1<=g.nodes.length
  ·rw[decide_eq_false (show ¬g.nodes.length<=4096 by omega)];simp
  ·rw[decide_eq_false h1];simp
 ·simp only[List.length_map]
  refine aI (fun i:Nat=>[(1, .pt 0 1 0 0),(18,gE g.nodes),(19,i64 g.nodes.length),(20,i64 i)])
   (fun i H n=>i<=g.nodes.length/\16<=n/\(∃d,bo H 0=some (.row 45 4 d [g.av]))/\∀j,j<i->uq g.nodes.length (g.nd j)=true) (fun i=>g.nodes.length - i) 0 cG ⟨Nat.zero_le _,cU,⟨_,bt⟩,fun _ h=>by omega⟩ ?_
  rintro i H n ⟨hi,hn,⟨d0,r0⟩,hall⟩
  by_cases hil:i<g.nodes.length
  ·have hbad:uq g.nodes.length (g.nd i)=false->mH g=false:=fun h=>by
    unfold mH
    rw[Bool.and_eq_false_iff]
    right
    rw[Bool.eq_false_iff,ne_eq,List.all_eq_true]
    intro hA
    have:=hA _ (cR default hil)
    rw[show g.nodes.getD i default=g.nd i from rfl,h] at this;cases this
   have hf:=lj (g.nd i)
   have h2:=mh (g.nd i)
   unfold gy at hf
   repeat' (first|refine aQ ?_|exact dR|with_reducible refine aB ?_ ?_|((with_reducible refine Ask.mk ?_);first|exact cW|exact cJ|(intro h;simp_all[bu.cells,Node.cells]<;>fail)|(simp_all[bu.cells,Node.cells]<;>fail))|(apply aA;(·(first|exact gh hil _|exact bz)))|refine aK (hf) ?_|refine aH ?_|((with_reducible refine aE ?_ ?_)<;>intro hc<;>try(exfalso;omega)))
   ·refine dZ (Eq.symm (hbad ?_))
    unfold uq
    have hc:(g.nd i).kind=0\/10<=(g.nd i).kind:=hc
    by_cases h1:(g.nd i).kind<10
    ·rw[decide_eq_false (show ¬1<=(g.nd i).kind by omega)];simp
    ·rw[decide_eq_false h1];simp
   ·have hk0:0<=(g.nd i).kind:=(hg.nodes _ (cR default hil)).kind.1
    have hkk:¬(g.nd i).kind=0/\(g.nd i).kind<10:=hc
    clear hf
    simp only[List.length_map]
    refine aI (fun j:Nat=>[(1, .pt 0 1 0 0),(4, .pt (n+3) 1 0 0),(18,gE g.nodes),(19,i64 g.nodes.length),(20,i64 i),(33,gy (g.nd i).fold),(34,i64 (g.nd i).fold.length),(35,i64 j)])
     (fun j H2 n2=>j<=(g.nd i).fold.length/\n+4<=n2/\(∃d,bo H2 0=some (.row 45 4 d [g.av]))/\∀q,q<j->0<=(g.nd i).fold.getD q 0/\(g.nd i).fold.getD q 0<g.nodes.length) (fun j=>(g.nd i).fold.length - j) 0 cG ⟨Nat.zero_le _,cU,⟨_,bt⟩,fun _ h=>by omega⟩ ?_
    clear r0
    rintro j H2 n2 ⟨hj,hn2,⟨d02,r02⟩,hq⟩
    unfold gy
    by_cases hjl:j<(g.nd i).fold.length
    ·repeat' (first|refine aQ ?_|exact dR|with_reducible refine aB ?_ ?_|((with_reducible refine Ask.mk ?_);first|exact cW|exact cJ|(intro h;simp_all[bu.cells]<;>fail)|(simp_all[bu.cells]<;>fail))|(apply aA;(·(first|exact kY hjl _|exact bz)))|refine aH ?_|((with_reducible refine aE ?_ ?_)<;>intro hc<;>try(exfalso;omega)))
     ·refine dZ (Eq.symm (hbad ?_))
      unfold uq
      rw[Bool.and_eq_false_iff]
      right
      rw[Bool.eq_false_iff,ne_eq,List.all_eq_true]
      intro hA
      have:=hA _ (iQ.1 (cR 0 hjl))
      simp only[Bool.and_eq_true,decide_eq_true_eq] at this
      omega
     ·refine⟨j+1,by omega,cG,by omega,by omega,⟨_,bt⟩,fun q hq2=> ?_⟩
      by_cases e:q=j
      ·rw[e];omega
      ·exact hq q (by omega)
    ·have:j=(g.nd i).fold.length:=by omega
     subst this
     repeat' (first|refine aQ ?_|exact aC|with_reducible refine aB ?_ ?_|(apply aA;(·exact bz))|refine aH ?_|((with_reducible refine aE ?_ ?_)<;>intro hc<;>try(exfalso;omega)))
     refine⟨i+1,by omega,cG,by omega,by omega,⟨_,bt⟩,fun j hj=> ?_⟩
     by_cases e:j=i
     ·rw[e]
      unfold uq
      rw[decide_eq_true (show 1<=(g.nd i).kind by omega),decide_eq_true hkk.2]
      simp only[Bool.true_and]
      rw[List.all_eq_true]
      intro k hk
      obtain⟨q,hq1,e⟩:=List.getElem_of_mem (iQ.2 hk)
      have:=hq q hq1
      rw[gd hq1,e] at this
      simp[this.1,this.2]
     ·exact hall j (by omega)
  ·have:i=g.nodes.length:=by omega
   subst this
   repeat' (first|refine aQ ?_|exact aC|with_reducible refine aB ?_ ?_|(apply aA;(·exact bz))|refine aH ?_|((with_reducible refine aE ?_ ?_)<;>intro hc<;>try(exfalso;omega)))
   refine dZ (Eq.symm ?_)
   unfold mH
   rw[decide_eq_true (show 1<=g.nodes.length by omega),decide_eq_true (show g.nodes.length<=4096 by omega)]
   simp only[Bool.true_and]
   rw[List.all_eq_true]
   intro m hm
   obtain⟨q,hq1,rfl⟩:=List.getElem_of_mem hm
   have:=hall q hq1
   rw[show g.nd q=g.nodes[q] by simp[List.getD,hq1]] at this
   exact this
theorem qN (g:bu) (hg:g.Wf) (hw:mH g=true) (hs:Pure Tryz.prog 88 [g.av,i64 (-1)] (fun r=>r=ju (dW g (-1)))):Pure Tryz.prog 50 [g.av] (fun r=>r=ju (dW g (-1))):=by
 refine aD OC rfl ?_
 have h1:=vF g hg
 rw[hw] at h1
 repeat' (first|refine aQ ?_|exact dR|with_reducible refine aB ?_ ?_|((with_reducible refine Ask.mk ?_);first|exact cW|exact cJ|(intro h;simp_all[bu.cells]<;>fail)|(simp_all[bu.cells]<;>fail))|(apply aA;(·exact bz))|refine aK (h1) ?_|refine aK (hs) ?_|refine aH ?_|((with_reducible refine aE ?_ ?_)<;>intro hc<;>try(exfalso;omega)))
 exact FQ.eq (by simp[cF,ju,cI]) rfl
end Go.Proofs.YtekfmjjmihomlaaGreatDoor
