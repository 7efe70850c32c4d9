import Derived.Test.YtmonponfppdgfaaGreatDoorM38
import Derived.Test.YtmonponfppdgfaaGreatDoorM31
import Derived.Test.YtmonponfppdgfaaGreatDoorM29
import Derived.Test.YtmonponfppdgfaaGreatDoorM34
namespace Go.Proofs.YtmonponfppdgfaaGreatDoor
open Go Go.dD Go.Proofs
set_option linter.unusedSimpArgs false
set_option linter.unusedVariables false
abbrev strs (l:List ByteArray):List AV:=l.map fun s=>st s
theorem M5 {l:List ByteArray} {i:Nat} (h:i<l.length) (d:AV):(strs l).getD ((i:Int)).toNat d=st (l.getD i default):=by rw[Int.toNat_natCast];exact dG (fun s=>st s) l i d h
theorem I7 (l:List ByteArray) (s:ByteArray):strs l++[st s]=strs (l++[s]):=by simp[strs]
theorem I8 (l:List ByteArray):(strs l).length=l.length:=by simp[strs]
theorem J1 {l:List Decl} {i:Nat} (h:i<l.length) (d:AV):(l.map Decl.av).getD ((i:Int)).toNat d=(l.getD i default).av:=by rw[Int.toNat_natCast];exact dG Decl.av l i d h
def sM:List ByteArray->List Decl->Bool->Bool
 |_,[],_=>true
 |acc,d::r,w=>if(fg d.name&&(w||decide (d.word=0))&& !gv acc d.name)=true then sM (acc++[d.name]) r w else false
def nF (l:List Decl) (i:Nat):List ByteArray:=(l.take i).map Decl.name
theorem IM {acc:List ByteArray} {l:List Decl} {w:Bool} {i:Nat} (h:i<l.length):sM acc (l.drop i) w=if(fg (l.getD i default).name&&(w||decide ((l.getD i default).word=0))&& !gv acc (l.getD i default).name)=true then sM (acc++[(l.getD i default).name]) (l.drop (i+1)) w else false:=by
 rw[List.drop_eq_getElem_cons h,sM,show l.getD i default=l[i] by simp[List.getD,h]]
theorem C0 {l:List Decl} {i:Nat} (h:i<l.length):nF l (i+1)=nF l i++[(l.getD i default).name]:=by
 unfold nF
 rw[List.take_succ_eq_append_getElem h,List.map_append,show l.getD i default=l[i] by simp[List.getD,h]];rfl
theorem IG {l:List Decl} {i:Nat} (h:i<=l.length):(nF l i).length=i:=by simp[nF];omega
theorem CZ {l:List ByteArray} {k:Nat} (h:k<l.length) (s:ByteArray):gv (l.take (k+1)) s=(gv (l.take k) s||decide (s=l.getD k default)):=by
 rw[Bool.eq_iff_iff,Bool.or_eq_true,x7,x7,decide_eq_true_eq,List.take_succ_eq_append_getElem h,List.mem_append,show l.getD k default=l[k] by simp[List.getD,h]]
 simp
theorem NS (a b:ByteArray):(a==b)=decide (a=b):=by
 obtain⟨d⟩:=a
 obtain⟨d'⟩:=b
 show(d==d')=_
 rw[Bool.eq_iff_iff]
 simp
def AK (nv:AV) (L:List ByteArray) (H:Hp) (nx:Nat):Prop:=(nv= .sc (.slice none 0 0)/\L=[])\/∃b d,nv= .sl b L.length/\b<nx/\bk H b=some (.row 9 1 d (strs L))
def iY (nv:AV) (y:Nat):Prop:=∀b n,nv= .sl b n->y≠b
theorem vt {b n y:Nat} (h:iY (.sl b n) y):y≠b:=h b n rfl
theorem D6 {b n m y:Nat} (h:iY (.sl b n) y):iY (.sl b m) y:=fun b' n' e=>by cases e;exact h b n rfl
set_option maxRecDepth 4000 in
set_option maxHeartbeats 8000000 in
theorem xn (l:List Decl) (hl:l.length<=64) (hw:∀d∈l,d.Wf) (a0:List ByteArray) (ha:a0.length<=1000) (w:Bool) (nv0:AV) (H0:Hp) (nx:Nat) (ht0:AK nv0 a0 H0 nx):cM Tryz.prog 55 [dN l,nv0,bl w] H0 nx (fun r H n=>nx<=n/\(∀y,y<nx->iY nv0 y->bk H y=bk H0 y)/\(sM a0 l w=true->∃nv,r= .dK [nv,bl true]/\AK nv (a0++l.map Decl.name) H n/\∀y,y<nx->iY nv0 y->iY nv y)/\(sM a0 l w=false->r= .dK [.sc (.slice none 0 0),bl false])):=by
 have hml:(l.map Decl.av).length=l.length:=by simp
 refine aI GU rfl ?_
 repeat' (first|refine aQ ?_|exact aC|with_reducible refine aB ?_ ?_|(apply aA;(·exact bp))|refine aH ?_|((with_reducible refine aE ?_ ?_)<;>intro hc<;>try(exfalso;omega)))
 refine aF (fun σ:Nat×AV=>[(0,dN l),(1,σ.2),(2,bl w),(8,i64 σ.1)])
  (fun σ H n=>σ.1<=l.length/\nx<=n/\sM (a0++nF l σ.1) (l.drop σ.1) w=sM a0 l w/\AK σ.2 (a0++nF l σ.1) H n/\(∀y,y<nx->iY nv0 y->iY σ.2 y)/\∀y,y<nx->iY nv0 y->bk H y=bk H0 y) (fun σ=>l.length - σ.1) (0,nv0) bu ⟨Nat.zero_le _,cI,by simp[nF], ?_,fun _ _ h=>h,fun y hy _=>bw⟩ ?_
 ·rw[show a0++nF l (0:Nat)=a0 by simp[nF]]
  rcases ht0 with h|⟨b,d,h1,h2,h3⟩
  ·exact .inl h
  ·exact .inr ⟨b,d,h1,Nat.lt_of_lt_of_le h2 cI,Eq.trans bw h3⟩
 rintro⟨i,nv⟩ H n ⟨hi,hnn,hok,htold,hap,hkp⟩
 dsimp only at hi hok htold hap ⊢
 have hLl:(a0++nF l i).length=a0.length+i:=by rw[List.length_append,IG hi]
 by_cases hil:i<l.length
 ·have ed:=fun d=>J1 (l:=l) hil d
  have hdw:=hw _ (cE default hil)
  have hnm:=zn (l.getD i default).name hdw.name
  rw[IM hil] at hok
  have hnx:a0++nF l (i+1)=(a0++nF l i)++[(l.getD i default).name]:=by rw[C0 hil,List.append_assoc]
  generalize hL:a0++nF l i=L at *
  generalize l.getD i default=dd at *
  have hsl:(strs L).length=L.length:=I8 L
  rcases htold with⟨rfl,hL0⟩|⟨b,d,rfl,hbn,hb⟩
  ·have hL0l:L.length=0:=by rw[hL0];rfl
   repeat' (first|refine aQ ?_|exact cP|with_reducible refine aB ?_ ?_|((with_reducible refine Ask.mk ?_);first|exact bx|(exact hml)|(exact hsl)|exact bt|(intro h;simp_all[Decl.cells]<;>fail)|(simp_all[Decl.cells]<;>fail))|(apply aA;(·(first|exact ed _|exact bp)))|refine aK (hnm) ?_|refine aH ?_|((with_reducible refine aE ?_ ?_)<;>intro hc<;>try(exfalso;omega)))
   refine aF (fun σ:Nat×Bool=>[(0,dN l),(1, .sc (.slice none 0 0)),(2,bl w),(8,i64 i),(9,bl σ.2),(10,i64 σ.1)])
    (fun σ H2 n2=>σ.1<=L.length/\n<=n2/\σ.2=(fg dd.name&&(w||decide (dd.word=0))&& !gv (L.take σ.1) dd.name)/\∀y,y<nx->iY nv0 y->bk H2 y=bk H0 y) (fun σ=>L.length - σ.1) (0,(if fg dd.name=true then(if w=true then true else decide (dd.word=0)) else false)) bu ⟨Nat.zero_le _,cI,by cases fg dd.name<;>cases w<;>simp[gv],fun y hy h=>Eq.trans bw (hkp y hy h)⟩ ?_
   rintro⟨k,okv⟩ H2 n2 ⟨hk,hn2,hokv,hkp2⟩
   dsimp only at hk hokv ⊢
   by_cases hkl:k<L.length
   ·exfalso;omega
   ·have:k=L.length:=by omega
    subst this
    rw[List.take_length] at hokv
    rw[<-hokv] at hok
    cases okv with
    |false=>
     rw[if_neg (by decide)] at hok
     repeat' (first|refine aQ ?_|exact aC|with_reducible refine aB ?_ ?_|(apply aA;(·exact bp))|refine aH ?_|((with_reducible refine aE ?_ ?_)<;>intro hc<;>try(exfalso;omega)))
     first|refine⟨?_, ?_, ?_, ?_⟩|refine⟨⟨?_, ?_, ?_, ?_⟩⟩
     ·exact Nat.le_trans (Nat.le_trans hnn hn2) cI
     ·exact fun y hy h=>Eq.trans bw (hkp2 y hy h)
     ·intro h;rw[<-hok] at h;cases h
     ·exact fun _=>rfl
    |true=>
     rw[if_pos rfl] at hok
     repeat' (first|refine aQ ?_|exact cP|with_reducible refine aB ?_ ?_|((with_reducible refine Ask.mk ?_);first|exact bx|(exact hml)|(exact hsl)|exact bt|(intro h;simp_all[Decl.cells]<;>fail)|(simp_all[Decl.cells]<;>fail))|(apply aA;(·(first|exact ed _|exact bp)))|refine aH ?_|((with_reducible refine aE ?_ ?_)<;>intro hc<;>try(exfalso;omega)))
     refine⟨(i+1, .sl (n2+13) ([dd.name]:List ByteArray).length),by dsimp only;omega,bu,by dsimp only;omega,Nat.le_trans (Nat.le_trans hnn hn2) cI,by dsimp only;rw[hnx];exact hok, ?_,fun y hy h=> ?_,fun y hy h=>Eq.trans bw (hkp2 y hy h)⟩
     ·rw[hnx,hL0];exact .inr ⟨n2+13,_,rfl,cI,bm⟩
     ·intro b' n' e;cases e;omega
  ·repeat' (first|refine aQ ?_|exact cP|with_reducible refine aB ?_ ?_|((with_reducible refine Ask.mk ?_);first|exact bx|(exact hml)|(exact hsl)|exact bt|(intro h;simp_all[Decl.cells]<;>fail)|(simp_all[Decl.cells]<;>fail))|(apply aA;(·(first|exact ed _|exact bp)))|refine aK (hnm) ?_|refine aH ?_|((with_reducible refine aE ?_ ?_)<;>intro hc<;>try(exfalso;omega)))
   refine aF (fun σ:Nat×Bool=>[(0,dN l),(1, .sl b L.length),(2,bl w),(8,i64 i),(9,bl σ.2),(10,i64 σ.1)])
    (fun σ H2 n2=>σ.1<=L.length/\n<=n2/\σ.2=(fg dd.name&&(w||decide (dd.word=0))&& !gv (L.take σ.1) dd.name)/\(∃d,bk H2 b=some (.row 9 1 d (strs L)))/\∀y,y<nx->iY nv0 y->bk H2 y=bk H0 y) (fun σ=>L.length - σ.1) (0,(if fg dd.name=true then(if w=true then true else decide (dd.word=0)) else false)) bu ⟨Nat.zero_le _,cI,by cases fg dd.name<;>cases w<;>simp[gv],⟨_,bm⟩,fun y hy h=>Eq.trans bw (hkp y hy h)⟩ ?_
   rintro⟨k,okv⟩ H2 n2 ⟨hk,hn2,hokv,⟨d2,hb2⟩,hkp2⟩
   dsimp only at hk hokv ⊢
   by_cases hkl:k<L.length
   ·have es:=fun d=>M5 (l:=L) hkl d
    have hstep:(if okv=true then !(L.getD k default==dd.name) else false)=(fg dd.name&&(w||decide (dd.word=0))&& !gv (L.take (k+1)) dd.name):=by
     rw[CZ hkl,NS,hokv]
     have:decide (L.getD k default=dd.name)=decide (dd.name=L.getD k default):=decide_eq_decide.2 ⟨Eq.symm,Eq.symm⟩
     rw[this]
     cases fg dd.name<;>cases(w||decide (dd.word=0))<;>cases gv (L.take k) dd.name<;>cases decide (dd.name=L.getD k default)<;>rfl
    repeat' (first|refine aQ ?_|exact cP|with_reducible refine aB ?_ ?_|((with_reducible refine Ask.mk ?_);first|exact bx|(exact hml)|(exact hsl)|exact bt|(intro h;simp_all[Decl.cells]<;>fail)|(simp_all[Decl.cells]<;>fail))|(apply aA;(·(first|exact ed _|exact es _|exact bp)))|refine aH ?_|((with_reducible refine aE ?_ ?_)<;>intro hc<;>try(exfalso;omega)))
    exact⟨(k+1,if okv=true then !(L.getD k default==dd.name) else false),by dsimp only;omega,bu,by dsimp only;omega,by first|omega|exact cI,hstep,⟨_,bm⟩,fun y hy h=>Eq.trans bw (hkp2 y hy h)⟩
   ·have:k=L.length:=by omega
    subst this
    rw[List.take_length] at hokv
    rw[<-hokv] at hok
    cases okv with
    |false=>
     rw[if_neg (by decide)] at hok
     repeat' (first|refine aQ ?_|exact aC|with_reducible refine aB ?_ ?_|(apply aA;(·exact bp))|refine aH ?_|((with_reducible refine aE ?_ ?_)<;>intro hc<;>try(exfalso;omega)))
     first|refine⟨?_, ?_, ?_, ?_⟩|refine⟨⟨?_, ?_, ?_, ?_⟩⟩
     ·exact Nat.le_trans (Nat.le_trans hnn hn2) cI
     ·exact fun y hy h=>Eq.trans bw (hkp2 y hy h)
     ·intro h;rw[<-hok] at h;cases h
     ·exact fun _=>rfl
    |true=>
     rw[if_pos rfl] at hok
     repeat' (first|refine aQ ?_|exact cP|with_reducible refine aB ?_ ?_|((with_reducible refine Ask.mk ?_);first|exact bx|(exact hml)|(exact hsl)|exact bt|(intro h;simp_all[Decl.cells]<;>fail)|(simp_all[Decl.cells]<;>fail))|(apply aA;(·(first|exact ed _|exact bp)))|refine aH ?_|((with_reducible refine aE ?_ ?_)<;>intro hc<;>try(exfalso;omega)))
     refine⟨(i+1, .sl b (L++[dd.name]).length),by dsimp only;omega,by rw[List.length_append];exact bu,by dsimp only;omega,Nat.le_trans (Nat.le_trans hnn hn2) cI,by dsimp only;rw[hnx];exact hok, ?_,fun y hy h=>D6 (hap y hy h),fun y hy h=> ?_⟩
     ·rw[hnx];exact .inr ⟨b,_,rfl,Nat.lt_of_lt_of_le hbn (Nat.le_trans hn2 cI),by rw[<-I7];exact bm⟩
     ·have hyb:=vt (hap y hy h)
      exact Eq.trans bw (hkp2 y hy h)
 ·have:i=l.length:=by omega
  subst this
  rw[List.drop_eq_nil_of_le (Nat.le_refl _),sM] at hok
  have hall:nF l l.length=l.map Decl.name:=by simp[nF]
  rw[hall] at htold
  rcases htold with⟨rfl,hL0⟩|⟨b,d,rfl,hbn,hb⟩
  ·repeat' (first|refine aQ ?_|exact cP|with_reducible refine aB ?_ ?_|((with_reducible refine Ask.mk ?_);first|exact bx|(exact hml)|exact bt)|(apply aA;(·exact bp))|refine aH ?_|((with_reducible refine aE ?_ ?_)<;>intro hc<;>try(exfalso;omega)))
   first|refine⟨?_, ?_, ?_, ?_⟩|refine⟨⟨?_, ?_, ?_, ?_⟩⟩
   ·exact Nat.le_trans hnn cI
   ·exact fun y hy h=>Eq.trans bw (hkp y hy h)
   ·exact fun _=>⟨_,rfl, .inl ⟨rfl,hL0⟩,hap⟩
   ·intro h;rw[<-hok] at h;cases h
  ·repeat' (first|refine aQ ?_|exact cP|with_reducible refine aB ?_ ?_|((with_reducible refine Ask.mk ?_);first|exact bx|(exact hml)|exact bt)|(apply aA;(·exact bp))|refine aH ?_|((with_reducible refine aE ?_ ?_)<;>intro hc<;>try(exfalso;omega)))
   first|refine⟨?_, ?_, ?_, ?_⟩|refine⟨⟨?_, ?_, ?_, ?_⟩⟩
   ·exact Nat.le_trans hnn cI
   ·exact fun y hy h=>Eq.trans bw (hkp y hy h)
   ·exact fun _=>⟨_,rfl, .inr ⟨b,d,rfl,Nat.lt_of_lt_of_le hbn cI,bm⟩,hap⟩
   ·intro h;rw[<-hok] at h;cases h
end Go.Proofs.YtmonponfppdgfaaGreatDoor
namespace Go.dD
open Go.RowKit
theorem Rt.uR {fr:Fr} {H:Hp} {nx:Nat} (t b len:Nat) {e:TypeId} {sz:Nat} {d:AV} {es:List AV} (h:cc fr t= .sl b len) (hb:bk H b=some (.row e sz d es)) (hl:es.length=len):Rt fr H nx ((t, .im sz .any es)::fr) ((b,none)::H) nx:=by
 have hw:=Wk.N6 (r:= .sl b len) (H:=H) (nx:=nx) [(b,some (.row e sz d es))] 1 (fun x q hq=>by
  by_cases hx:x=b
  ·subst hx;rw[ch] at hq;rw[hb];exact hq
  ·rw[cQ hx] at hq;cases hq)
 rw[pU (ch _ _ _) hl,wh,lR,uM] at hw
 exact Rt.slot t h hw
theorem Rt.N7 {fr:Fr} {H:Hp} {nx:Nat} (t x len lo n:Nat) {e:TypeId} {sz:Nat} {d:AV} {l es:List AV} (h:cc fr t= .sv x len lo n) (h3:bk H x=some (.row e sz d l)) (hl:l.length=len) (hn:lo+n<=len) (he:(l.drop lo).take n=es) (hxt:e∉XT:=by decide):
 Rt fr H nx ((t, .im sz .any es)::(t, .sl nx n)::fr) ((nx,none)::(nx,some (.row e sz .any es))::(x,none)::H) (nx+1):=by
 subst he
 exact(Rt.part t h h3 hl hn hxt).trans (Rt.uR t nx n (by simp[cc]) (ch _ _ _) (by simp;omega))
end Go.dD
namespace Go.Proofs.YtmonponfppdgfaaGreatDoor
open Go Go.dD Go.Proofs
set_option linter.unusedSimpArgs false
set_option linter.unusedVariables false
theorem lX (l m:List Int) (hl:l.length * 8<=140737488351232) (hm:m.length * 8<=140737488351232):Pure Tryz.prog 97 [dV l,dV m] (fun r=>r=bl (decide (l=m))):=by
 refine aG H6 rfl ?_
 unfold dV
 repeat' (first|refine aQ ?_|exact aC|with_reducible refine aB ?_ ?_|(apply aA;(·exact bp))|refine aH ?_|((with_reducible refine aE ?_ ?_)<;>intro hc<;>try(exfalso;omega)))
 ·refine cn (Eq.symm ?_)
  exact decide_eq_false fun e=>hc (by rw[e])
 ·have hlm:l.length=m.length:=by omega
  refine aF (fun i:Nat=>[(0,dV l),(1,dV m),(5,i64 i)])
   (fun i H n=>i<=l.length/\∀j,j<i->l.getD j 0=m.getD j 0) (fun i=>l.length - i) 0 bu ⟨Nat.zero_le _,fun _ h=>by omega⟩ ?_
  unfold dV
  rintro i H n ⟨hi,hall⟩
  by_cases hil:i<l.length
  ·have e1:=o5 (l:=l) hil
   have e2:=o5 (l:=m) (i:=i) (by omega)
   repeat' (first|refine aQ ?_|exact aC|with_reducible refine aB ?_ ?_|(apply aA;(·(first|exact e1 _|exact e2 _|exact bp)))|refine aH ?_|((with_reducible refine aE ?_ ?_)<;>intro hc<;>try(exfalso;omega)))
   ·refine cn (Eq.symm ?_)
    exact decide_eq_false fun e=>hc (by rw[e])
   ·refine⟨i+1,by omega,bu,by omega,fun j hj=> ?_⟩
    by_cases hji:j=i
    ·subst hji;exact hc
    ·exact hall j (by omega)
  ·have:i=l.length:=by omega
   subst this
   repeat' (first|refine aQ ?_|exact aC|with_reducible refine aB ?_ ?_|(apply aA;(·exact bp))|refine aH ?_|((with_reducible refine aE ?_ ?_)<;>intro hc<;>try(exfalso;omega)))
   refine cn (Eq.symm ?_)
   refine decide_eq_true (List.ext_getElem hlm fun j h1 h2=> ?_)
   have:=hall j h1
   simpa[List.getD,h1,h2] using this
set_option maxRecDepth 8000 in
set_option maxHeartbeats 8000000 in
theorem zh (g:br) (hg:g.Wf) (hw:Whole g):cM Tryz.prog 57 [g.av] [] 0 (fun r H n=>(∃a,r= .dK [.sc (.slice none 0 0),i64 a]/\cx g=([],a))\/∃b d L,r= .dK [.sl b L.length,i64 (-1)]/\cx g=(L,-1)/\bk H b=some (.row 89 1 d (L.map dV))):=by
 have hl:=hg.len
 have hl0:=hw.1
 have hl1:=hw.2.1
 have hrep:∀d,(List.replicate (((List.map Node.av g.nodes).length:Nat):Int).toNat (gw false [Value.bool false])).getD (Int.toNat 0) d=bl false:=fun d=>by
  rw[Int.toNat_natCast,show Int.toNat 0=0 from rfl,List.length_map,List.getD,List.getElem?_replicate,if_pos (by omega)];rfl
 refine aI GW rfl ?_
 repeat' (first|refine aQ ?_|exact cP|with_reducible refine aB ?_ ?_|((with_reducible refine Ask.mk ?_);first|exact bx|exact bt|(intro h;simp_all[br.cells]<;>fail)|(simp_all[br.cells]<;>fail))|(apply aA;(·(first|exact hrep _|exact bp)))|refine aH ?_|((with_reducible refine aE ?_ ?_)<;>intro hc<;>try(exfalso;omega)))
 simp only[List.length_map,Int.toNat_natCast]
 have hs11:((pB g,0).1:HS).found.map bl=(List.replicate g.nodes.length (bl false)).set 0 (bl true):=by simp[pB,List.map_set]
 refine aa (fun s:HS×Nat=>[(1, .pt 0 1 0 0),(4, .sl 6 g.nodes.length),(5, .sl 11 g.nodes.length),(6, .sl 16 s.1.todo.length),(7,i64 s.2)])
  (fun s H n=>19<=n/\(∃d,bk H 0=some (.row 40 4 d [g.av]))/\(∃d,bk H 6=some (.row 89 1 d (s.1.bz.map dV)))/\(∃d,bk H 11=some (.row 4 1 d (s.1.found.map bl)))/\(∃d,bk H 16=some (.row 3 1 d (s.1.todo.map i64)))/\HI g s.1 s.2/\s.2<=g.nodes.length/\(∀i,(s.1.bz.getD i []).length<=s.2)/\fI g (g.nodes.length+1 - s.2) s.1 s.2=cx g)
  (fun s=>g.nodes.length+1 - s.2) (pB g,0) bu ⟨_,_,Wk.NB (b:=6) (e:=89) (sz:=1) (es:=List.replicate g.nodes.length (.sc (.slice none 0 0))) (d:= .sc (.slice none 0 0)) .any bm (es2:=(pB g).bz.map dV) (by simp[pB]) (fun c c2 _ _=> ?_),cI,⟨_,bm⟩,⟨_,bm⟩,⟨_,by rw[hs11];exact bm⟩,⟨_,bm⟩,HI.start hw,Nat.zero_le _, ?_,rfl⟩ ?_
 ·simp only[pB,List.map_replicate]
  exact dI.rep (dk.mV c c2 1 .any) _
 ·intro i
  simp only[pB,List.getD,List.getElem?_replicate];split<;>exact Nat.zero_le _
 rintro⟨s,k⟩ H n ⟨hn,⟨d0,r0⟩,⟨d6,r6⟩,⟨d11,r11⟩,⟨d16,r16⟩,hI,hkl,hlen,hrun⟩
 dsimp only at r6 r11 r16 hI hkl hlen hrun ⊢
 have hct:=hI.count
 by_cases hk:k<s.todo.length
 ·obtain⟨x0,x1,x2⟩:=hI.inr _ (cE (0:Int) hk)
  have hll:=hI.k7
  have hcnt:=hI.count
  have hlm:(s.bz.map dV).length=g.nodes.length:=by simp[hll]
  have htm:(s.todo.map i64).length=s.todo.length:=by simp
  have e1:=fun d=>wm hk d
  have e2:=fun d=>iy (l:=s.bz) (i:=s.todo.getD k 0) (by rw[hll];exact x1) d
  have hlk:=hlen (s.todo.getD k 0).toNat
  rw[show g.nodes.length+1 - k=(g.nodes.length - k)+1 by omega,oZ hk] at hrun
  have hnx:=fun now s'=>hI.next hw hk (now:=now) (s':=s')
  unfold HS.l at hrun hnx
  generalize hx:s.todo.getD k 0=x at *
  have hf:=gI (g.nd x.toNat)
  unfold dV at hf
  generalize hl0:s.bz.getD x.toNat []=l at *
  have hfl:=ml (g.nd x.toNat)
  have hil:(l.map i64).length=l.length:=by simp
  by_cases h5:(g.nd x.toNat).kind=5
  ·have hnow:ct (g.nd x.toNat) l=some (l++[(g.nd x.toNat).cT]):=by unfold ct;rw[if_pos h5]
   have hnl:(l++[(g.nd x.toNat).cT]).length<=k+1:=by rw[List.length_append];exact Nat.succ_le_succ hlk
   rw[hnow] at hrun
   dsimp only at hrun
   repeat' (first|refine aQ ?_|exact cP|with_reducible refine aB ?_ ?_|((with_reducible refine Ask.mk ?_);first|exact bx|(exact hlm)|(exact htm)|(exact hil)|(refine jU (m:=1) rfl ?_;simp only[List.length_map];omega)|exact bt|(intro h;simp_all[br.cells,Node.cells]<;>fail)|(simp_all[br.cells,Node.cells]<;>fail))|(apply aA;(·(first|exact eH x1 _|exact e1 _|exact e2 _|exact bp)))|refine aK (hf) ?_|(simp only[h5])|refine aH ?_|((with_reducible refine aE ?_ ?_)<;>intro hc<;>try(exfalso;omega)))
   obtain⟨nw,hnw⟩:∃nw,nw=l++[(g.nd x.toNat).cT]:=⟨_,rfl⟩
   rw[<-hnw] at hnow hnl hrun
   refine aP (fun q:HS×Nat=>[(1, .pt 0 1 0 0),(4, .sl 6 g.nodes.length),(5, .sl 11 g.nodes.length),(6, .sl 16 q.1.todo.length),(7,i64 k),(9, .im 1 .any ((nw).map i64)),(10, .im 1 .any ((g.nd x.toNat).dQ.map i64)),(11,i64 q.2)])
    (fun q H2 n2=>q.2<=(g.nd x.toNat).dQ.length/\n+15<=n2/\(∃d,bk H2 0=some (.row 40 4 d [g.av]))/\(∃d,bk H2 6=some (.row 89 1 d (q.1.bz.map dV)))/\(∃d,bk H2 11=some (.row 4 1 d (q.1.found.map bl)))/\(∃d,bk H2 16=some (.row 3 1 d (q.1.todo.map i64)))/\q.1.bz.length=g.nodes.length/\q.1.found.length=g.nodes.length/\q.1.todo.length+q.1.found.count false=g.nodes.length/\(∀i,(q.1.bz.getD i []).length<=k+1)/\cp (nw) ((g.nd x.toNat).dQ.drop q.2) q.1=cp (nw) (g.nd x.toNat).dQ s)
    (fun q=>(g.nd x.toNat).dQ.length - q.2) (s,0) ⟨_,_,_,Rt.uR 9 (n+14) (0+(l.map i64).length+1) (e:=3) (sz:=1) (es:=nw.map i64) rfl (by rw[hnw,<-fi];exact bm) (by rw[hnw];simp),bu,Nat.zero_le _,cI,⟨_,bm⟩,⟨_,bm⟩,⟨_,bm⟩,⟨_,bm⟩,hI.k7,hI.lr,hI.count,fun i=>Nat.le_succ_of_le (hlen i),rfl⟩ ?_
   clear r0 r6 r11 r16
   rintro⟨⟨lks,fnds,tds⟩,j⟩ H2 n2 ⟨hj,hn2,⟨d02,r0⟩,⟨d62,r6⟩,⟨d112,r11⟩,⟨d162,r16⟩,hll2,hfl2,hct2,hlen2,hto⟩
   dsimp only at hj hn2 r6 r11 r16 hll2 hfl2 hct2 hlen2 hto ⊢
   by_cases hjl:j<(g.nd x.toNat).dQ.length
   ·have hm:=cE (0:Int) hjl
    obtain⟨k0,k1⟩:=(hw.2.2 x.toNat x1).2.2 _ hm
    have e3:=fun d=>e9 (l:=(g.nd x.toNat).dQ) hjl d
    rw[fu _ _ _ hjl] at hto
    generalize hy:(g.nd x.toNat).dQ.getD j 0=y at *
    have hl2m:(lks.map dV).length=g.nodes.length:=by simp[hll2]
    have hf2m:(fnds.map bl).length=g.nodes.length:=by simp[hfl2]
    have e4:=fun d=>iy (l:=lks) (i:=y) (by rw[hll2];exact k1) d
    have e5:=fun d=>kF (l:=fnds) (k:=y) d (by rw[hfl2];exact k1)
    have hsm:=lX (lks.getD y.toNat []) (nw) (by have:=hlen2 y.toNat;omega) (by omega)
    unfold dV at hsm
    cases hfd:HS.f ⟨lks,fnds,tds⟩ y with
    |true=>
     rw[if_neg (by rw[hfd];decide)] at hto
     rw[show iF fnds y=true from hfd] at e5
     by_cases hq:lks.getD y.toNat []=(nw)
     ·have hq2:HS.l ⟨lks,fnds,tds⟩ y=(nw):=hq
      rw[if_pos hq2] at hto
      rw[decide_eq_true hq] at hsm
      repeat' (first|refine aQ ?_|exact cP|with_reducible refine aB ?_ ?_|((with_reducible refine Ask.mk ?_);first|exact bx|(exact hl2m)|(exact hf2m)|exact bt)|(apply aA;(·(first|exact e3 _|exact e4 _|exact e5 _|exact bp)))|refine aK (hsm) ?_|refine aH ?_|((with_reducible refine aE ?_ ?_)<;>intro hc<;>try(exfalso;omega)))
      exact⟨(⟨lks,fnds,tds⟩,j+1),by dsimp only;omega,_,_,_,Rt.refl _ _ _,bu,by dsimp only;omega,cI,⟨_,bm⟩,⟨_,bm⟩,⟨_,bm⟩,⟨_,bm⟩,hll2,hfl2,hct2,hlen2,hto⟩
     ·have hq2:¬HS.l ⟨lks,fnds,tds⟩ y=(nw):=hq
      rw[if_neg hq2] at hto
      rw[decide_eq_false hq] at hsm
      repeat' (first|refine aQ ?_|exact cP|with_reducible refine aB ?_ ?_|((with_reducible refine Ask.mk ?_);first|exact bx|(exact hl2m)|(exact hf2m)|exact bt)|(apply aA;(·(first|exact e3 _|exact e4 _|exact e5 _|exact bp)))|refine aK (hsm) ?_|refine aH ?_|((with_reducible refine aE ?_ ?_)<;>intro hc<;>try(exfalso;omega)))
      exact⟨.inl ⟨y,rfl,by rw[<-hrun,<-hto]⟩⟩
    |false=>
     rw[if_pos hfd] at hto
     rw[show iF fnds y=false from hfd] at e5
     have hcts:=count_set (l:=fnds) (i:=y.toNat) (by rw[hfl2];exact k1) hfd
     repeat' (first|refine aQ ?_|exact cP|with_reducible refine aB ?_ ?_|((with_reducible refine Ask.mk ?_);first|exact bx|(exact hl2m)|(exact hf2m)|exact bt)|(apply aA;(·(first|exact e3 _|exact e4 _|exact e5 _|exact bp)))|refine aH ?_|((with_reducible refine aE ?_ ?_)<;>intro hc<;>try(exfalso;omega)))
     refine⟨(⟨lks.set y.toNat (nw),fnds.set y.toNat true,tds++[y]⟩,j+1),by dsimp only;omega,_,_,_,Rt.refl _ _ _,bu,by dsimp only;omega,cI,⟨_,bm⟩,⟨_,by dsimp only;rw[<-kJ];exact bm⟩,⟨_,by dsimp only;rw[<-iK];exact bm⟩,⟨_,by dsimp only;rw[<-fi];exact bm⟩,by simp[hll2],by simp[hfl2], ?_, ?_,hto⟩
     ·simp only[List.length_append,List.length_cons,List.length_nil];omega
     ·intro i
      rw[cw]
      split
      ·exact hnl
      ·exact hlen2 i
   ·have:j=(g.nd x.toNat).dQ.length:=by omega
    subst this
    rw[List.drop_eq_nil_of_le (Nat.le_refl _),cp] at hto
    have hnx2:=hnx _ _ hnow hto.symm
    repeat' (first|refine aQ ?_|exact aC|with_reducible refine aB ?_ ?_|(apply aA;(·exact bp))|refine aH ?_|((with_reducible refine aE ?_ ?_)<;>intro hc<;>try(exfalso;omega)))
    refine⟨(⟨lks,fnds,tds⟩,k+1),by dsimp only;omega,bu,⟨_,_,Wk.refl _ _ _,cI,⟨_,bm⟩,⟨_,bm⟩,⟨_,bm⟩,⟨_,bm⟩,hnx2,by dsimp only;omega,hlen2, ?_⟩⟩
    rw[<-hrun,<-hto]
    dsimp only
    congr 1
    omega
  ·by_cases h6:(g.nd x.toNat).kind=6
   ·rcases List.eq_nil_or_concat l with rfl|⟨a,y,rfl⟩
    ·have hnow:ct (g.nd x.toNat) []=none:=by unfold ct;rw[if_neg h5,if_pos h6,if_neg (fun h=>h.1 rfl)]
     rw[hnow] at hrun
     dsimp only at hrun
     repeat' (first|refine aQ ?_|exact cP|with_reducible refine aB ?_ ?_|((with_reducible refine Ask.mk ?_);first|exact bx|(exact hlm)|(exact htm)|(exact hil)|(refine jU (m:=1) rfl ?_;simp only[List.length_map];omega)|exact bt|(intro h;simp_all[br.cells,Node.cells]<;>fail)|(simp_all[br.cells,Node.cells]<;>fail))|(apply aA;(·(first|exact eH x1 _|exact e1 _|exact e2 _|exact bp)))|refine aK (hf) ?_|(simp only[h6])|refine aH ?_|((with_reducible refine aE ?_ ?_)<;>intro hc<;>try(exfalso;omega)))
     exact⟨.inl ⟨x,rfl,hrun.symm⟩⟩
    ·rw[List.concat_eq_append] at *
     have hla:(a++[y]).length=a.length+1:=by simp
     have hml:((a++[y]).map i64).length=a.length+1:=by simp
     have e5:∀d,((a++[y]).map i64).getD (((a.length+1:Nat):Int) - 1).toNat d=i64 y:=fun d=>by
      rw[show(((a.length+1:Nat):Int) - 1).toNat=a.length by omega,List.map_append]
      simp[List.getD]
     have hm0:0+(List.map i64 (a++[y])).length=a.length+1:=by simp
     by_cases hy6:y=(g.nd x.toNat).cT
     ·subst hy6
      have hnow:ct (g.nd x.toNat) (a++[(g.nd x.toNat).cT])=some a:=by unfold ct;rw[if_neg h5,if_pos h6,if_pos ⟨by simp,by simp⟩,List.dropLast_concat]
      have hnl:a.length<=k+1:=by omega
      have htk:(((a++[(g.nd x.toNat).cT]).map i64).drop 0).take a.length=a.map i64:=by simp
      rw[hnow] at hrun
      dsimp only at hrun
      repeat' (first|refine aQ ?_|exact cP|with_reducible refine aB ?_ ?_|((with_reducible refine Ask.mk ?_);first|exact bx|(exact hlm)|(exact htm)|(exact hil)|(refine jU (m:=1) rfl ?_;simp only[List.length_map];omega)|exact bt|(intro h;simp_all[br.cells,Node.cells]<;>fail)|(simp_all[br.cells,Node.cells]<;>fail))|(apply aA;(·(first|exact eH x1 _|exact e1 _|exact e2 _|exact e5 _|exact bp)))|refine aK (hf) ?_|(simp only[h6])|(simp only[hm0])|((with_reducible apply aW);(·exact v7 (es:=List.map i64 (a++[(g.nd x.toNat).cT])) bm hml sx sx LZ))|refine aH ?_|((with_reducible refine aE ?_ ?_)<;>intro hc<;>try(exfalso;omega)))
      ·exact absurd hc (by simp;omega)
      refine aP (fun q:HS×Nat=>[(1, .pt 0 1 0 0),(4, .sl 6 g.nodes.length),(5, .sl 11 g.nodes.length),(6, .sl 16 q.1.todo.length),(7,i64 k),(9, .im 1 .any ((a).map i64)),(10, .im 1 .any ((g.nd x.toNat).dQ.map i64)),(11,i64 q.2)])
       (fun q H2 n2=>q.2<=(g.nd x.toNat).dQ.length/\n+15<=n2/\(∃d,bk H2 0=some (.row 40 4 d [g.av]))/\(∃d,bk H2 6=some (.row 89 1 d (q.1.bz.map dV)))/\(∃d,bk H2 11=some (.row 4 1 d (q.1.found.map bl)))/\(∃d,bk H2 16=some (.row 3 1 d (q.1.todo.map i64)))/\q.1.bz.length=g.nodes.length/\q.1.found.length=g.nodes.length/\q.1.todo.length+q.1.found.count false=g.nodes.length/\(∀i,(q.1.bz.getD i []).length<=k+1)/\cp (a) ((g.nd x.toNat).dQ.drop q.2) q.1=cp (a) (g.nd x.toNat).dQ s)
       (fun q=>(g.nd x.toNat).dQ.length - q.2) (s,0) ⟨_,_,_,Rt.N7 9 (n+14) (a.length+1) 0 (a.length - 0) (e:=3) (sz:=1) (l:=(a++[(g.nd x.toNat).cT]).map i64) rfl bm hml (by omega) (by first|(rw[Nat.sub_zero];exact htk)|rw[Nat.sub_zero]),bu,Nat.zero_le _,cI,⟨_,bm⟩,⟨_,bm⟩,⟨_,bm⟩,⟨_,bm⟩,hI.k7,hI.lr,hI.count,fun i=>Nat.le_succ_of_le (hlen i),rfl⟩ ?_
      clear r0 r6 r11 r16
      rintro⟨⟨lks,fnds,tds⟩,j⟩ H2 n2 ⟨hj,hn2,⟨d02,r0⟩,⟨d62,r6⟩,⟨d112,r11⟩,⟨d162,r16⟩,hll2,hfl2,hct2,hlen2,hto⟩
      dsimp only at hj hn2 r6 r11 r16 hll2 hfl2 hct2 hlen2 hto ⊢
      by_cases hjl:j<(g.nd x.toNat).dQ.length
      ·have hm:=cE (0:Int) hjl
       obtain⟨k0,k1⟩:=(hw.2.2 x.toNat x1).2.2 _ hm
       have e3:=fun d=>e9 (l:=(g.nd x.toNat).dQ) hjl d
       rw[fu _ _ _ hjl] at hto
       generalize hy:(g.nd x.toNat).dQ.getD j 0=y at *
       have hl2m:(lks.map dV).length=g.nodes.length:=by simp[hll2]
       have hf2m:(fnds.map bl).length=g.nodes.length:=by simp[hfl2]
       have e4:=fun d=>iy (l:=lks) (i:=y) (by rw[hll2];exact k1) d
       have e5:=fun d=>kF (l:=fnds) (k:=y) d (by rw[hfl2];exact k1)
       have hsm:=lX (lks.getD y.toNat []) (a) (by have:=hlen2 y.toNat;omega) (by omega)
       unfold dV at hsm
       cases hfd:HS.f ⟨lks,fnds,tds⟩ y with
       |true=>
        rw[if_neg (by rw[hfd];decide)] at hto
        rw[show iF fnds y=true from hfd] at e5
        by_cases hq:lks.getD y.toNat []=(a)
        ·have hq2:HS.l ⟨lks,fnds,tds⟩ y=(a):=hq
         rw[if_pos hq2] at hto
         rw[decide_eq_true hq] at hsm
         repeat' (first|refine aQ ?_|exact cP|with_reducible refine aB ?_ ?_|((with_reducible refine Ask.mk ?_);first|exact bx|(exact hl2m)|(exact hf2m)|exact bt)|(apply aA;(·(first|exact e3 _|exact e4 _|exact e5 _|exact bp)))|refine aK (hsm) ?_|refine aH ?_|((with_reducible refine aE ?_ ?_)<;>intro hc<;>try(exfalso;omega)))
         exact⟨(⟨lks,fnds,tds⟩,j+1),by dsimp only;omega,_,_,_,Rt.refl _ _ _,bu,by dsimp only;omega,cI,⟨_,bm⟩,⟨_,bm⟩,⟨_,bm⟩,⟨_,bm⟩,hll2,hfl2,hct2,hlen2,hto⟩
        ·have hq2:¬HS.l ⟨lks,fnds,tds⟩ y=(a):=hq
         rw[if_neg hq2] at hto
         rw[decide_eq_false hq] at hsm
         repeat' (first|refine aQ ?_|exact cP|with_reducible refine aB ?_ ?_|((with_reducible refine Ask.mk ?_);first|exact bx|(exact hl2m)|(exact hf2m)|exact bt)|(apply aA;(·(first|exact e3 _|exact e4 _|exact e5 _|exact bp)))|refine aK (hsm) ?_|refine aH ?_|((with_reducible refine aE ?_ ?_)<;>intro hc<;>try(exfalso;omega)))
         exact⟨.inl ⟨y,rfl,by rw[<-hrun,<-hto]⟩⟩
       |false=>
        rw[if_pos hfd] at hto
        rw[show iF fnds y=false from hfd] at e5
        have hcts:=count_set (l:=fnds) (i:=y.toNat) (by rw[hfl2];exact k1) hfd
        repeat' (first|refine aQ ?_|exact cP|with_reducible refine aB ?_ ?_|((with_reducible refine Ask.mk ?_);first|exact bx|(exact hl2m)|(exact hf2m)|exact bt)|(apply aA;(·(first|exact e3 _|exact e4 _|exact e5 _|exact bp)))|refine aH ?_|((with_reducible refine aE ?_ ?_)<;>intro hc<;>try(exfalso;omega)))
        refine⟨(⟨lks.set y.toNat (a),fnds.set y.toNat true,tds++[y]⟩,j+1),by dsimp only;omega,_,_,_,Rt.refl _ _ _,bu,by dsimp only;omega,cI,⟨_,bm⟩,⟨_,by dsimp only;rw[<-kJ];exact bm⟩,⟨_,by dsimp only;rw[<-iK];exact bm⟩,⟨_,by dsimp only;rw[<-fi];exact bm⟩,by simp[hll2],by simp[hfl2], ?_, ?_,hto⟩
        ·simp only[List.length_append,List.length_cons,List.length_nil];omega
        ·intro i
         rw[cw]
         split
         ·exact hnl
         ·exact hlen2 i
      ·have:j=(g.nd x.toNat).dQ.length:=by omega
       subst this
       rw[List.drop_eq_nil_of_le (Nat.le_refl _),cp] at hto
       have hnx2:=hnx _ _ hnow hto.symm
       repeat' (first|refine aQ ?_|exact aC|with_reducible refine aB ?_ ?_|(apply aA;(·exact bp))|refine aH ?_|((with_reducible refine aE ?_ ?_)<;>intro hc<;>try(exfalso;omega)))
       refine⟨(⟨lks,fnds,tds⟩,k+1),by dsimp only;omega,bu,⟨_,_,Wk.refl _ _ _,cI,⟨_,bm⟩,⟨_,bm⟩,⟨_,bm⟩,⟨_,bm⟩,hnx2,by dsimp only;omega,hlen2, ?_⟩⟩
       rw[<-hrun,<-hto]
       dsimp only
       congr 1
       omega
     ·have hnow:ct (g.nd x.toNat) (a++[y])=none:=by unfold ct;rw[if_neg h5,if_pos h6,if_neg (fun h=>hy6 (by simpa using h.2))]
      have hy7:¬y=(g.nodes.getD x.toNat default).cT:=hy6
      rw[hnow] at hrun
      dsimp only at hrun
      repeat' (first|refine aQ ?_|exact cP|with_reducible refine aB ?_ ?_|((with_reducible refine Ask.mk ?_);first|exact bx|(exact hlm)|(exact htm)|(exact hil)|(refine jU (m:=1) rfl ?_;simp only[List.length_map];omega)|exact bt|(intro h;simp_all[br.cells,Node.cells]<;>fail)|(simp_all[br.cells,Node.cells]<;>fail))|(apply aA;(·(first|exact eH x1 _|exact e1 _|exact e2 _|exact e5 _|exact bp)))|refine aK (hf) ?_|(simp only[h6])|(simp only[hm0])|refine aH ?_|((with_reducible refine aE ?_ ?_)<;>intro hc<;>try(exfalso;omega)))
      all_goals exact⟨.inl ⟨x,rfl,hrun.symm⟩⟩
   ·by_cases h9:(g.nd x.toNat).kind=9/\l≠[]
    ·have hnow:ct (g.nd x.toNat) l=none:=by unfold ct;rw[if_neg h5,if_neg h6,if_pos h9.1,if_neg h9.2]
     have hlp:0<l.length:=List.length_pos_iff.2 h9.2
     have h91:=h9.1
     rw[hnow] at hrun
     dsimp only at hrun
     repeat' (first|refine aQ ?_|exact cP|with_reducible refine aB ?_ ?_|((with_reducible refine Ask.mk ?_);first|exact bx|(exact hlm)|(exact htm)|(exact hil)|(refine jU (m:=1) rfl ?_;simp only[List.length_map];omega)|exact bt|(intro h;simp_all[br.cells,Node.cells]<;>fail)|(simp_all[br.cells,Node.cells]<;>fail))|(apply aA;(·(first|exact eH x1 _|exact e1 _|exact e2 _|exact bp)))|refine aK (hf) ?_|(simp only[h91])|refine aH ?_|((with_reducible refine aE ?_ ?_)<;>intro hc<;>try(exfalso;omega)))
     exact⟨.inl ⟨x,rfl,hrun.symm⟩⟩
    ·by_cases h91:(g.nd x.toNat).kind=9
     ·have hl0:l=[]:=Classical.byContradiction fun h=>h9 ⟨h91,h⟩
      subst hl0
      have hnow:ct (g.nd x.toNat) []=some []:=by unfold ct;rw[if_neg h5,if_neg h6,if_pos h91,if_pos rfl]
      have hnl:([]:List Int).length<=k+1:=Nat.zero_le _
      rw[hnow] at hrun
      dsimp only at hrun
      repeat' (first|refine aQ ?_|exact cP|with_reducible refine aB ?_ ?_|((with_reducible refine Ask.mk ?_);first|exact bx|(exact hlm)|(exact htm)|(exact hil)|(refine jU (m:=1) rfl ?_;simp only[List.length_map];omega)|exact bt|(intro h;simp_all[br.cells,Node.cells]<;>fail)|(simp_all[br.cells,Node.cells]<;>fail))|(apply aA;(·(first|exact eH x1 _|exact e1 _|exact e2 _|exact bp)))|refine aK (hf) ?_|(simp only[h91])|refine aH ?_|((with_reducible refine aE ?_ ?_)<;>intro hc<;>try(exfalso;omega)))
      refine aP (fun q:HS×Nat=>[(1, .pt 0 1 0 0),(4, .sl 6 g.nodes.length),(5, .sl 11 g.nodes.length),(6, .sl 16 q.1.todo.length),(7,i64 k),(9, .im 1 .any (([]).map i64)),(10, .im 1 .any ((g.nd x.toNat).dQ.map i64)),(11,i64 q.2)])
       (fun q H2 n2=>q.2<=(g.nd x.toNat).dQ.length/\n+15<=n2/\(∃d,bk H2 0=some (.row 40 4 d [g.av]))/\(∃d,bk H2 6=some (.row 89 1 d (q.1.bz.map dV)))/\(∃d,bk H2 11=some (.row 4 1 d (q.1.found.map bl)))/\(∃d,bk H2 16=some (.row 3 1 d (q.1.todo.map i64)))/\q.1.bz.length=g.nodes.length/\q.1.found.length=g.nodes.length/\q.1.todo.length+q.1.found.count false=g.nodes.length/\(∀i,(q.1.bz.getD i []).length<=k+1)/\cp ([]) ((g.nd x.toNat).dQ.drop q.2) q.1=cp ([]) (g.nd x.toNat).dQ s)
       (fun q=>(g.nd x.toNat).dQ.length - q.2) (s,0) ⟨_,_,_,Rt.uR 9 (n+14) (0) (e:=3) (sz:=1) (es:=([]:List Int).map i64) rfl bm (by simp),bu,Nat.zero_le _,cI,⟨_,bm⟩,⟨_,bm⟩,⟨_,bm⟩,⟨_,bm⟩,hI.k7,hI.lr,hI.count,fun i=>Nat.le_succ_of_le (hlen i),rfl⟩ ?_
      clear r0 r6 r11 r16
      rintro⟨⟨lks,fnds,tds⟩,j⟩ H2 n2 ⟨hj,hn2,⟨d02,r0⟩,⟨d62,r6⟩,⟨d112,r11⟩,⟨d162,r16⟩,hll2,hfl2,hct2,hlen2,hto⟩
      dsimp only at hj hn2 r6 r11 r16 hll2 hfl2 hct2 hlen2 hto ⊢
      by_cases hjl:j<(g.nd x.toNat).dQ.length
      ·have hm:=cE (0:Int) hjl
       obtain⟨k0,k1⟩:=(hw.2.2 x.toNat x1).2.2 _ hm
       have e3:=fun d=>e9 (l:=(g.nd x.toNat).dQ) hjl d
       rw[fu _ _ _ hjl] at hto
       generalize hy:(g.nd x.toNat).dQ.getD j 0=y at *
       have hl2m:(lks.map dV).length=g.nodes.length:=by simp[hll2]
       have hf2m:(fnds.map bl).length=g.nodes.length:=by simp[hfl2]
       have e4:=fun d=>iy (l:=lks) (i:=y) (by rw[hll2];exact k1) d
       have e5:=fun d=>kF (l:=fnds) (k:=y) d (by rw[hfl2];exact k1)
       have hsm:=lX (lks.getD y.toNat []) ([]) (by have:=hlen2 y.toNat;omega) (by omega)
       unfold dV at hsm
       cases hfd:HS.f ⟨lks,fnds,tds⟩ y with
       |true=>
        rw[if_neg (by rw[hfd];decide)] at hto
        rw[show iF fnds y=true from hfd] at e5
        by_cases hq:lks.getD y.toNat []=([])
        ·have hq2:HS.l ⟨lks,fnds,tds⟩ y=([]):=hq
         rw[if_pos hq2] at hto
         rw[decide_eq_true hq] at hsm
         repeat' (first|refine aQ ?_|exact cP|with_reducible refine aB ?_ ?_|((with_reducible refine Ask.mk ?_);first|exact bx|(exact hl2m)|(exact hf2m)|exact bt)|(apply aA;(·(first|exact e3 _|exact e4 _|exact e5 _|exact bp)))|refine aK (hsm) ?_|refine aH ?_|((with_reducible refine aE ?_ ?_)<;>intro hc<;>try(exfalso;omega)))
         exact⟨(⟨lks,fnds,tds⟩,j+1),by dsimp only;omega,_,_,_,Rt.refl _ _ _,bu,by dsimp only;omega,cI,⟨_,bm⟩,⟨_,bm⟩,⟨_,bm⟩,⟨_,bm⟩,hll2,hfl2,hct2,hlen2,hto⟩
        ·have hq2:¬HS.l ⟨lks,fnds,tds⟩ y=([]):=hq
         rw[if_neg hq2] at hto
         rw[decide_eq_false hq] at hsm
         repeat' (first|refine aQ ?_|exact cP|with_reducible refine aB ?_ ?_|((with_reducible refine Ask.mk ?_);first|exact bx|(exact hl2m)|(exact hf2m)|exact bt)|(apply aA;(·(first|exact e3 _|exact e4 _|exact e5 _|exact bp)))|refine aK (hsm) ?_|refine aH ?_|((with_reducible refine aE ?_ ?_)<;>intro hc<;>try(exfalso;omega)))
         exact⟨.inl ⟨y,rfl,by rw[<-hrun,<-hto]⟩⟩
       |false=>
        rw[if_pos hfd] at hto
        rw[show iF fnds y=false from hfd] at e5
        have hcts:=count_set (l:=fnds) (i:=y.toNat) (by rw[hfl2];exact k1) hfd
        repeat' (first|refine aQ ?_|exact cP|with_reducible refine aB ?_ ?_|((with_reducible refine Ask.mk ?_);first|exact bx|(exact hl2m)|(exact hf2m)|exact bt)|(apply aA;(·(first|exact e3 _|exact e4 _|exact e5 _|exact bp)))|refine aH ?_|((with_reducible refine aE ?_ ?_)<;>intro hc<;>try(exfalso;omega)))
        refine⟨(⟨lks.set y.toNat ([]),fnds.set y.toNat true,tds++[y]⟩,j+1),by dsimp only;omega,_,_,_,Rt.refl _ _ _,bu,by dsimp only;omega,cI,⟨_,bm⟩,⟨_,by dsimp only;rw[<-kJ];exact bm⟩,⟨_,by dsimp only;rw[<-iK];exact bm⟩,⟨_,by dsimp only;rw[<-fi];exact bm⟩,by simp[hll2],by simp[hfl2], ?_, ?_,hto⟩
        ·simp only[List.length_append,List.length_cons,List.length_nil];omega
        ·intro i
         rw[cw]
         split
         ·exact hnl
         ·exact hlen2 i
      ·have:j=(g.nd x.toNat).dQ.length:=by omega
       subst this
       rw[List.drop_eq_nil_of_le (Nat.le_refl _),cp] at hto
       have hnx2:=hnx _ _ hnow hto.symm
       repeat' (first|refine aQ ?_|exact aC|with_reducible refine aB ?_ ?_|(apply aA;(·exact bp))|refine aH ?_|((with_reducible refine aE ?_ ?_)<;>intro hc<;>try(exfalso;omega)))
       refine⟨(⟨lks,fnds,tds⟩,k+1),by dsimp only;omega,bu,⟨_,_,Wk.refl _ _ _,cI,⟨_,bm⟩,⟨_,bm⟩,⟨_,bm⟩,⟨_,bm⟩,hnx2,by dsimp only;omega,hlen2, ?_⟩⟩
       rw[<-hrun,<-hto]
       dsimp only
       congr 1
       omega
     ·have hnow:ct (g.nd x.toNat) l=some l:=by unfold ct;rw[if_neg h5,if_neg h6,if_neg h91]
      have hnl:l.length<=k+1:=by omega
      rw[hnow] at hrun
      dsimp only at hrun
      repeat' (first|refine aQ ?_|exact cP|with_reducible refine aB ?_ ?_|((with_reducible refine Ask.mk ?_);first|exact bx|(exact hlm)|(exact htm)|(exact hil)|(refine jU (m:=1) rfl ?_;simp only[List.length_map];omega)|exact bt|(intro h;simp_all[br.cells,Node.cells]<;>fail)|(simp_all[br.cells,Node.cells]<;>fail))|(apply aA;(·(first|exact eH x1 _|exact e1 _|exact e2 _|exact bp)))|refine aK (hf) ?_|(simp only[h5])|(simp only[h6])|(simp only[h91])|refine aH ?_|((with_reducible refine aE ?_ ?_)<;>intro hc<;>try(exfalso;omega)))
      refine aP (fun q:HS×Nat=>[(1, .pt 0 1 0 0),(4, .sl 6 g.nodes.length),(5, .sl 11 g.nodes.length),(6, .sl 16 q.1.todo.length),(7,i64 k),(9, .im 1 .any ((l).map i64)),(10, .im 1 .any ((g.nd x.toNat).dQ.map i64)),(11,i64 q.2)])
       (fun q H2 n2=>q.2<=(g.nd x.toNat).dQ.length/\n+15<=n2/\(∃d,bk H2 0=some (.row 40 4 d [g.av]))/\(∃d,bk H2 6=some (.row 89 1 d (q.1.bz.map dV)))/\(∃d,bk H2 11=some (.row 4 1 d (q.1.found.map bl)))/\(∃d,bk H2 16=some (.row 3 1 d (q.1.todo.map i64)))/\q.1.bz.length=g.nodes.length/\q.1.found.length=g.nodes.length/\q.1.todo.length+q.1.found.count false=g.nodes.length/\(∀i,(q.1.bz.getD i []).length<=k+1)/\cp (l) ((g.nd x.toNat).dQ.drop q.2) q.1=cp (l) (g.nd x.toNat).dQ s)
       (fun q=>(g.nd x.toNat).dQ.length - q.2) (s,0) ⟨_,_,_,Rt.uR 9 (n+14) (0+(l.map i64).length) (e:=3) (sz:=1) (es:=l.map i64) rfl bm (by simp),bu,Nat.zero_le _,cI,⟨_,bm⟩,⟨_,bm⟩,⟨_,bm⟩,⟨_,bm⟩,hI.k7,hI.lr,hI.count,fun i=>Nat.le_succ_of_le (hlen i),rfl⟩ ?_
      clear r0 r6 r11 r16
      rintro⟨⟨lks,fnds,tds⟩,j⟩ H2 n2 ⟨hj,hn2,⟨d02,r0⟩,⟨d62,r6⟩,⟨d112,r11⟩,⟨d162,r16⟩,hll2,hfl2,hct2,hlen2,hto⟩
      dsimp only at hj hn2 r6 r11 r16 hll2 hfl2 hct2 hlen2 hto ⊢
      by_cases hjl:j<(g.nd x.toNat).dQ.length
      ·have hm:=cE (0:Int) hjl
       obtain⟨k0,k1⟩:=(hw.2.2 x.toNat x1).2.2 _ hm
       have e3:=fun d=>e9 (l:=(g.nd x.toNat).dQ) hjl d
       rw[fu _ _ _ hjl] at hto
       generalize hy:(g.nd x.toNat).dQ.getD j 0=y at *
       have hl2m:(lks.map dV).length=g.nodes.length:=by simp[hll2]
       have hf2m:(fnds.map bl).length=g.nodes.length:=by simp[hfl2]
       have e4:=fun d=>iy (l:=lks) (i:=y) (by rw[hll2];exact k1) d
       have e5:=fun d=>kF (l:=fnds) (k:=y) d (by rw[hfl2];exact k1)
       have hsm:=lX (lks.getD y.toNat []) (l) (by have:=hlen2 y.toNat;omega) (by omega)
       unfold dV at hsm
       cases hfd:HS.f ⟨lks,fnds,tds⟩ y with
       |true=>
        rw[if_neg (by rw[hfd];decide)] at hto
        rw[show iF fnds y=true from hfd] at e5
        by_cases hq:lks.getD y.toNat []=(l)
        ·have hq2:HS.l ⟨lks,fnds,tds⟩ y=(l):=hq
         rw[if_pos hq2] at hto
         rw[decide_eq_true hq] at hsm
         repeat' (first|refine aQ ?_|exact cP|with_reducible refine aB ?_ ?_|((with_reducible refine Ask.mk ?_);first|exact bx|(exact hl2m)|(exact hf2m)|exact bt)|(apply aA;(·(first|exact e3 _|exact e4 _|exact e5 _|exact bp)))|refine aK (hsm) ?_|refine aH ?_|((with_reducible refine aE ?_ ?_)<;>intro hc<;>try(exfalso;omega)))
         exact⟨(⟨lks,fnds,tds⟩,j+1),by dsimp only;omega,_,_,_,Rt.refl _ _ _,bu,by dsimp only;omega,cI,⟨_,bm⟩,⟨_,bm⟩,⟨_,bm⟩,⟨_,bm⟩,hll2,hfl2,hct2,hlen2,hto⟩
        ·have hq2:¬HS.l ⟨lks,fnds,tds⟩ y=(l):=hq
         rw[if_neg hq2] at hto
         rw[decide_eq_false hq] at hsm
         repeat' (first|refine aQ ?_|exact cP|with_reducible refine aB ?_ ?_|((with_reducible refine Ask.mk ?_);first|exact bx|(exact hl2m)|(exact hf2m)|exact bt)|(apply aA;(·(first|exact e3 _|exact e4 _|exact e5 _|exact bp)))|refine aK (hsm) ?_|refine aH ?_|((with_reducible refine aE ?_ ?_)<;>intro hc<;>try(exfalso;omega)))
         exact⟨.inl ⟨y,rfl,by rw[<-hrun,<-hto]⟩⟩
       |false=>
        rw[if_pos hfd] at hto
        rw[show iF fnds y=false from hfd] at e5
        have hcts:=count_set (l:=fnds) (i:=y.toNat) (by rw[hfl2];exact k1) hfd
        repeat' (first|refine aQ ?_|exact cP|with_reducible refine aB ?_ ?_|((with_reducible refine Ask.mk ?_);first|exact bx|(exact hl2m)|(exact hf2m)|exact bt)|(apply aA;(·(first|exact e3 _|exact e4 _|exact e5 _|exact bp)))|refine aH ?_|((with_reducible refine aE ?_ ?_)<;>intro hc<;>try(exfalso;omega)))
        refine⟨(⟨lks.set y.toNat (l),fnds.set y.toNat true,tds++[y]⟩,j+1),by dsimp only;omega,_,_,_,Rt.refl _ _ _,bu,by dsimp only;omega,cI,⟨_,bm⟩,⟨_,by dsimp only;rw[<-kJ];exact bm⟩,⟨_,by dsimp only;rw[<-iK];exact bm⟩,⟨_,by dsimp only;rw[<-fi];exact bm⟩,by simp[hll2],by simp[hfl2], ?_, ?_,hto⟩
        ·simp only[List.length_append,List.length_cons,List.length_nil];omega
        ·intro i
         rw[cw]
         split
         ·exact hnl
         ·exact hlen2 i
      ·have:j=(g.nd x.toNat).dQ.length:=by omega
       subst this
       rw[List.drop_eq_nil_of_le (Nat.le_refl _),cp] at hto
       have hnx2:=hnx _ _ hnow hto.symm
       repeat' (first|refine aQ ?_|exact aC|with_reducible refine aB ?_ ?_|(apply aA;(·exact bp))|refine aH ?_|((with_reducible refine aE ?_ ?_)<;>intro hc<;>try(exfalso;omega)))
       refine⟨(⟨lks,fnds,tds⟩,k+1),by dsimp only;omega,bu,⟨_,_,Wk.refl _ _ _,cI,⟨_,bm⟩,⟨_,bm⟩,⟨_,bm⟩,⟨_,bm⟩,hnx2,by dsimp only;omega,hlen2, ?_⟩⟩
       rw[<-hrun,<-hto]
       dsimp only
       congr 1
       omega
 ·have hkt:s.todo.length<=k:=by omega
  have hrun2:cx g=(s.bz,-1):=by
   rw[<-hrun,show g.nodes.length+1 - k=(g.nodes.length - k)+1 by omega,fI,if_neg hk]
  repeat' (first|refine aQ ?_|exact aC|with_reducible refine aB ?_ ?_|(apply aA;(·exact bp))|refine aH ?_|((with_reducible refine aE ?_ ?_)<;>intro hc<;>try(exfalso;omega)))
  exact⟨.inr ⟨6,d6,s.bz,by rw[hI.k7],hrun2,bm⟩⟩
end Go.Proofs.YtmonponfppdgfaaGreatDoor
