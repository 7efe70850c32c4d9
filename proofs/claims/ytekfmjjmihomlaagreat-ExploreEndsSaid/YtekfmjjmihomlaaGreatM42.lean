import Derived.Test.YtekfmjjmihomlaaGreatM41
import Derived.Test.YtekfmjjmihomlaaGreatM26
import Derived.Test.YtekfmjjmihomlaaGreatM25
import Derived.Test.YtekfmjjmihomlaaGreatM29
section
/- The document's question of names: the walk. -/
namespace Go.Proofs.YtekfmjjmihomlaaGreat
open Go Go.cZ Go.Proofs
set_option linter.unusedSimpArgs false
set_option linter.unusedVariables false
abbrev strs (l:List ByteArray):List AV:=l.map fun s=>st s
theorem PF {l:List ByteArray} {i:Nat} (h:i<l.length) (d:AV):(strs l).getD ((i:Int)).toNat d=st (l.getD i default):=by rw[Int.toNat_natCast];exact dB (fun s=>st s) l i d h
theorem JX (l:List ByteArray) (s:ByteArray):strs l++[st s]=strs (l++[s]):=by simp[strs]
theorem JY (l:List ByteArray):(strs l).length=l.length:=by simp[strs]
theorem KZ {l:List Decl} {i:Nat} (h:i<l.length) (d:AV):(l.map Decl.av).getD ((i:Int)).toNat d=(l.getD i default).av:=by rw[Int.toNat_natCast];exact dB Decl.av l i d h
def rf:List ByteArray→List Decl→Bool→Bool
 |_,[],_=>true
 |acc,d::r,w=>if(fI d.name&&(w||decide (d.word=0))&& !fV acc d.name)=true then rf (acc++[d.name]) r w else false
def mS (l:List Decl) (i:Nat):List ByteArray:=(l.take i).map Decl.name
theorem I6 {acc:List ByteArray} {l:List Decl} {w:Bool} {i:Nat} (h:i<l.length):rf acc (l.drop i) w=if(fI (l.getD i default).name&&(w||decide ((l.getD i default).word=0))&& !fV acc (l.getD i default).name)=true then rf (acc++[(l.getD i default).name]) (l.drop (i+1)) w else false:=by
 rw[List.drop_eq_getElem_cons h,rf,show l.getD i default=l[i] by simp[List.getD,h]]
theorem D2 {l:List Decl} {i:Nat} (h:i<l.length):mS l (i+1)=mS l i++[(l.getD i default).name]:=by
 unfold mS
 rw[List.take_succ_eq_append_getElem h,List.map_append,show l.getD i default=l[i] by simp[List.getD,h]];rfl
theorem I1 {l:List Decl} {i:Nat} (h:i≤l.length):(mS l i).length=i:=by simp[mS];omega
theorem D0 {l:List ByteArray} {k:Nat} (h:k<l.length) (s:ByteArray):fV (l.take (k+1)) s=(fV (l.take k) s||decide (s=l.getD k default)):=by
 rw[Bool.eq_iff_iff,Bool.or_eq_true,xb,xb,decide_eq_true_eq,List.take_succ_eq_append_getElem h,List.mem_append,show l.getD k default=l[k] by simp[List.getD,h]]
 simp
theorem P7 (a b:ByteArray):(a==b)=decide (a=b):=by
 obtain⟨d⟩:=a
 obtain⟨d'⟩:=b
 show(d==d')=_
 rw[Bool.eq_iff_iff]
 simp
def AU (nv:AV) (L:List ByteArray) (H:Hp) (nx:Nat):Prop:=(nv= .sc (.slice none 0 0)∧L=[])∨∃b d,nv= .sl b L.length∧b<nx∧bn H b=some (.row 9 1 d (strs L))
def iC (nv:AV) (y:Nat):Prop:=∀b n,nv= .sl b n→y≠b
theorem vd {b n y:Nat} (h:iC (.sl b n) y):y≠b:=h b n rfl
theorem FG {b n m y:Nat} (h:iC (.sl b n) y):iC (.sl b m) y:=fun b' n' e=>by cases e;exact h b n rfl
set_option maxRecDepth 4000 in
set_option maxHeartbeats 8000000 in
theorem xr (l:List Decl) (hl:l.length≤64) (hw:∀d∈l,d.Wf) (a0:List ByteArray) (ha:a0.length≤1000) (w:Bool) (nv0:AV) (H0:Hp) (nx:Nat) (ht0:AU nv0 a0 H0 nx):cP Tryz.prog 96 [bw l,nv0,bl w] H0 nx (fun r H n=>nx≤n∧(∀y,y<nx→iC nv0 y→bn H y=bn H0 y)∧(rf a0 l w=true→∃nv,r= .dV [nv,bl true]∧AU nv (a0++l.map Decl.name) H n∧∀y,y<nx→iC nv0 y→iC nv y)∧(rf a0 l w=false→r= .dV [.sc (.slice none 0 0),bl false])):=by
 have hml:(l.map Decl.av).length=l.length:=by simp
 refine aQ IU rfl ?_
 repeat' (first|((with_reducible refine aF ?_);conv=>whnf)|refine aG ?_|exact aC|with_reducible refine aD ?_ ?_|(apply aA;(·exact cF))|refine aH ?_|((with_reducible refine aB ?_ ?_)<;>intro hc<;>(try simp only[List.length_map,ne_eq,dE] at hc)<;>try(exfalso;omega)))
 refine aP (fun σ:Nat×AV=>[(0,bw l),(1,σ.2),(2,bl w),(8,i64 σ.1)])
  (fun σ H n=>σ.1≤l.length∧nx≤n∧rf (a0++mS l σ.1) (l.drop σ.1) w=rf a0 l w∧AU σ.2 (a0++mS l σ.1) H n∧(∀y,y<nx→iC nv0 y→iC σ.2 y)∧∀y,y<nx→iC nv0 y→bn H y=bn H0 y) (fun σ=>l.length - σ.1) (0,nv0) cI ⟨Nat.zero_le _,c8,by simp[mS], ?_,fun _ _ h=>h,fun y hy _=>cB⟩ ?_
 ·rw[show a0++mS l (0:Nat)=a0 by simp[mS]]
  rcases ht0 with h|⟨b,d,h1,h2,h3⟩
  ·exact .inl h
  ·exact .inr ⟨b,d,h1,Nat.lt_of_lt_of_le h2 c8,Eq.trans cB h3⟩
 rintro⟨i,nv⟩ H n ⟨hi,hnn,hok,htold,hap,hkp⟩
 dsimp only at hi hok htold hap ⊢
 have hLl:(a0++mS l i).length=a0.length+i:=by rw[List.length_append,I1 hi]
 by_cases hil:i<l.length
 ·have ed:=fun d=>KZ (l:=l) hil d
  have hdw:=hw _ (cW default hil)
  have hnm:=zw (l.getD i default).name hdw.name
  rw[I6 hil] at hok
  have hnx:a0++mS l (i+1)=(a0++mS l i)++[(l.getD i default).name]:=by rw[D2 hil,List.append_assoc]
  generalize hL:a0++mS l i=L at *
  generalize l.getD i default=dd at *
  have hsl:(strs L).length=L.length:=JY L
  rcases htold with⟨rfl,hL0⟩|⟨b,d,rfl,hbn,hb⟩
  ·have hL0l:L.length=0:=by rw[hL0];rfl
   repeat' (first|((with_reducible refine aF ?_);conv=>whnf)|refine aG ?_|exact eK|with_reducible refine aD ?_ ?_|((with_reducible refine Ask.mk ?_);first|exact cz|(exact hml)|(exact hsl)|exact cU|(intro h;simp_all[Decl.cells]<;>fail)|(simp_all[Decl.cells]<;>fail))|(apply aA;(·(first|exact ed _|exact cF)))|refine aK (hnm) ?_|refine aH ?_|((with_reducible refine aB ?_ ?_)<;>intro hc<;>(try simp only[List.length_map,ne_eq,dE] at hc)<;>try(exfalso;omega)))
   refine aP (fun σ:Nat×Bool=>[(0,bw l),(1, .sc (.slice none 0 0)),(2,bl w),(8,i64 i),(9,bl σ.2),(10,i64 σ.1)])
    (fun σ H2 n2=>σ.1≤L.length∧n≤n2∧σ.2=(fI dd.name&&(w||decide (dd.word=0))&& !fV (L.take σ.1) dd.name)∧∀y,y<nx→iC nv0 y→bn H2 y=bn H0 y) (fun σ=>L.length - σ.1) (0,(if fI dd.name=true then(if w=true then true else decide (dd.word=0)) else false)) cI ⟨Nat.zero_le _,c8,by cases fI dd.name<;>cases w<;>simp[fV],fun y hy h=>Eq.trans cB (hkp y hy h)⟩ ?_
   rintro⟨k,okv⟩ H2 n2 ⟨hk,hn2,hokv,hkp2⟩
   dsimp only at hk hokv ⊢
   by_cases hkl:k<L.length
   ·exfalso;omega
   ·have:k=L.length:=by omega
    subst this
    rw[List.take_length] at hokv
    rw[←hokv] at hok
    cases okv with
    |false=>
     rw[if_neg (by decide)] at hok
     repeat' (first|((with_reducible refine aF ?_);conv=>whnf)|refine aG ?_|exact aC|with_reducible refine aD ?_ ?_|(apply aA;(·exact cF))|refine aH ?_|((with_reducible refine aB ?_ ?_)<;>intro hc<;>(try simp only[List.length_map,ne_eq,dE] at hc)<;>try(exfalso;omega)))
     first|refine⟨?_, ?_, ?_, ?_⟩|refine⟨⟨?_, ?_, ?_, ?_⟩⟩
     ·exact Nat.le_trans (Nat.le_trans hnn hn2) c8
     ·exact fun y hy h=>Eq.trans cB (hkp2 y hy h)
     ·intro h;rw[←hok] at h;cases h
     ·exact fun _=>rfl
    |true=>
     rw[if_pos rfl] at hok
     repeat' (first|((with_reducible refine aF ?_);conv=>whnf)|refine aG ?_|exact eK|with_reducible refine aD ?_ ?_|((with_reducible refine Ask.mk ?_);first|exact cz|(exact hml)|(exact hsl)|exact cU|(intro h;simp_all[Decl.cells]<;>fail)|(simp_all[Decl.cells]<;>fail))|(apply aA;(·(first|exact ed _|exact cF)))|refine aH ?_|((with_reducible refine aB ?_ ?_)<;>intro hc<;>(try simp only[List.length_map,ne_eq,dE] at hc)<;>try(exfalso;omega)))
     refine⟨(i+1, .sl (n2+13) ([dd.name]:List ByteArray).length),by dsimp only;omega,cI,by dsimp only;omega,Nat.le_trans (Nat.le_trans hnn hn2) c8,by dsimp only;rw[hnx];exact hok, ?_,fun y hy h=> ?_,fun y hy h=>Eq.trans cB (hkp2 y hy h)⟩
     ·rw[hnx,hL0];exact .inr ⟨n2+13,_,rfl,c8,bq⟩
     ·intro b' n' e;cases e;omega
  ·repeat' (first|((with_reducible refine aF ?_);conv=>whnf)|refine aG ?_|exact eK|with_reducible refine aD ?_ ?_|((with_reducible refine Ask.mk ?_);first|exact cz|(exact hml)|(exact hsl)|exact cU|(intro h;simp_all[Decl.cells]<;>fail)|(simp_all[Decl.cells]<;>fail))|(apply aA;(·(first|exact ed _|exact cF)))|refine aK (hnm) ?_|refine aH ?_|((with_reducible refine aB ?_ ?_)<;>intro hc<;>(try simp only[List.length_map,ne_eq,dE] at hc)<;>try(exfalso;omega)))
   refine aP (fun σ:Nat×Bool=>[(0,bw l),(1, .sl b L.length),(2,bl w),(8,i64 i),(9,bl σ.2),(10,i64 σ.1)])
    (fun σ H2 n2=>σ.1≤L.length∧n≤n2∧σ.2=(fI dd.name&&(w||decide (dd.word=0))&& !fV (L.take σ.1) dd.name)∧(∃d,bn H2 b=some (.row 9 1 d (strs L)))∧∀y,y<nx→iC nv0 y→bn H2 y=bn H0 y) (fun σ=>L.length - σ.1) (0,(if fI dd.name=true then(if w=true then true else decide (dd.word=0)) else false)) cI ⟨Nat.zero_le _,c8,by cases fI dd.name<;>cases w<;>simp[fV],⟨_,bq⟩,fun y hy h=>Eq.trans cB (hkp y hy h)⟩ ?_
   rintro⟨k,okv⟩ H2 n2 ⟨hk,hn2,hokv,⟨d2,hb2⟩,hkp2⟩
   dsimp only at hk hokv ⊢
   by_cases hkl:k<L.length
   ·have es:=fun d=>PF (l:=L) hkl d
    have hstep:(if okv=true then !(L.getD k default==dd.name) else false)=(fI dd.name&&(w||decide (dd.word=0))&& !fV (L.take (k+1)) dd.name):=by
     rw[D0 hkl,P7,hokv]
     have:decide (L.getD k default=dd.name)=decide (dd.name=L.getD k default):=decide_eq_decide.2 ⟨Eq.symm,Eq.symm⟩
     rw[this]
     cases fI dd.name<;>cases(w||decide (dd.word=0))<;>cases fV (L.take k) dd.name<;>cases decide (dd.name=L.getD k default)<;>rfl
    repeat' (first|((with_reducible refine aF ?_);conv=>whnf)|refine aG ?_|exact eK|with_reducible refine aD ?_ ?_|((with_reducible refine Ask.mk ?_);first|exact cz|(exact hml)|(exact hsl)|exact cU|(intro h;simp_all[Decl.cells]<;>fail)|(simp_all[Decl.cells]<;>fail))|(apply aA;(·(first|exact ed _|exact es _|exact cF)))|refine aH ?_|((with_reducible refine aB ?_ ?_)<;>intro hc<;>(try simp only[List.length_map,ne_eq,dE] at hc)<;>try(exfalso;omega)))
    exact⟨(k+1,if okv=true then !(L.getD k default==dd.name) else false),by dsimp only;omega,cI,by dsimp only;omega,by first|omega|exact c8,hstep,⟨_,bq⟩,fun y hy h=>Eq.trans cB (hkp2 y hy h)⟩
   ·have:k=L.length:=by omega
    subst this
    rw[List.take_length] at hokv
    rw[←hokv] at hok
    cases okv with
    |false=>
     rw[if_neg (by decide)] at hok
     repeat' (first|((with_reducible refine aF ?_);conv=>whnf)|refine aG ?_|exact aC|with_reducible refine aD ?_ ?_|(apply aA;(·exact cF))|refine aH ?_|((with_reducible refine aB ?_ ?_)<;>intro hc<;>(try simp only[List.length_map,ne_eq,dE] at hc)<;>try(exfalso;omega)))
     first|refine⟨?_, ?_, ?_, ?_⟩|refine⟨⟨?_, ?_, ?_, ?_⟩⟩
     ·exact Nat.le_trans (Nat.le_trans hnn hn2) c8
     ·exact fun y hy h=>Eq.trans cB (hkp2 y hy h)
     ·intro h;rw[←hok] at h;cases h
     ·exact fun _=>rfl
    |true=>
     rw[if_pos rfl] at hok
     repeat' (first|((with_reducible refine aF ?_);conv=>whnf)|refine aG ?_|exact eK|with_reducible refine aD ?_ ?_|((with_reducible refine Ask.mk ?_);first|exact cz|(exact hml)|(exact hsl)|exact cU|(intro h;simp_all[Decl.cells]<;>fail)|(simp_all[Decl.cells]<;>fail))|(apply aA;(·(first|exact ed _|exact cF)))|refine aH ?_|((with_reducible refine aB ?_ ?_)<;>intro hc<;>(try simp only[List.length_map,ne_eq,dE] at hc)<;>try(exfalso;omega)))
     refine⟨(i+1, .sl b (L++[dd.name]).length),by dsimp only;omega,by rw[List.length_append];exact cI,by dsimp only;omega,Nat.le_trans (Nat.le_trans hnn hn2) c8,by dsimp only;rw[hnx];exact hok, ?_,fun y hy h=>FG (hap y hy h),fun y hy h=> ?_⟩
     ·rw[hnx];exact .inr ⟨b,_,rfl,Nat.lt_of_lt_of_le hbn (Nat.le_trans hn2 c8),by rw[←JX];exact bq⟩
     ·have hyb:=vd (hap y hy h)
      exact Eq.trans cB (hkp2 y hy h)
 ·have:i=l.length:=by omega
  subst this
  rw[List.drop_eq_nil_of_le (Nat.le_refl _),rf] at hok
  have hall:mS l l.length=l.map Decl.name:=by simp[mS]
  rw[hall] at htold
  rcases htold with⟨rfl,hL0⟩|⟨b,d,rfl,hbn,hb⟩
  ·repeat' (first|((with_reducible refine aF ?_);conv=>whnf)|refine aG ?_|exact eK|with_reducible refine aD ?_ ?_|((with_reducible refine Ask.mk ?_);first|exact cz|(exact hml)|exact cU)|(apply aA;(·exact cF))|refine aH ?_|((with_reducible refine aB ?_ ?_)<;>intro hc<;>(try simp only[List.length_map,ne_eq,dE] at hc)<;>try(exfalso;omega)))
   first|refine⟨?_, ?_, ?_, ?_⟩|refine⟨⟨?_, ?_, ?_, ?_⟩⟩
   ·exact Nat.le_trans hnn c8
   ·exact fun y hy h=>Eq.trans cB (hkp y hy h)
   ·exact fun _=>⟨_,rfl, .inl ⟨rfl,hL0⟩,hap⟩
   ·intro h;rw[←hok] at h;cases h
  ·repeat' (first|((with_reducible refine aF ?_);conv=>whnf)|refine aG ?_|exact eK|with_reducible refine aD ?_ ?_|((with_reducible refine Ask.mk ?_);first|exact cz|(exact hml)|exact cU)|(apply aA;(·exact cF))|refine aH ?_|((with_reducible refine aB ?_ ?_)<;>intro hc<;>(try simp only[List.length_map,ne_eq,dE] at hc)<;>try(exfalso;omega)))
   first|refine⟨?_, ?_, ?_, ?_⟩|refine⟨⟨?_, ?_, ?_, ?_⟩⟩
   ·exact Nat.le_trans hnn c8
   ·exact fun y hy h=>Eq.trans cB (hkp y hy h)
   ·exact fun _=>⟨_,rfl, .inr ⟨b,d,rfl,Nat.lt_of_lt_of_le hbn c8,bq⟩,hap⟩
   ·intro h;rw[←hok] at h;cases h
end Go.Proofs.YtekfmjjmihomlaaGreat
end
section
/- The locks held, by the document: the walk. -/
namespace Go.cZ
open Go.RowKit
theorem Rt.tc {fr:Fr} {H:Hp} {nx:Nat} (t b len:Nat) {e:TypeId} {sz:Nat} {d:AV} {es:List AV} (h:ca fr t= .sl b len) (hb:bn H b=some (.row e sz d es)) (hl:es.length=len):Rt fr H nx ((t, .im sz .any es)::fr) ((b,none)::H) nx:=by
 have hw:=Wk.OU (r:= .sl b len) (H:=H) (nx:=nx) [(b,some (.row e sz d es))] 1 (fun x q hq=>by
  by_cases hx:x=b
  ·subst hx;rw[cO] at hq;rw[hb];exact hq
  ·rw[cG hx] at hq;cases hq)
 rw[nG (cO _ _ _) hl,oF,k7,tZ] at hw
 exact Rt.slot t h hw
theorem Rt.QK {fr:Fr} {H:Hp} {nx:Nat} (t x len lo n:Nat) {e:TypeId} {sz:Nat} {d:AV} {l es:List AV} (h:ca fr t= .sv x len lo n) (h3:bn H x=some (.row e sz d l)) (hl:l.length=len) (hn:lo+n≤len) (he:(l.drop lo).take n=es) (hxt:e∉XT:=by decide):
 Rt fr H nx ((t, .im sz .any es)::(t, .sl nx n)::fr) ((nx,none)::(nx,some (.row e sz .any es))::(x,none)::H) (nx+1):=by
 subst he
 exact(Rt.part t h h3 hl hn hxt).trans (Rt.tc t nx n (by simp[ca]) (cO _ _ _) (by simp;omega))
end Go.cZ
namespace Go.Proofs.YtekfmjjmihomlaaGreat
open Go Go.cZ Go.Proofs
set_option linter.unusedSimpArgs false
set_option linter.unusedVariables false
theorem ky (l m:List Int) (hl:l.length * 8≤140737488351232) (hm:m.length * 8≤140737488351232):Pure Tryz.prog 134 [fc l,fc m] (fun r=>r=bl (decide (l=m))):=by
 refine aI wj rfl ?_
 unfold fc
 repeat' (first|((with_reducible refine aF ?_);conv=>whnf)|refine aG ?_|exact aC|with_reducible refine aD ?_ ?_|(apply aA;(·exact cF))|refine aH ?_|((with_reducible refine aB ?_ ?_)<;>intro hc<;>(try simp only[List.length_map,ne_eq,dE] at hc)<;>try(exfalso;omega)))
 ·refine db (Eq.symm ?_)
  exact decide_eq_false fun e=>hc (by rw[e])
 ·have hlm:l.length=m.length:=by omega
  refine aP (fun i:Nat=>[(0,fc l),(1,fc m),(5,i64 i)])
   (fun i H n=>i≤l.length∧∀j,j<i→l.getD j 0=m.getD j 0) (fun i=>l.length - i) 0 cI ⟨Nat.zero_le _,fun _ h=>by omega⟩ ?_
  unfold fc
  rintro i H n ⟨hi,hall⟩
  by_cases hil:i<l.length
  ·have e1:=oH (l:=l) hil
   have e2:=oH (l:=m) (i:=i) (by omega)
   repeat' (first|((with_reducible refine aF ?_);conv=>whnf)|refine aG ?_|exact aC|with_reducible refine aD ?_ ?_|(apply aA;(·(first|exact e1 _|exact e2 _|exact cF)))|refine aH ?_|((with_reducible refine aB ?_ ?_)<;>intro hc<;>(try simp only[List.length_map,ne_eq,dE] at hc)<;>try(exfalso;omega)))
   ·refine db (Eq.symm ?_)
    exact decide_eq_false fun e=>hc (by rw[e])
   ·refine⟨i+1,by omega,cI,by omega,fun j hj=> ?_⟩
    by_cases hji:j=i
    ·subst hji;exact hc
    ·exact hall j (by omega)
  ·have:i=l.length:=by omega
   subst this
   repeat' (first|((with_reducible refine aF ?_);conv=>whnf)|refine aG ?_|exact aC|with_reducible refine aD ?_ ?_|(apply aA;(·exact cF))|refine aH ?_|((with_reducible refine aB ?_ ?_)<;>intro hc<;>(try simp only[List.length_map,ne_eq,dE] at hc)<;>try(exfalso;omega)))
   refine db (Eq.symm ?_)
   refine decide_eq_true (List.ext_getElem hlm fun j h1 h2=> ?_)
   have:=hall j h1
   simpa[List.getD,h1,h2] using this
set_option maxRecDepth 8000 in
set_option maxHeartbeats 8000000 in
theorem zr (g:cA) (hg:g.Wf) (hw:Whole g):cP Tryz.prog 98 [g.av] [] 0 (fun r H n=>(∃a,r= .dV [.sc (.slice none 0 0),i64 a]∧gl g=([],a))∨∃b d L,r= .dV [.sl b L.length,i64 (-1)]∧gl g=(L,-1)∧bn H b=some (.row 53 1 d (L.map fc))):=by
 have hl:=hg.len
 have hl0:=hw.1
 have hl1:=hw.2.1
 have hrep:∀d,(List.replicate (((List.map Node.av g.nodes).length:Nat):Int).toNat (fZ false [Value.bool false])).getD (Int.toNat 0) d=bl false:=fun d=>by
  rw[Int.toNat_natCast,show Int.toNat 0=0 from rfl,List.length_map,List.getD,List.getElem?_replicate,if_pos (by omega)];rfl
 refine aQ IW rfl ?_
 repeat' (first|((with_reducible refine aF ?_);conv=>whnf)|refine aG ?_|exact eK|with_reducible refine aD ?_ ?_|((with_reducible refine Ask.mk ?_);first|exact cz|exact cU|(intro h;simp_all[cA.cells]<;>fail)|(simp_all[cA.cells]<;>fail))|(apply aA;(·(first|exact hrep _|exact cF)))|refine aH ?_|((with_reducible refine aB ?_ ?_)<;>intro hc<;>(try simp only[List.length_map,ne_eq,dE] at hc)<;>try(exfalso;omega)))
 simp only[List.length_map,Int.toNat_natCast]
 have hs11:((qM g,0).1:HS).found.map bl=(List.replicate g.nodes.length (bl false)).set 0 (bl true):=by simp[qM,List.map_set]
 refine af (fun s:HS×Nat=>[(1, .pt 0 1 0 0),(4, .sl 6 g.nodes.length),(5, .sl 11 g.nodes.length),(6, .sl 16 s.1.todo.length),(7,i64 s.2)])
  (fun s H n=>19≤n∧(∃d,bn H 0=some (.row 64 4 d [g.av]))∧(∃d,bn H 6=some (.row 53 1 d (s.1.bx.map fc)))∧(∃d,bn H 11=some (.row 4 1 d (s.1.found.map bl)))∧(∃d,bn H 16=some (.row 3 1 d (s.1.todo.map i64)))∧HI g s.1 s.2∧s.2≤g.nodes.length∧(∀i,(s.1.bx.getD i []).length≤s.2)∧ij g (g.nodes.length+1 - s.2) s.1 s.2=gl g)
  (fun s=>g.nodes.length+1 - s.2) (qM g,0) cI ⟨_,_,Wk.PM (b:=6) (e:=53) (sz:=1) (es:=List.replicate g.nodes.length (.sc (.slice none 0 0))) (d:= .sc (.slice none 0 0)) .any bq (es2:=(qM g).bx.map fc) (by simp[qM]) (fun c c2 _ _=> ?_),c8,⟨_,bq⟩,⟨_,bq⟩,⟨_,by rw[hs11];exact bq⟩,⟨_,bq⟩,HI.start hw,Nat.zero_le _, ?_,rfl⟩ ?_
 ·simp only[qM,List.map_replicate]
  exact dI.rep (dZ.kJ c c2 1 .any) _
 ·intro i
  simp only[qM,List.getD,List.getElem?_replicate];split<;>exact Nat.zero_le _
 rintro⟨s,k⟩ H n ⟨hn,⟨d0,r0⟩,⟨d6,r6⟩,⟨d11,r11⟩,⟨d16,r16⟩,hI,hkl,hlen,hrun⟩
 dsimp only at r6 r11 r16 hI hkl hlen hrun ⊢
 have hct:=hI.count
 by_cases hk:k<s.todo.length
 ·obtain⟨x0,x1,x2⟩:=hI.inr _ (cW (0:Int) hk)
  have hll:=hI.kj
  have hcnt:=hI.count
  have hlm:(s.bx.map fc).length=g.nodes.length:=by simp[hll]
  have htm:(s.todo.map i64).length=s.todo.length:=by simp
  have e1:=fun d=>wR hk d
  have e2:=fun d=>jl (l:=s.bx) (i:=s.todo.getD k 0) (by rw[hll];exact x1) d
  have hlk:=hlen (s.todo.getD k 0).toNat
  rw[show g.nodes.length+1 - k=(g.nodes.length - k)+1 by omega,oE hk] at hrun
  have hnx:=fun now s'=>hI.next hw hk (now:=now) (s':=s')
  unfold HS.l at hrun hnx
  generalize hx:s.todo.getD k 0=x at *
  have hf:=sX (g.nd x.toNat)
  unfold fc at hf
  generalize hl0:s.bx.getD x.toNat []=l at *
  have hfl:=K5 (g.nd x.toNat)
  have hil:(l.map i64).length=l.length:=by simp
  by_cases h5:(g.nd x.toNat).kind=5
  ·have hnow:dU (g.nd x.toNat) l=some (l++[(g.nd x.toNat).cH]):=by unfold dU;rw[if_pos h5]
   have hnl:(l++[(g.nd x.toNat).cH]).length≤k+1:=by rw[List.length_append];exact Nat.succ_le_succ hlk
   rw[hnow] at hrun
   dsimp only at hrun
   repeat' (first|((with_reducible refine aF ?_);conv=>whnf)|refine aG ?_|exact eK|with_reducible refine aD ?_ ?_|((with_reducible refine Ask.mk ?_);first|exact cz|(exact hlm)|(exact htm)|(exact hil)|(refine iT (m:=1) rfl ?_;simp only[List.length_map];omega)|exact cU|(intro h;simp_all[cA.cells,Node.cells]<;>fail)|(simp_all[cA.cells,Node.cells]<;>fail))|(apply aA;(·(first|exact gG x1 _|exact e1 _|exact e2 _|exact cF)))|refine aK (hf) ?_|(simp only[h5])|refine aH ?_|((with_reducible refine aB ?_ ?_)<;>intro hc<;>(try simp only[List.length_map,ne_eq,dE] at hc)<;>try(exfalso;omega)))
   obtain⟨nw,hnw⟩:∃nw,nw=l++[(g.nd x.toNat).cH]:=⟨_,rfl⟩
   rw[←hnw] at hnow hnl hrun
   refine aU (fun q:HS×Nat=>[(1, .pt 0 1 0 0),(4, .sl 6 g.nodes.length),(5, .sl 11 g.nodes.length),(6, .sl 16 q.1.todo.length),(7,i64 k),(9, .im 1 .any ((nw).map i64)),(10, .im 1 .any ((g.nd x.toNat).gK.map i64)),(11,i64 q.2)])
    (fun q H2 n2=>q.2≤(g.nd x.toNat).gK.length∧n+15≤n2∧(∃d,bn H2 0=some (.row 64 4 d [g.av]))∧(∃d,bn H2 6=some (.row 53 1 d (q.1.bx.map fc)))∧(∃d,bn H2 11=some (.row 4 1 d (q.1.found.map bl)))∧(∃d,bn H2 16=some (.row 3 1 d (q.1.todo.map i64)))∧q.1.bx.length=g.nodes.length∧q.1.found.length=g.nodes.length∧q.1.todo.length+q.1.found.count false=g.nodes.length∧(∀i,(q.1.bx.getD i []).length≤k+1)∧dS (nw) ((g.nd x.toNat).gK.drop q.2) q.1=dS (nw) (g.nd x.toNat).gK s)
    (fun q=>(g.nd x.toNat).gK.length - q.2) (s,0) ⟨_,_,_,Rt.tc 9 (n+14) (0+(l.map i64).length+1) (e:=3) (sz:=1) (es:=nw.map i64) rfl (by rw[hnw,←gE];exact bq) (by rw[hnw];simp),cI,Nat.zero_le _,c8,⟨_,bq⟩,⟨_,bq⟩,⟨_,bq⟩,⟨_,bq⟩,hI.kj,hI.mR,hI.count,fun i=>Nat.le_succ_of_le (hlen i),rfl⟩ ?_
   clear r0 r6 r11 r16
   rintro⟨⟨lks,fnds,tds⟩,j⟩ H2 n2 ⟨hj,hn2,⟨d02,r0⟩,⟨d62,r6⟩,⟨d112,r11⟩,⟨d162,r16⟩,hll2,hfl2,hct2,hlen2,hto⟩
   dsimp only at hj hn2 r6 r11 r16 hll2 hfl2 hct2 hlen2 hto ⊢
   by_cases hjl:j<(g.nd x.toNat).gK.length
   ·have hm:=cW (0:Int) hjl
    obtain⟨k0,k1⟩:=(hw.2.2 x.toNat x1).2.2 _ hm
    have e3:=fun d=>k9 (l:=(g.nd x.toNat).gK) hjl d
    rw[fR _ _ _ hjl] at hto
    generalize hy:(g.nd x.toNat).gK.getD j 0=y at *
    have hl2m:(lks.map fc).length=g.nodes.length:=by simp[hll2]
    have hf2m:(fnds.map bl).length=g.nodes.length:=by simp[hfl2]
    have e4:=fun d=>jl (l:=lks) (i:=y) (by rw[hll2];exact k1) d
    have e5:=fun d=>qH (l:=fnds) (k:=y) d (by rw[hfl2];exact k1)
    have hsm:=ky (lks.getD y.toNat []) (nw) (by have:=hlen2 y.toNat;omega) (by omega)
    unfold fc at hsm
    cases hfd:HS.f ⟨lks,fnds,tds⟩ y with
    |true=>
     rw[if_neg (by rw[hfd];decide)] at hto
     rw[show lD fnds y=true from hfd] at e5
     by_cases hq:lks.getD y.toNat []=(nw)
     ·have hq2:HS.l ⟨lks,fnds,tds⟩ y=(nw):=hq
      rw[if_pos hq2] at hto
      rw[decide_eq_true hq] at hsm
      repeat' (first|((with_reducible refine aF ?_);conv=>whnf)|refine aG ?_|exact eK|with_reducible refine aD ?_ ?_|((with_reducible refine Ask.mk ?_);first|exact cz|(exact hl2m)|(exact hf2m)|exact cU)|(apply aA;(·(first|exact e3 _|exact e4 _|exact e5 _|exact cF)))|refine aK (hsm) ?_|refine aH ?_|((with_reducible refine aB ?_ ?_)<;>intro hc<;>(try simp only[List.length_map,ne_eq,dE] at hc)<;>try(exfalso;omega)))
      exact⟨(⟨lks,fnds,tds⟩,j+1),by dsimp only;omega,_,_,_,Rt.refl _ _ _,cI,by dsimp only;omega,c8,⟨_,bq⟩,⟨_,bq⟩,⟨_,bq⟩,⟨_,bq⟩,hll2,hfl2,hct2,hlen2,hto⟩
     ·have hq2:¬HS.l ⟨lks,fnds,tds⟩ y=(nw):=hq
      rw[if_neg hq2] at hto
      rw[decide_eq_false hq] at hsm
      repeat' (first|((with_reducible refine aF ?_);conv=>whnf)|refine aG ?_|exact eK|with_reducible refine aD ?_ ?_|((with_reducible refine Ask.mk ?_);first|exact cz|(exact hl2m)|(exact hf2m)|exact cU)|(apply aA;(·(first|exact e3 _|exact e4 _|exact e5 _|exact cF)))|refine aK (hsm) ?_|refine aH ?_|((with_reducible refine aB ?_ ?_)<;>intro hc<;>(try simp only[List.length_map,ne_eq,dE] at hc)<;>try(exfalso;omega)))
      exact⟨.inl ⟨y,rfl,by rw[←hrun,←hto]⟩⟩
    |false=>
     rw[if_pos hfd] at hto
     rw[show lD fnds y=false from hfd] at e5
     have hcts:=count_set (l:=fnds) (i:=y.toNat) (by rw[hfl2];exact k1) hfd
     repeat' (first|((with_reducible refine aF ?_);conv=>whnf)|refine aG ?_|exact eK|with_reducible refine aD ?_ ?_|((with_reducible refine Ask.mk ?_);first|exact cz|(exact hl2m)|(exact hf2m)|exact cU)|(apply aA;(·(first|exact e3 _|exact e4 _|exact e5 _|exact cF)))|refine aH ?_|((with_reducible refine aB ?_ ?_)<;>intro hc<;>(try simp only[List.length_map,ne_eq,dE] at hc)<;>try(exfalso;omega)))
     refine⟨(⟨lks.set y.toNat (nw),fnds.set y.toNat true,tds++[y]⟩,j+1),by dsimp only;omega,_,_,_,Rt.refl _ _ _,cI,by dsimp only;omega,c8,⟨_,bq⟩,⟨_,by dsimp only;rw[←j5];exact bq⟩,⟨_,by dsimp only;rw[←nj];exact bq⟩,⟨_,by dsimp only;rw[←gE];exact bq⟩,by simp[hll2],by simp[hfl2], ?_, ?_,hto⟩
     ·simp only[List.length_append,List.length_cons,List.length_nil];omega
     ·intro i
      rw[eE]
      split
      ·exact hnl
      ·exact hlen2 i
   ·have:j=(g.nd x.toNat).gK.length:=by omega
    subst this
    rw[List.drop_eq_nil_of_le (Nat.le_refl _),dS] at hto
    have hnx2:=hnx _ _ hnow hto.symm
    repeat' (first|((with_reducible refine aF ?_);conv=>whnf)|refine aG ?_|exact aC|with_reducible refine aD ?_ ?_|(apply aA;(·exact cF))|refine aH ?_|((with_reducible refine aB ?_ ?_)<;>intro hc<;>(try simp only[List.length_map,ne_eq,dE] at hc)<;>try(exfalso;omega)))
    refine⟨(⟨lks,fnds,tds⟩,k+1),by dsimp only;omega,cI,⟨_,_,Wk.refl _ _ _,c8,⟨_,bq⟩,⟨_,bq⟩,⟨_,bq⟩,⟨_,bq⟩,hnx2,by dsimp only;omega,hlen2, ?_⟩⟩
    rw[←hrun,←hto]
    dsimp only
    congr 1
    omega
  ·by_cases h6:(g.nd x.toNat).kind=6
   ·rcases List.eq_nil_or_concat l with rfl|⟨a,y,rfl⟩
    ·have hnow:dU (g.nd x.toNat) []=none:=by unfold dU;rw[if_neg h5,if_pos h6,if_neg (fun h=>h.1 rfl)]
     rw[hnow] at hrun
     dsimp only at hrun
     repeat' (first|((with_reducible refine aF ?_);conv=>whnf)|refine aG ?_|exact eK|with_reducible refine aD ?_ ?_|((with_reducible refine Ask.mk ?_);first|exact cz|(exact hlm)|(exact htm)|(exact hil)|(refine iT (m:=1) rfl ?_;simp only[List.length_map];omega)|exact cU|(intro h;simp_all[cA.cells,Node.cells]<;>fail)|(simp_all[cA.cells,Node.cells]<;>fail))|(apply aA;(·(first|exact gG x1 _|exact e1 _|exact e2 _|exact cF)))|refine aK (hf) ?_|(simp only[h6])|refine aH ?_|((with_reducible refine aB ?_ ?_)<;>intro hc<;>(try simp only[List.length_map,ne_eq,dE] at hc)<;>try(exfalso;omega)))
     exact⟨.inl ⟨x,rfl,hrun.symm⟩⟩
    ·rw[List.concat_eq_append] at *
     have hla:(a++[y]).length=a.length+1:=by simp
     have hml:((a++[y]).map i64).length=a.length+1:=by simp
     have e5:∀d,((a++[y]).map i64).getD (((a.length+1:Nat):Int) - 1).toNat d=i64 y:=fun d=>by
      rw[show(((a.length+1:Nat):Int) - 1).toNat=a.length by omega,List.map_append]
      simp[List.getD]
     have hm0:0+(List.map i64 (a++[y])).length=a.length+1:=by simp
     by_cases hy6:y=(g.nd x.toNat).cH
     ·subst hy6
      have hnow:dU (g.nd x.toNat) (a++[(g.nd x.toNat).cH])=some a:=by unfold dU;rw[if_neg h5,if_pos h6,if_pos ⟨by simp,by simp⟩,List.dropLast_concat]
      have hnl:a.length≤k+1:=by omega
      have htk:(((a++[(g.nd x.toNat).cH]).map i64).drop 0).take a.length=a.map i64:=by simp
      rw[hnow] at hrun
      dsimp only at hrun
      repeat' (first|((with_reducible refine aF ?_);conv=>whnf)|refine aG ?_|exact eK|with_reducible refine aD ?_ ?_|((with_reducible refine Ask.mk ?_);first|exact cz|(exact hlm)|(exact htm)|(exact hil)|(refine iT (m:=1) rfl ?_;simp only[List.length_map];omega)|exact cU|(intro h;simp_all[cA.cells,Node.cells]<;>fail)|(simp_all[cA.cells,Node.cells]<;>fail))|(apply aA;(·(first|exact gG x1 _|exact e1 _|exact e2 _|exact e5 _|exact cF)))|refine aK (hf) ?_|(simp only[h6])|(simp only[hm0])|((with_reducible apply aa);(·exact JS (es:=List.map i64 (a++[(g.nd x.toNat).cH])) bq hml CL CL RW))|refine aH ?_|((with_reducible refine aB ?_ ?_)<;>intro hc<;>(try simp only[List.length_map,ne_eq,dE] at hc)<;>try(exfalso;omega)))
      ·exact absurd hc (by simp;omega)
      refine aU (fun q:HS×Nat=>[(1, .pt 0 1 0 0),(4, .sl 6 g.nodes.length),(5, .sl 11 g.nodes.length),(6, .sl 16 q.1.todo.length),(7,i64 k),(9, .im 1 .any ((a).map i64)),(10, .im 1 .any ((g.nd x.toNat).gK.map i64)),(11,i64 q.2)])
       (fun q H2 n2=>q.2≤(g.nd x.toNat).gK.length∧n+15≤n2∧(∃d,bn H2 0=some (.row 64 4 d [g.av]))∧(∃d,bn H2 6=some (.row 53 1 d (q.1.bx.map fc)))∧(∃d,bn H2 11=some (.row 4 1 d (q.1.found.map bl)))∧(∃d,bn H2 16=some (.row 3 1 d (q.1.todo.map i64)))∧q.1.bx.length=g.nodes.length∧q.1.found.length=g.nodes.length∧q.1.todo.length+q.1.found.count false=g.nodes.length∧(∀i,(q.1.bx.getD i []).length≤k+1)∧dS (a) ((g.nd x.toNat).gK.drop q.2) q.1=dS (a) (g.nd x.toNat).gK s)
       (fun q=>(g.nd x.toNat).gK.length - q.2) (s,0) ⟨_,_,_,Rt.QK 9 (n+14) (a.length+1) 0 (a.length - 0) (e:=3) (sz:=1) (l:=(a++[(g.nd x.toNat).cH]).map i64) rfl bq hml (by omega) (by first|(rw[Nat.sub_zero];exact htk)|rw[Nat.sub_zero]),cI,Nat.zero_le _,c8,⟨_,bq⟩,⟨_,bq⟩,⟨_,bq⟩,⟨_,bq⟩,hI.kj,hI.mR,hI.count,fun i=>Nat.le_succ_of_le (hlen i),rfl⟩ ?_
      clear r0 r6 r11 r16
      rintro⟨⟨lks,fnds,tds⟩,j⟩ H2 n2 ⟨hj,hn2,⟨d02,r0⟩,⟨d62,r6⟩,⟨d112,r11⟩,⟨d162,r16⟩,hll2,hfl2,hct2,hlen2,hto⟩
      dsimp only at hj hn2 r6 r11 r16 hll2 hfl2 hct2 hlen2 hto ⊢
      by_cases hjl:j<(g.nd x.toNat).gK.length
      ·have hm:=cW (0:Int) hjl
       obtain⟨k0,k1⟩:=(hw.2.2 x.toNat x1).2.2 _ hm
       have e3:=fun d=>k9 (l:=(g.nd x.toNat).gK) hjl d
       rw[fR _ _ _ hjl] at hto
       generalize hy:(g.nd x.toNat).gK.getD j 0=y at *
       have hl2m:(lks.map fc).length=g.nodes.length:=by simp[hll2]
       have hf2m:(fnds.map bl).length=g.nodes.length:=by simp[hfl2]
       have e4:=fun d=>jl (l:=lks) (i:=y) (by rw[hll2];exact k1) d
       have e5:=fun d=>qH (l:=fnds) (k:=y) d (by rw[hfl2];exact k1)
       have hsm:=ky (lks.getD y.toNat []) (a) (by have:=hlen2 y.toNat;omega) (by omega)
       unfold fc at hsm
       cases hfd:HS.f ⟨lks,fnds,tds⟩ y with
       |true=>
        rw[if_neg (by rw[hfd];decide)] at hto
        rw[show lD fnds y=true from hfd] at e5
        by_cases hq:lks.getD y.toNat []=(a)
        ·have hq2:HS.l ⟨lks,fnds,tds⟩ y=(a):=hq
         rw[if_pos hq2] at hto
         rw[decide_eq_true hq] at hsm
         repeat' (first|((with_reducible refine aF ?_);conv=>whnf)|refine aG ?_|exact eK|with_reducible refine aD ?_ ?_|((with_reducible refine Ask.mk ?_);first|exact cz|(exact hl2m)|(exact hf2m)|exact cU)|(apply aA;(·(first|exact e3 _|exact e4 _|exact e5 _|exact cF)))|refine aK (hsm) ?_|refine aH ?_|((with_reducible refine aB ?_ ?_)<;>intro hc<;>(try simp only[List.length_map,ne_eq,dE] at hc)<;>try(exfalso;omega)))
         exact⟨(⟨lks,fnds,tds⟩,j+1),by dsimp only;omega,_,_,_,Rt.refl _ _ _,cI,by dsimp only;omega,c8,⟨_,bq⟩,⟨_,bq⟩,⟨_,bq⟩,⟨_,bq⟩,hll2,hfl2,hct2,hlen2,hto⟩
        ·have hq2:¬HS.l ⟨lks,fnds,tds⟩ y=(a):=hq
         rw[if_neg hq2] at hto
         rw[decide_eq_false hq] at hsm
         repeat' (first|((with_reducible refine aF ?_);conv=>whnf)|refine aG ?_|exact eK|with_reducible refine aD ?_ ?_|((with_reducible refine Ask.mk ?_);first|exact cz|(exact hl2m)|(exact hf2m)|exact cU)|(apply aA;(·(first|exact e3 _|exact e4 _|exact e5 _|exact cF)))|refine aK (hsm) ?_|refine aH ?_|((with_reducible refine aB ?_ ?_)<;>intro hc<;>(try simp only[List.length_map,ne_eq,dE] at hc)<;>try(exfalso;omega)))
         exact⟨.inl ⟨y,rfl,by rw[←hrun,←hto]⟩⟩
       |false=>
        rw[if_pos hfd] at hto
        rw[show lD fnds y=false from hfd] at e5
        have hcts:=count_set (l:=fnds) (i:=y.toNat) (by rw[hfl2];exact k1) hfd
        repeat' (first|((with_reducible refine aF ?_);conv=>whnf)|refine aG ?_|exact eK|with_reducible refine aD ?_ ?_|((with_reducible refine Ask.mk ?_);first|exact cz|(exact hl2m)|(exact hf2m)|exact cU)|(apply aA;(·(first|exact e3 _|exact e4 _|exact e5 _|exact cF)))|refine aH ?_|((with_reducible refine aB ?_ ?_)<;>intro hc<;>(try simp only[List.length_map,ne_eq,dE] at hc)<;>try(exfalso;omega)))
        refine⟨(⟨lks.set y.toNat (a),fnds.set y.toNat true,tds++[y]⟩,j+1),by dsimp only;omega,_,_,_,Rt.refl _ _ _,cI,by dsimp only;omega,c8,⟨_,bq⟩,⟨_,by dsimp only;rw[←j5];exact bq⟩,⟨_,by dsimp only;rw[←nj];exact bq⟩,⟨_,by dsimp only;rw[←gE];exact bq⟩,by simp[hll2],by simp[hfl2], ?_, ?_,hto⟩
        ·simp only[List.length_append,List.length_cons,List.length_nil];omega
        ·intro i
         rw[eE]
         split
         ·exact hnl
         ·exact hlen2 i
      ·have:j=(g.nd x.toNat).gK.length:=by omega
       subst this
       rw[List.drop_eq_nil_of_le (Nat.le_refl _),dS] at hto
       have hnx2:=hnx _ _ hnow hto.symm
       repeat' (first|((with_reducible refine aF ?_);conv=>whnf)|refine aG ?_|exact aC|with_reducible refine aD ?_ ?_|(apply aA;(·exact cF))|refine aH ?_|((with_reducible refine aB ?_ ?_)<;>intro hc<;>(try simp only[List.length_map,ne_eq,dE] at hc)<;>try(exfalso;omega)))
       refine⟨(⟨lks,fnds,tds⟩,k+1),by dsimp only;omega,cI,⟨_,_,Wk.refl _ _ _,c8,⟨_,bq⟩,⟨_,bq⟩,⟨_,bq⟩,⟨_,bq⟩,hnx2,by dsimp only;omega,hlen2, ?_⟩⟩
       rw[←hrun,←hto]
       dsimp only
       congr 1
       omega
     ·have hnow:dU (g.nd x.toNat) (a++[y])=none:=by unfold dU;rw[if_neg h5,if_pos h6,if_neg (fun h=>hy6 (by simpa using h.2))]
      have hy7:¬y=(g.nodes.getD x.toNat default).cH:=hy6
      rw[hnow] at hrun
      dsimp only at hrun
      repeat' (first|((with_reducible refine aF ?_);conv=>whnf)|refine aG ?_|exact eK|with_reducible refine aD ?_ ?_|((with_reducible refine Ask.mk ?_);first|exact cz|(exact hlm)|(exact htm)|(exact hil)|(refine iT (m:=1) rfl ?_;simp only[List.length_map];omega)|exact cU|(intro h;simp_all[cA.cells,Node.cells]<;>fail)|(simp_all[cA.cells,Node.cells]<;>fail))|(apply aA;(·(first|exact gG x1 _|exact e1 _|exact e2 _|exact e5 _|exact cF)))|refine aK (hf) ?_|(simp only[h6])|(simp only[hm0])|refine aH ?_|((with_reducible refine aB ?_ ?_)<;>intro hc<;>(try simp only[List.length_map,ne_eq,dE] at hc)<;>try(exfalso;omega)))
      all_goals exact⟨.inl ⟨x,rfl,hrun.symm⟩⟩
   ·by_cases h9:(g.nd x.toNat).kind=9∧l≠[]
    ·have hnow:dU (g.nd x.toNat) l=none:=by unfold dU;rw[if_neg h5,if_neg h6,if_pos h9.1,if_neg h9.2]
     have hlp:0<l.length:=List.length_pos_iff.2 h9.2
     have h91:=h9.1
     rw[hnow] at hrun
     dsimp only at hrun
     repeat' (first|((with_reducible refine aF ?_);conv=>whnf)|refine aG ?_|exact eK|with_reducible refine aD ?_ ?_|((with_reducible refine Ask.mk ?_);first|exact cz|(exact hlm)|(exact htm)|(exact hil)|(refine iT (m:=1) rfl ?_;simp only[List.length_map];omega)|exact cU|(intro h;simp_all[cA.cells,Node.cells]<;>fail)|(simp_all[cA.cells,Node.cells]<;>fail))|(apply aA;(·(first|exact gG x1 _|exact e1 _|exact e2 _|exact cF)))|refine aK (hf) ?_|(simp only[h91])|refine aH ?_|((with_reducible refine aB ?_ ?_)<;>intro hc<;>(try simp only[List.length_map,ne_eq,dE] at hc)<;>try(exfalso;omega)))
     exact⟨.inl ⟨x,rfl,hrun.symm⟩⟩
    ·by_cases h91:(g.nd x.toNat).kind=9
     ·have hl0:l=[]:=Classical.byContradiction fun h=>h9 ⟨h91,h⟩
      subst hl0
      have hnow:dU (g.nd x.toNat) []=some []:=by unfold dU;rw[if_neg h5,if_neg h6,if_pos h91,if_pos rfl]
      have hnl:([]:List Int).length≤k+1:=Nat.zero_le _
      rw[hnow] at hrun
      dsimp only at hrun
      repeat' (first|((with_reducible refine aF ?_);conv=>whnf)|refine aG ?_|exact eK|with_reducible refine aD ?_ ?_|((with_reducible refine Ask.mk ?_);first|exact cz|(exact hlm)|(exact htm)|(exact hil)|(refine iT (m:=1) rfl ?_;simp only[List.length_map];omega)|exact cU|(intro h;simp_all[cA.cells,Node.cells]<;>fail)|(simp_all[cA.cells,Node.cells]<;>fail))|(apply aA;(·(first|exact gG x1 _|exact e1 _|exact e2 _|exact cF)))|refine aK (hf) ?_|(simp only[h91])|refine aH ?_|((with_reducible refine aB ?_ ?_)<;>intro hc<;>(try simp only[List.length_map,ne_eq,dE] at hc)<;>try(exfalso;omega)))
      refine aU (fun q:HS×Nat=>[(1, .pt 0 1 0 0),(4, .sl 6 g.nodes.length),(5, .sl 11 g.nodes.length),(6, .sl 16 q.1.todo.length),(7,i64 k),(9, .im 1 .any (([]).map i64)),(10, .im 1 .any ((g.nd x.toNat).gK.map i64)),(11,i64 q.2)])
       (fun q H2 n2=>q.2≤(g.nd x.toNat).gK.length∧n+15≤n2∧(∃d,bn H2 0=some (.row 64 4 d [g.av]))∧(∃d,bn H2 6=some (.row 53 1 d (q.1.bx.map fc)))∧(∃d,bn H2 11=some (.row 4 1 d (q.1.found.map bl)))∧(∃d,bn H2 16=some (.row 3 1 d (q.1.todo.map i64)))∧q.1.bx.length=g.nodes.length∧q.1.found.length=g.nodes.length∧q.1.todo.length+q.1.found.count false=g.nodes.length∧(∀i,(q.1.bx.getD i []).length≤k+1)∧dS ([]) ((g.nd x.toNat).gK.drop q.2) q.1=dS ([]) (g.nd x.toNat).gK s)
       (fun q=>(g.nd x.toNat).gK.length - q.2) (s,0) ⟨_,_,_,Rt.tc 9 (n+14) (0) (e:=3) (sz:=1) (es:=([]:List Int).map i64) rfl bq (by simp),cI,Nat.zero_le _,c8,⟨_,bq⟩,⟨_,bq⟩,⟨_,bq⟩,⟨_,bq⟩,hI.kj,hI.mR,hI.count,fun i=>Nat.le_succ_of_le (hlen i),rfl⟩ ?_
      clear r0 r6 r11 r16
      rintro⟨⟨lks,fnds,tds⟩,j⟩ H2 n2 ⟨hj,hn2,⟨d02,r0⟩,⟨d62,r6⟩,⟨d112,r11⟩,⟨d162,r16⟩,hll2,hfl2,hct2,hlen2,hto⟩
      dsimp only at hj hn2 r6 r11 r16 hll2 hfl2 hct2 hlen2 hto ⊢
      by_cases hjl:j<(g.nd x.toNat).gK.length
      ·have hm:=cW (0:Int) hjl
       obtain⟨k0,k1⟩:=(hw.2.2 x.toNat x1).2.2 _ hm
       have e3:=fun d=>k9 (l:=(g.nd x.toNat).gK) hjl d
       rw[fR _ _ _ hjl] at hto
       generalize hy:(g.nd x.toNat).gK.getD j 0=y at *
       have hl2m:(lks.map fc).length=g.nodes.length:=by simp[hll2]
       have hf2m:(fnds.map bl).length=g.nodes.length:=by simp[hfl2]
       have e4:=fun d=>jl (l:=lks) (i:=y) (by rw[hll2];exact k1) d
       have e5:=fun d=>qH (l:=fnds) (k:=y) d (by rw[hfl2];exact k1)
       have hsm:=ky (lks.getD y.toNat []) ([]) (by have:=hlen2 y.toNat;omega) (by omega)
       unfold fc at hsm
       cases hfd:HS.f ⟨lks,fnds,tds⟩ y with
       |true=>
        rw[if_neg (by rw[hfd];decide)] at hto
        rw[show lD fnds y=true from hfd] at e5
        by_cases hq:lks.getD y.toNat []=([])
        ·have hq2:HS.l ⟨lks,fnds,tds⟩ y=([]):=hq
         rw[if_pos hq2] at hto
         rw[decide_eq_true hq] at hsm
         repeat' (first|((with_reducible refine aF ?_);conv=>whnf)|refine aG ?_|exact eK|with_reducible refine aD ?_ ?_|((with_reducible refine Ask.mk ?_);first|exact cz|(exact hl2m)|(exact hf2m)|exact cU)|(apply aA;(·(first|exact e3 _|exact e4 _|exact e5 _|exact cF)))|refine aK (hsm) ?_|refine aH ?_|((with_reducible refine aB ?_ ?_)<;>intro hc<;>(try simp only[List.length_map,ne_eq,dE] at hc)<;>try(exfalso;omega)))
         exact⟨(⟨lks,fnds,tds⟩,j+1),by dsimp only;omega,_,_,_,Rt.refl _ _ _,cI,by dsimp only;omega,c8,⟨_,bq⟩,⟨_,bq⟩,⟨_,bq⟩,⟨_,bq⟩,hll2,hfl2,hct2,hlen2,hto⟩
        ·have hq2:¬HS.l ⟨lks,fnds,tds⟩ y=([]):=hq
         rw[if_neg hq2] at hto
         rw[decide_eq_false hq] at hsm
         repeat' (first|((with_reducible refine aF ?_);conv=>whnf)|refine aG ?_|exact eK|with_reducible refine aD ?_ ?_|((with_reducible refine Ask.mk ?_);first|exact cz|(exact hl2m)|(exact hf2m)|exact cU)|(apply aA;(·(first|exact e3 _|exact e4 _|exact e5 _|exact cF)))|refine aK (hsm) ?_|refine aH ?_|((with_reducible refine aB ?_ ?_)<;>intro hc<;>(try simp only[List.length_map,ne_eq,dE] at hc)<;>try(exfalso;omega)))
         exact⟨.inl ⟨y,rfl,by rw[←hrun,←hto]⟩⟩
       |false=>
        rw[if_pos hfd] at hto
        rw[show lD fnds y=false from hfd] at e5
        have hcts:=count_set (l:=fnds) (i:=y.toNat) (by rw[hfl2];exact k1) hfd
        repeat' (first|((with_reducible refine aF ?_);conv=>whnf)|refine aG ?_|exact eK|with_reducible refine aD ?_ ?_|((with_reducible refine Ask.mk ?_);first|exact cz|(exact hl2m)|(exact hf2m)|exact cU)|(apply aA;(·(first|exact e3 _|exact e4 _|exact e5 _|exact cF)))|refine aH ?_|((with_reducible refine aB ?_ ?_)<;>intro hc<;>(try simp only[List.length_map,ne_eq,dE] at hc)<;>try(exfalso;omega)))
        refine⟨(⟨lks.set y.toNat ([]),fnds.set y.toNat true,tds++[y]⟩,j+1),by dsimp only;omega,_,_,_,Rt.refl _ _ _,cI,by dsimp only;omega,c8,⟨_,bq⟩,⟨_,by dsimp only;rw[←j5];exact bq⟩,⟨_,by dsimp only;rw[←nj];exact bq⟩,⟨_,by dsimp only;rw[←gE];exact bq⟩,by simp[hll2],by simp[hfl2], ?_, ?_,hto⟩
        ·simp only[List.length_append,List.length_cons,List.length_nil];omega
        ·intro i
         rw[eE]
         split
         ·exact hnl
         ·exact hlen2 i
      ·have:j=(g.nd x.toNat).gK.length:=by omega
       subst this
       rw[List.drop_eq_nil_of_le (Nat.le_refl _),dS] at hto
       have hnx2:=hnx _ _ hnow hto.symm
       repeat' (first|((with_reducible refine aF ?_);conv=>whnf)|refine aG ?_|exact aC|with_reducible refine aD ?_ ?_|(apply aA;(·exact cF))|refine aH ?_|((with_reducible refine aB ?_ ?_)<;>intro hc<;>(try simp only[List.length_map,ne_eq,dE] at hc)<;>try(exfalso;omega)))
       refine⟨(⟨lks,fnds,tds⟩,k+1),by dsimp only;omega,cI,⟨_,_,Wk.refl _ _ _,c8,⟨_,bq⟩,⟨_,bq⟩,⟨_,bq⟩,⟨_,bq⟩,hnx2,by dsimp only;omega,hlen2, ?_⟩⟩
       rw[←hrun,←hto]
       dsimp only
       congr 1
       omega
     ·have hnow:dU (g.nd x.toNat) l=some l:=by unfold dU;rw[if_neg h5,if_neg h6,if_neg h91]
      have hnl:l.length≤k+1:=by omega
      rw[hnow] at hrun
      dsimp only at hrun
      repeat' (first|((with_reducible refine aF ?_);conv=>whnf)|refine aG ?_|exact eK|with_reducible refine aD ?_ ?_|((with_reducible refine Ask.mk ?_);first|exact cz|(exact hlm)|(exact htm)|(exact hil)|(refine iT (m:=1) rfl ?_;simp only[List.length_map];omega)|exact cU|(intro h;simp_all[cA.cells,Node.cells]<;>fail)|(simp_all[cA.cells,Node.cells]<;>fail))|(apply aA;(·(first|exact gG x1 _|exact e1 _|exact e2 _|exact cF)))|refine aK (hf) ?_|(simp only[h5])|(simp only[h6])|(simp only[h91])|refine aH ?_|((with_reducible refine aB ?_ ?_)<;>intro hc<;>(try simp only[List.length_map,ne_eq,dE] at hc)<;>try(exfalso;omega)))
      refine aU (fun q:HS×Nat=>[(1, .pt 0 1 0 0),(4, .sl 6 g.nodes.length),(5, .sl 11 g.nodes.length),(6, .sl 16 q.1.todo.length),(7,i64 k),(9, .im 1 .any ((l).map i64)),(10, .im 1 .any ((g.nd x.toNat).gK.map i64)),(11,i64 q.2)])
       (fun q H2 n2=>q.2≤(g.nd x.toNat).gK.length∧n+15≤n2∧(∃d,bn H2 0=some (.row 64 4 d [g.av]))∧(∃d,bn H2 6=some (.row 53 1 d (q.1.bx.map fc)))∧(∃d,bn H2 11=some (.row 4 1 d (q.1.found.map bl)))∧(∃d,bn H2 16=some (.row 3 1 d (q.1.todo.map i64)))∧q.1.bx.length=g.nodes.length∧q.1.found.length=g.nodes.length∧q.1.todo.length+q.1.found.count false=g.nodes.length∧(∀i,(q.1.bx.getD i []).length≤k+1)∧dS (l) ((g.nd x.toNat).gK.drop q.2) q.1=dS (l) (g.nd x.toNat).gK s)
       (fun q=>(g.nd x.toNat).gK.length - q.2) (s,0) ⟨_,_,_,Rt.tc 9 (n+14) (0+(l.map i64).length) (e:=3) (sz:=1) (es:=l.map i64) rfl bq (by simp),cI,Nat.zero_le _,c8,⟨_,bq⟩,⟨_,bq⟩,⟨_,bq⟩,⟨_,bq⟩,hI.kj,hI.mR,hI.count,fun i=>Nat.le_succ_of_le (hlen i),rfl⟩ ?_
      clear r0 r6 r11 r16
      rintro⟨⟨lks,fnds,tds⟩,j⟩ H2 n2 ⟨hj,hn2,⟨d02,r0⟩,⟨d62,r6⟩,⟨d112,r11⟩,⟨d162,r16⟩,hll2,hfl2,hct2,hlen2,hto⟩
      dsimp only at hj hn2 r6 r11 r16 hll2 hfl2 hct2 hlen2 hto ⊢
      by_cases hjl:j<(g.nd x.toNat).gK.length
      ·have hm:=cW (0:Int) hjl
       obtain⟨k0,k1⟩:=(hw.2.2 x.toNat x1).2.2 _ hm
       have e3:=fun d=>k9 (l:=(g.nd x.toNat).gK) hjl d
       rw[fR _ _ _ hjl] at hto
       generalize hy:(g.nd x.toNat).gK.getD j 0=y at *
       have hl2m:(lks.map fc).length=g.nodes.length:=by simp[hll2]
       have hf2m:(fnds.map bl).length=g.nodes.length:=by simp[hfl2]
       have e4:=fun d=>jl (l:=lks) (i:=y) (by rw[hll2];exact k1) d
       have e5:=fun d=>qH (l:=fnds) (k:=y) d (by rw[hfl2];exact k1)
       have hsm:=ky (lks.getD y.toNat []) (l) (by have:=hlen2 y.toNat;omega) (by omega)
       unfold fc at hsm
       cases hfd:HS.f ⟨lks,fnds,tds⟩ y with
       |true=>
        rw[if_neg (by rw[hfd];decide)] at hto
        rw[show lD fnds y=true from hfd] at e5
        by_cases hq:lks.getD y.toNat []=(l)
        ·have hq2:HS.l ⟨lks,fnds,tds⟩ y=(l):=hq
         rw[if_pos hq2] at hto
         rw[decide_eq_true hq] at hsm
         repeat' (first|((with_reducible refine aF ?_);conv=>whnf)|refine aG ?_|exact eK|with_reducible refine aD ?_ ?_|((with_reducible refine Ask.mk ?_);first|exact cz|(exact hl2m)|(exact hf2m)|exact cU)|(apply aA;(·(first|exact e3 _|exact e4 _|exact e5 _|exact cF)))|refine aK (hsm) ?_|refine aH ?_|((with_reducible refine aB ?_ ?_)<;>intro hc<;>(try simp only[List.length_map,ne_eq,dE] at hc)<;>try(exfalso;omega)))
         exact⟨(⟨lks,fnds,tds⟩,j+1),by dsimp only;omega,_,_,_,Rt.refl _ _ _,cI,by dsimp only;omega,c8,⟨_,bq⟩,⟨_,bq⟩,⟨_,bq⟩,⟨_,bq⟩,hll2,hfl2,hct2,hlen2,hto⟩
        ·have hq2:¬HS.l ⟨lks,fnds,tds⟩ y=(l):=hq
         rw[if_neg hq2] at hto
         rw[decide_eq_false hq] at hsm
         repeat' (first|((with_reducible refine aF ?_);conv=>whnf)|refine aG ?_|exact eK|with_reducible refine aD ?_ ?_|((with_reducible refine Ask.mk ?_);first|exact cz|(exact hl2m)|(exact hf2m)|exact cU)|(apply aA;(·(first|exact e3 _|exact e4 _|exact e5 _|exact cF)))|refine aK (hsm) ?_|refine aH ?_|((with_reducible refine aB ?_ ?_)<;>intro hc<;>(try simp only[List.length_map,ne_eq,dE] at hc)<;>try(exfalso;omega)))
         exact⟨.inl ⟨y,rfl,by rw[←hrun,←hto]⟩⟩
       |false=>
        rw[if_pos hfd] at hto
        rw[show lD fnds y=false from hfd] at e5
        have hcts:=count_set (l:=fnds) (i:=y.toNat) (by rw[hfl2];exact k1) hfd
        repeat' (first|((with_reducible refine aF ?_);conv=>whnf)|refine aG ?_|exact eK|with_reducible refine aD ?_ ?_|((with_reducible refine Ask.mk ?_);first|exact cz|(exact hl2m)|(exact hf2m)|exact cU)|(apply aA;(·(first|exact e3 _|exact e4 _|exact e5 _|exact cF)))|refine aH ?_|((with_reducible refine aB ?_ ?_)<;>intro hc<;>(try simp only[List.length_map,ne_eq,dE] at hc)<;>try(exfalso;omega)))
        refine⟨(⟨lks.set y.toNat (l),fnds.set y.toNat true,tds++[y]⟩,j+1),by dsimp only;omega,_,_,_,Rt.refl _ _ _,cI,by dsimp only;omega,c8,⟨_,bq⟩,⟨_,by dsimp only;rw[←j5];exact bq⟩,⟨_,by dsimp only;rw[←nj];exact bq⟩,⟨_,by dsimp only;rw[←gE];exact bq⟩,by simp[hll2],by simp[hfl2], ?_, ?_,hto⟩
        ·simp only[List.length_append,List.length_cons,List.length_nil];omega
        ·intro i
         rw[eE]
         split
         ·exact hnl
         ·exact hlen2 i
      ·have:j=(g.nd x.toNat).gK.length:=by omega
       subst this
       rw[List.drop_eq_nil_of_le (Nat.le_refl _),dS] at hto
       have hnx2:=hnx _ _ hnow hto.symm
       repeat' (first|((with_reducible refine aF ?_);conv=>whnf)|refine aG ?_|exact aC|with_reducible refine aD ?_ ?_|(apply aA;(·exact cF))|refine aH ?_|((with_reducible refine aB ?_ ?_)<;>intro hc<;>(try simp only[List.length_map,ne_eq,dE] at hc)<;>try(exfalso;omega)))
       refine⟨(⟨lks,fnds,tds⟩,k+1),by dsimp only;omega,cI,⟨_,_,Wk.refl _ _ _,c8,⟨_,bq⟩,⟨_,bq⟩,⟨_,bq⟩,⟨_,bq⟩,hnx2,by dsimp only;omega,hlen2, ?_⟩⟩
       rw[←hrun,←hto]
       dsimp only
       congr 1
       omega
 ·have hkt:s.todo.length≤k:=by omega
  have hrun2:gl g=(s.bx,-1):=by
   rw[←hrun,show g.nodes.length+1 - k=(g.nodes.length - k)+1 by omega,ij,if_neg hk]
  repeat' (first|((with_reducible refine aF ?_);conv=>whnf)|refine aG ?_|exact aC|with_reducible refine aD ?_ ?_|(apply aA;(·exact cF))|refine aH ?_|((with_reducible refine aB ?_ ?_)<;>intro hc<;>(try simp only[List.length_map,ne_eq,dE] at hc)<;>try(exfalso;omega)))
  exact⟨.inr ⟨6,d6,s.bx,by rw[hI.kj],hrun2,bq⟩⟩
end Go.Proofs.YtekfmjjmihomlaaGreat
end
