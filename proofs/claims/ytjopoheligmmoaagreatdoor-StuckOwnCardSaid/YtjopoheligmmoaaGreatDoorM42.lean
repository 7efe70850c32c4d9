import Derived.Test.YtjopoheligmmoaaGreatDoorM41
import Derived.Test.YtjopoheligmmoaaGreatDoorM27
import Derived.Shelf.Spec.TrailingZeros
import Derived.Test.YtjopoheligmmoaaGreatDoorProg
import Derived.Test.YtjopoheligmmoaaGreatDoorM23
import Derived.Test.YtjopoheligmmoaaGreatDoorM26
section
/- Knots: plain. -/
namespace Go.Proofs.YtjopoheligmmoaaGreatDoor
open Go Go.cZ Go.Proofs
set_option linter.unusedSimpArgs false
set_option linter.unusedVariables false
def eM (u:bx) (m:MS) (t:Int):Int:=if(m.node u t.toNat).kind=5 then m.hold.getD (m.node u t.toNat).cQ.toNat 0 else -1
def kC (h:Int→Int) (first:Int):Nat→List Int→Int→Option (List Int)
 |0,out,t=>if t=first then some out else none
 |f+1,out,t=>if t=first then some out else if t<0∨t∈out then none else kC h first f (out++[t]) (h t)
def kD (h:Int→Int) (n:Nat) (first:Int):Option (List Int):=kC h first n [first] (h first)
def iI (u:bx) (m:MS):Nat→Option (List Int)
 |0=>none
 |k+1=>match iI u m k with
  |some l=>some l
  |none=>kD (eM u m) u.bz.length (k:Int)
def iR (u:bx) (m:MS):Option (List Int):=iI u m u.bz.length
structure lg (h:Int→Int) (l:List Int):Prop where
 pos:0<l.length
 nd:l.Nodup
 on:∀i,i<l.length→h (l.getD i 0)=l.getD ((i+1)%l.length) 0
 nn:∀x∈l,0≤x
theorem eY {α:Type} {l r:List α} {i:Nat} (d:α) (h:i<l.length):(l++r).getD i d=l.getD i d:=by simp[List.getD,List.getElem?_append,h]
theorem fF {α:Type} {l:List α} {x d:α}:(l++[x]).getD l.length d=x:=by simp[List.getD]
theorem tE {l:List Int} (h:l.Nodup) {i j:Nat} (hi:i<l.length) (hj:j<l.length) (e:l.getD i 0=l.getD j 0):i=j:=by
 have h1:l.getD i 0=l[i]:=by simp[List.getD,hi]
 have h2:l.getD j 0=l[j]:=by simp[List.getD,hj]
 rw[h1,h2] at e
 exact(List.getElem_inj h).1 e
theorem ft:∀(n:Nat) (l:List Int),l.Nodup→(∀x∈l,0≤x∧x<n)→l.length≤n
 |0,[],_,_=>Nat.le_refl _
 |0,x::r,_,h=>by have:=h x (by simp);omega
 |n+1,l,hn,h=>by
  by_cases hm:(n:Int)∈l
  ·have h1:=ft n (l.erase n) (hn.erase _) fun x hx=>by
    have h2:=(hn.mem_erase_iff).1 hx
    have h3:=h x h2.2
    exact⟨h3.1,by have:=h2.1;omega⟩
   rw[List.length_erase_of_mem hm] at h1
   omega
  ·have:=ft n l hn fun x hx=>by
    have h3:=h x hx
    exact⟨h3.1,by
     have:x≠n:=fun e=>hm (e▸hx)
     omega⟩
   omega
structure ju (h:Int→Int) (first:Int) (out:List Int):Prop where
 pos:0<out.length
 zero:out.getD 0 0=first
 nd:out.Nodup
 on:∀i,i+1<out.length→h (out.getD i 0)=out.getD (i+1) 0
 nn:∀x∈out,0≤x
theorem ju.one {h:Int→Int} {first:Int} (h0:0≤first):ju h first [first]:=
 ⟨by simp,rfl,by simp,fun i hi=>by simp at hi,fun x hx=>by simp only[List.mem_cons,List.not_mem_nil,or_false] at hx;omega⟩
theorem ju.more {h:Int→Int} {first t:Int} {out:List Int} (g:ju h first out) (ht:t=h (out.getD (out.length - 1) 0)) (h0:0≤t) (hn:t∉out):ju h first (out++[t]):=by
 have hp:=g.pos
 refine⟨by simp,by rw[eY 0 hp];exact g.zero,List.nodup_append.2 ⟨g.nd,by simp,fun a ha b hb=>by
  simp only[List.mem_cons,List.not_mem_nil,or_false] at hb
  subst hb
  exact fun e=>hn (e▸ha)⟩,fun i hi=> ?_,fun x hx=> ?_⟩
 ·rw[List.length_append,List.length_cons,List.length_nil] at hi
  rw[eY 0 (by omega)]
  by_cases e:i+1=out.length
  ·rw[e,fF,ht];congr 2;omega
  ·rw[eY 0 (by omega)];exact g.on i (by omega)
 ·rcases List.mem_append.1 hx with hx|hx
  ·exact g.nn x hx
  ·simp only[List.mem_cons,List.not_mem_nil,or_false] at hx;omega
theorem ju.ring {h:Int→Int} {first:Int} {out:List Int} (g:ju h first out) (ht:h (out.getD (out.length - 1) 0)=first):lg h out:=by
 have hp:=g.pos
 refine⟨hp,g.nd,fun i hi=> ?_,g.nn⟩
 by_cases e:i+1=out.length
 ·rw[e,Nat.mod_self,g.zero,show i=out.length - 1 by omega];exact ht
 ·rw[Nat.mod_eq_of_lt (by omega)];exact g.on i (by omega)
theorem qo {h:Int→Int} {first:Int} {l:List Int}:∀(f:Nat) (out:List Int) (t:Int),ju h first out→t=h (out.getD (out.length - 1) 0)→kC h first f out t=some l→lg h l∧l.getD 0 0=first
 |0,out,t,g,ht,he=>by
  rw[kC] at he
  split at he
  ·rename_i e
   cases he
   exact⟨g.ring (by rw[←ht];exact e),g.zero⟩
  ·cases he
 |f+1,out,t,g,ht,he=>by
  rw[kC] at he
  split at he
  ·rename_i e
   cases he
   exact⟨g.ring (by rw[←ht];exact e),g.zero⟩
  ·split at he
   ·cases he
   ·rename_i e1 e2
    refine qo f (out++[t]) (h t) (g.more ht (by omega) fun e=>e2 (.inr e)) ?_ he
    rw[List.length_append,List.length_cons,List.length_nil,Nat.add_sub_cancel,fF]
theorem mO {h:Int→Int} {n:Nat} {first:Int} {l:List Int} (h0:0≤first) (he:kD h n first=some l):lg h l∧l.getD 0 0=first:=qo _ _ _ (.one h0) rfl he
theorem KN {h:Int→Int} {n:Nat} {l:List Int} (hr:lg h l) (hl:l.length≤n):kD h n (l.getD 0 0)=some l:=by
 have hp:=hr.pos
 have key:∀d k f,k+d=l.length→1≤k→d≤f→kC h (l.getD 0 0) f (l.take k) (h (l.getD (k - 1) 0))=some l:=by
  intro d
  induction d with
  |zero=>
   intro k f hk h1 _
   have hk':k=l.length:=by omega
   subst hk'
   have ht:h (l.getD (l.length - 1) 0)=l.getD 0 0:=by
    rw[hr.on _ (by omega),show l.length - 1+1=l.length by omega,Nat.mod_self]
   rw[List.take_length,ht]
   cases f<;>rw[kC,if_pos rfl]
  |succ d ih=>
   intro k f hk h1 hf
   obtain⟨f,rfl⟩:∃g,f=g+1:=⟨f - 1,by omega⟩
   have ht:h (l.getD (k - 1) 0)=l.getD k 0:=by
    rw[hr.on _ (by omega),show k - 1+1=k by omega,Nat.mod_eq_of_lt (by omega)]
   have hkl:k<l.length:=by omega
   rw[ht,kC,if_neg (fun e=>by have:=tE hr.nd hkl hp e;omega),if_neg]
   ·have e:l.take k++[l.getD k 0]=l.take (k+1):=by rw[List.take_succ_eq_append_getElem hkl];simp[List.getD,hkl]
    rw[e]
    exact ih (k+1) f (by omega) (by omega) (by omega)
   ·rintro(e|e)
    ·have:=hr.nn _ (cR 0 hkl);omega
    ·obtain⟨i,hi,e2⟩:=List.getElem_of_mem e
     rw[List.length_take] at hi
     rw[List.getElem_take] at e2
     have:=tE hr.nd (i:=i) (j:=k) (by omega) hkl (by rw[←e2];simp[List.getD,show i<l.length by omega])
     omega
 have:=key (l.length - 1) 1 n (by omega) (Nat.le_refl _) (by omega)
 have e1:l.take 1=[l.getD 0 0]:=by
  cases l with
  |nil=>simp at hp
  |cons a r=>simp[List.getD]
 rw[e1] at this
 exact this
theorem AL {h:Int→Int} {n:Nat} {S:Int→Prop} (hS:∀x,S x→0≤x∧x<n∧S (h x)) {x:Int} (hx:S x):∃l,lg h l∧∀y∈l,S y:=by
 have key:∀(f:Nat) (out:List Int),out.length+f=n+1→ju h x out→(∀y∈out,S y)→∃l,lg h l∧∀y∈l,S y:=by
  intro f
  induction f with
  |zero=>
   intro out hl g hs
   have:=ft n out g.nd fun y hy=>⟨(hS y (hs y hy)).1,(hS y (hs y hy)).2.1⟩
   omega
  |succ f ih=>
   intro out hl g hs
   have hp:=g.pos
   have hlast:=hs _ (cR 0 (show out.length - 1<out.length by omega))
   obtain⟨l0,l1,l2⟩:=hS _ hlast
   by_cases hm:h (out.getD (out.length - 1) 0)∈out
   ·obtain⟨k,hk,e⟩:=List.getElem_of_mem hm
    have gd:∀i,(out.drop k).getD i 0=out.getD (k+i) 0:=fun i=>by simp[List.getD]
    have hdl:(out.drop k).length=out.length - k:=List.length_drop
    refine⟨out.drop k,⟨by rw[hdl];omega,g.nd.sublist (List.drop_sublist _ _),fun i hi=> ?_,fun y hy=>g.nn y (List.mem_of_mem_drop hy)⟩,fun y hy=>hs y (List.mem_of_mem_drop hy)⟩
    rw[hdl] at hi ⊢
    rw[gd,gd]
    by_cases ei:i+1=out.length - k
    ·rw[ei,Nat.mod_self,show k+i=out.length - 1 by omega,←e]
     simp[List.getD,hk]
    ·rw[Nat.mod_eq_of_lt (by omega)]
     exact g.on _ (by omega)
   ·have h2:=hS _ l2
    exact ih _ (by rw[List.length_append,List.length_cons,List.length_nil];omega) (g.more rfl h2.1 hm) fun y hy=>by
     rcases List.mem_append.1 hy with hy|hy
     ·exact hs y hy
     ·simp only[List.mem_cons,List.not_mem_nil,or_false] at hy;subst hy;exact l2
 exact key n [x] (by simp;omega) (.one (hS x hx).1) fun y hy=>by
  simp only[List.mem_cons,List.not_mem_nil,or_false] at hy;subst hy;exact hx
section
variable {u:bx} {m:MS}
theorem qF (hr:cT u) (h:eN u m) {t:Int} (ht:0≤t∧t<u.bz.length):-1≤eM u m t∧eM u m t<u.bz.length:=by
 have hno:=h.node hr (t:=t.toNat) (by omega)
 unfold eM
 split
 ·rename_i h5
  obtain⟨x0,x1⟩:=fV hno (.inl h5)
  exact h.hw _ (cR 0 (by rw[h.hl];omega))
 ·omega
theorem TM (hr:cT u) (h:eN u m) {l:List Int} (hl:lg (eM u m) l) (h0:l.getD 0 0<u.bz.length):∀i,i<l.length→0≤l.getD i 0∧l.getD i 0<u.bz.length:=by
 intro i
 induction i with
 |zero=>intro hi;exact⟨hl.nn _ (cR 0 hi),h0⟩
 |succ i ih=>
  intro hi
  have:=qF hr h (ih (by omega))
  rw[hl.on i (by omega),Nat.mod_eq_of_lt hi] at this
  exact⟨hl.nn _ (cR 0 hi),this.2⟩
theorem C2 {l:List Int} {x:Int} (h:x∈l):∃i,i<l.length∧l.getD i 0=x:=by
 obtain⟨i,hi,e⟩:=List.getElem_of_mem h
 exact⟨i,hi,by simp[List.getD,hi,e]⟩
theorem qk {k:Nat} {l:List Int} (h:iI u m k=some l):∃t:Nat,t<k∧kD (eM u m) u.bz.length (t:Int)=some l:=by
 induction k with
 |zero=>cases h
 |succ k ih=>
  rw[iI] at h
  split at h
  ·rename_i l' e
   cases h
   obtain⟨t,h1,h2⟩:=ih e
   exact⟨t,by omega,h2⟩
  ·exact⟨k,by omega,h⟩
theorem qH {t:Nat} {l:List Int} (hl:kD (eM u m) u.bz.length (t:Int)=some l):∀k,t<k→∃t' l',t'≤t∧iI u m k=some l'∧kD (eM u m) u.bz.length ((t':Nat):Int)=some l'
 |0,h=>by omega
 |k+1,h=>by
  rw[iI]
  cases e:iI u m k with
  |some l'=>
   obtain⟨t',h1,h2⟩:=qk e
   by_cases htk:t<k
   ·obtain⟨t2,l2,g1,g2,g3⟩:=qH hl k htk
    rw[e] at g2
    cases g2
    exact⟨t2,l',g1,rfl,g3⟩
   ·exact⟨t',l',by omega,rfl,h2⟩
  |none=>
   by_cases htk:t<k
   ·obtain⟨t2,l2,g1,g2,g3⟩:=qH hl k htk
    rw[e] at g2;cases g2
   ·have:t=k:=by omega
    subst this
    exact⟨t,l,Nat.le_refl _,hl,hl⟩
structure eu (u:bx) (m:MS) (l:List Int):Prop where
 ring:lg (eM u m) l
 ZO:∀i,i<l.length→0≤l.getD i 0∧l.getD i 0<u.bz.length
theorem eu.len {l:List Int} (h:eu u m l):l.length≤u.bz.length:=ft _ _ h.ring.nd fun x hx=>by
 obtain⟨i,hi,rfl⟩:=C2 hx
 exact h.ZO i hi
theorem RU (hr:cT u) (h:eN u m) {l:List Int} (hk:iR u m=some l):eu u m l:=by
 obtain⟨t,ht,hl⟩:=qk hk
 obtain⟨h1,h2⟩:=mO (by omega) hl
 exact⟨h1,TM hr h h1 (by rw[h2];omega)⟩
theorem CR {l:List Int} (h:eu u m l):∃b,iR u m=some b∧(b.getD 0 0<l.getD 0 0∨b=l):=by
 obtain⟨h0,h1⟩:=h.ZO 0 h.ring.pos
 have hl:=KN h.ring h.len
 obtain⟨t,ht⟩:∃t:Nat,l.getD 0 0=t:=⟨(l.getD 0 0).toNat,by omega⟩
 rw[ht] at hl ⊢
 obtain⟨t',l',g1,g2,g3⟩:=qH hl u.bz.length (by omega)
 refine⟨l',g2, ?_⟩
 by_cases e:t'=t
 ·subst e
  rw[hl] at g3
  cases g3
  exact .inr rfl
 ·obtain⟨_,h2⟩:=mO (by omega) g3
  rw[h2]
  exact .inl (by omega)
theorem eu.waits {l:List Int} (h:eu u m l) {t:Int} (ht:t∈l):(m.node u t.toNat).kind=5∧m.hold.getD (m.node u t.toNat).cQ.toNat 0∈l:=by
 obtain⟨i,hi,rfl⟩:=C2 ht
 have h1:=h.ring.on i hi
 have h2:l.getD ((i+1)%l.length) 0∈l:=cR 0 (Nat.mod_lt _ h.ring.pos)
 have h3:=h.ring.nn _ h2
 unfold eM at h1
 split at h1
 ·rename_i h5
  exact⟨h5,h1▸h2⟩
 ·omega
theorem eu.lt {l:List Int} (h:eu u m l) {t:Int} (ht:t∈l):0≤t∧t<u.bz.length:=by
 obtain⟨i,hi,rfl⟩:=C2 ht
 exact h.ZO i hi
theorem BQ (h:eN u m) {t:Int} (ht:0≤t∧t<u.bz.length):m.kx u t=if(m.node u t.toNat).kind=9 then 70 else if(m.node u t.toNat).kind=5∧0≤m.hold.getD (m.node u t.toNat).cQ.toNat 0 then 71 else 0:=by
 unfold MS.kx
 rw[if_neg (by have:=h.pk;omega)]
theorem eu.VL (h0:eN u m) {l:List Int} (h:eu u m l) {t:Int} (ht:t∈l):m.kx u t=71:=by
 obtain⟨h5,hh⟩:=h.waits ht
 have:=h.ring.nn _ hh
 rw[BQ h0 (h.lt ht),if_neg (by omega),if_pos ⟨h5,this⟩]
theorem eu.step (hr:cT u) (h:uJ u m) {l:List Int} (hk:eu u m l) {s:Nat} (hs:s<u.bz.length) (hb:m.kx u s=0):eu u (m.step u s).1 l∧∀t∈l,(m.step u s).1.at_.getD t.toNat 0=m.at_.getD t.toNat 0:=by
 have hsl:(s:Int)∉l:=fun e=>by have:=hk.VL h.ok e;omega
 have hat:∀t∈l,(m.step u s).1.at_.getD t.toNat 0=m.at_.getD t.toNat 0:=fun t ht=>by
  show(m.at_.set s _).getD t.toNat 0=_
  have:=hk.lt ht
  exact getD_set_ne fun e=>hsl (by rw[e,Int.toNat_of_nonneg this.1];exact ht)
 have hnode:∀t∈l,(m.step u s).1.node u t.toNat=m.node u t.toNat:=fun t ht=>by unfold MS.node;rw[hat t ht]
 obtain⟨h9,hbar⟩:=kO h.ok hs hb
 have hno:=h.ok.node hr hs
 have hhold:∀t∈l,(m.step u s).1.hold.getD (m.node u t.toNat).cQ.toNat 0=m.hold.getD (m.node u t.toNat).cQ.toNat 0:=fun t ht=>by
  obtain⟨h5,hh⟩:=hk.waits ht
  have hlt:=hk.lt ht
  have hnt:=h.ok.node hr (t:=t.toNat) (by omega)
  obtain⟨x0,x1⟩:=fV hnt (.inl h5)
  generalize hx:(m.node u t.toNat).cQ=x at *
  show((m.act s (m.node u s)).1.hold).getD x.toNat 0=_
  rw[xV]
  by_cases k5:(m.node u s).kind=5
  ·obtain⟨y0,y1⟩:=fV hno (.inl k5)
   rw[if_pos k5,k7 h.ok ⟨y0,y1⟩ _ x0,if_neg]
   intro e
   rw[e] at hh
   exact hbar ⟨k5,hk.ring.nn _ hh⟩
  ·rw[if_neg k5]
   by_cases k6:(m.node u s).kind=6
   ·obtain⟨y0,y1⟩:=fV hno (.inr k6)
    rw[if_pos k6,k7 h.ok ⟨y0,y1⟩ _ x0,if_neg]
    intro e
    rw[e] at hh
    obtain⟨now,n1,_⟩:=(sq (hr.gr hs)).on _ (h.inv.oZ s hs)
    change dj (m.node u s) _=_ at n1
    unfold dj at n1
    rw[if_neg k5,if_pos k6] at n1
    split at n1
    ·rename_i hc
     obtain⟨ys,hy⟩:=List.getLast?_eq_some_iff.1 hc.2
     have:=(h.inv.own s hs _ y0 y1).2 (by rw[hy];simp)
     rw[this] at hh
     exact hsl hh
    ·cases n1
   ·rw[if_neg k6]
 refine⟨⟨⟨hk.ring.pos,hk.ring.nd,fun i hi=> ?_,hk.ring.nn⟩,hk.ZO⟩,hat⟩
 have hm:=cR (0:Int) hi
 rw[←hk.ring.on i hi]
 unfold eM
 rw[hnode _ hm]
 split
 ·exact hhold _ hm
 ·rfl
theorem eu.KD (hu:u.Wf) (hr:cT u) {l:List Int}:∀(w:List Int) {m:MS},uJ u m→eu u m l→eu u (fO u m w) l∧∀t∈l,(fO u m w).at_.getD t.toNat 0=m.at_.getD t.toNat 0
 |[],m,_,hk=>⟨hk,fun _ _=>rfl⟩
 |t::r,m,h,hk=>by
  rw[fO]
  have h1:=h.one hu hr t
  by_cases hb:m.kx u t=0
  ·rw[if_pos hb] at h1 ⊢
   obtain⟨k,rfl,hkl⟩:=BP h.ok hb
   rw[Int.toNat_natCast] at h1 ⊢
   obtain⟨g1,g2⟩:=hk.step hr h hkl hb
   obtain⟨g3,g4⟩:=eu.KD hu hr r h1 g1
   exact⟨g3,fun s hs=>(g4 s hs).trans (g2 s hs)⟩
  ·rw[if_neg hb] at h1 ⊢
   exact eu.KD hu hr r h1 hk
theorem EC (hr:cT u) (h:uJ u m) (hall:∀t,t<u.bz.length→m.kx u (t:Nat)≠0) {t0:Nat} (ht0:t0<u.bz.length) (h70:m.kx u t0≠70):∃l,iR u m=some l:=by
 have b71:∀t:Int,0≤t∧t<u.bz.length→m.kx u t≠70→(m.node u t.toNat).kind=5∧0≤m.hold.getD (m.node u t.toNat).cQ.toNat 0:=fun t ht h7=>by
  have h0:=hall t.toNat (by omega)
  rw[Int.toNat_of_nonneg ht.1] at h0
  rw[BQ h.ok ht] at h0 h7
  split at h7
  ·exact absurd rfl h7
  ·rename_i e9
   rw[if_neg e9] at h0
   split at h0
   ·assumption
   ·exact absurd rfl h0
 obtain⟨l,hl,hS⟩:=AL (h:=eM u m) (n:=u.bz.length) (S:=fun t=>0≤t∧t<u.bz.length∧m.kx u t≠70) (fun t ht=>by
  obtain⟨h5,hh⟩:=b71 t ⟨ht.1,ht.2.1⟩ ht.2.2
  have hlt:=qF hr h.ok (t:=t) ⟨ht.1,ht.2.1⟩
  have hnt:=h.ok.node hr (t:=t.toNat) (by omega)
  obtain⟨x0,x1⟩:=fV hnt (.inl h5)
  have he:eM u m t=m.hold.getD (m.node u t.toNat).cQ.toNat 0:=by unfold eM;rw[if_pos h5]
  rw[he] at hlt ⊢
  refine⟨ht.1,ht.2.1,hh,hlt.2,fun e70=> ?_⟩
  generalize hx:(m.node u t.toNat).cQ=x at *
  obtain⟨s,hs⟩:∃s:Nat,m.hold.getD x.toNat 0=s:=⟨(m.hold.getD x.toNat 0).toNat,by omega⟩
  rw[hs] at hlt e70
  have hmem:=(h.inv.own s (by omega) x x0 x1).1 hs
  rw[BQ h.ok (by omega),Int.toNat_natCast] at e70
  split at e70
  ·rename_i h9
   obtain⟨now,n1,_⟩:=(sq (hr.gr (t:=s) (by omega))).on _ (h.inv.oZ s (by omega))
   change dj (m.node u s) _=_ at n1
   unfold dj at n1
   rw[if_neg (by omega),if_neg (by omega),if_pos h9] at n1
   split at n1
   ·rename_i e;rw[e] at hmem;cases hmem
   ·cases n1
  ·split at e70<;>omega) (x:=(t0:Int)) ⟨by omega,by omega,h70⟩
 have hk:eu u m l:=⟨hl,fun i hi=>by have:=hS _ (cR 0 hi);exact⟨this.1,this.2.1⟩⟩
 obtain⟨b,hb,_⟩:=CR hk
 exact⟨b,hb⟩
end
end Go.Proofs.YtjopoheligmmoaaGreatDoor
end
section
/- Edges: plain. -/
namespace Go.Proofs.YtjopoheligmmoaaGreatDoor
open Go Go.cZ Go.Proofs
set_option linter.unusedSimpArgs false
set_option linter.unusedVariables false
theorem tA:∀(x:Nat),x<4294967296→∀k:Int,k∈bits x↔0≤k∧x.testBit k.toNat=true:=by
 intro x
 induction x using Nat.strongRecOn with
 |_ x ih=>
  intro hx k
  by_cases h0:x=0
  ·subst h0
   rw[show bits 0=[] from rfl,Nat.zero_testBit]
   simp
  ·rw[po h0]
   obtain⟨h1,h2,h3⟩:=RE h0 hx
   have hp:=pred_lt h0
   rw[List.mem_cons,ih _ hp (by omega),AI h0 hx]
   constructor
   ·rintro(rfl|⟨g1,g2⟩)
    ·exact⟨by omega,by rw[Int.toNat_natCast];exact h1⟩
    ·rw[Bool.and_eq_true] at g2
     exact⟨g1,g2.1⟩
   ·rintro⟨g1,g2⟩
    by_cases e:k.toNat=ctz x
    ·exact .inl (by omega)
    ·exact .inr ⟨g1,by rw[Bool.and_eq_true];exact⟨g2,decide_eq_true e⟩⟩
def qj (g:cF) (i:Nat):List Int:=bits (hb (O1 g i))
theorem C0 {u:bx} {g:cF} (hk:eL u g) (hl:u.cE.length≤16) (i:Nat):hb (O1 g i)<65536:=UQ (m:=16) fun k hx=>by have:=w3 hk i k hx;omega
theorem S8 {u:bx} {g:cF} (hk:eL u g) (hl:u.cE.length≤16) (i:Nat) (x:Int):x∈qj g i↔x∈O1 g i:=by
 unfold qj
 rw[tA _ (by have:=C0 hk hl i;omega),NQ,List.any_eq_true]
 constructor
 ·rintro⟨h0,y,hy,e⟩
  have:=w3 hk i y hy
  have e2:=of_decide_eq_true e
  rw[show x=y by omega];exact hy
 ·intro h
  have:=w3 hk i x h
  exact⟨this.1,x,h,decide_eq_true rfl⟩
structure dX where
 held:Int
 taken:Int
 df:Int
 node:Int
 deriving Inhabited,DecidableEq
def dX.cells (e:dX):List AV:=[i64 e.held,i64 e.taken,i64 e.df,i64 e.node]
abbrev dX.av (e:dX):AV:= .agg e.cells
abbrev wI (l:List dX):AV:= .im 4 .any (l.map dX.av)
@[simp] theorem MW (n:Nat) (e:dX):cX n e.cells:=by simp[dX.cells,cX,cI]
theorem ug (l:List dX):cX 0 (l.map dX.av):=(cB _ _).2 fun _ _=>by simp only[dX.av,cI];exact MW _ _
def mA (g:cF) (t i:Nat):List dX:=if(g.nd i).kind=5 then(qj g i).map fun h=>⟨h,(g.nd i).cQ,t,i⟩ else[]
def iX (g:cF) (t:Nat):Nat→List dX
 |0=>[]
 |i+1=>iX g t i++mA g t i
def gh (u:bx):Nat→List dX
 |0=>[]
 |t+1=>gh u t++iX (u.gr t) t (u.gr t).nodes.length
def dJ (u:bx):List dX:=gh u u.bz.length
theorem nk {g:cF} {t:Nat} {e:dX}:∀{m:Nat},e∈iX g t m↔∃i,i<m∧e∈mA g t i
 |0=>by simp[iX]
 |m+1=>by
  rw[iX,List.mem_append,nk]
  constructor
  ·rintro(⟨i,h1,h2⟩|h)
   ·exact⟨i,by omega,h2⟩
   ·exact⟨m,by omega,h⟩
  ·rintro⟨i,h1,h2⟩
   by_cases e:i=m
   ·subst e;exact .inr h2
   ·exact .inl ⟨i,by omega,h2⟩
theorem sJ {u:bx} {e:dX}:∀{m:Nat},e∈gh u m↔∃t,t<m∧e∈iX (u.gr t) t (u.gr t).nodes.length
 |0=>by simp[gh]
 |m+1=>by
  rw[gh,List.mem_append,sJ]
  constructor
  ·rintro(⟨i,h1,h2⟩|h)
   ·exact⟨i,by omega,h2⟩
   ·exact⟨m,by omega,h⟩
  ·rintro⟨i,h1,h2⟩
   by_cases e:i=m
   ·subst e;exact .inr h2
   ·exact .inl ⟨i,by omega,h2⟩
theorem IK {u:bx} {e:dX}:e∈dJ u↔∃t i,t<u.bz.length∧i<(u.gr t).nodes.length∧((u.gr t).nd i).kind=5∧e.held∈qj (u.gr t) i∧e.taken=((u.gr t).nd i).cQ∧e.df=t∧e.node=i:=by
 unfold dJ
 rw[sJ]
 constructor
 ·rintro⟨t,ht,h⟩
  obtain⟨i,hi,h⟩:=nk.1 h
  unfold mA at h
  split at h
  ·rename_i h5
   obtain⟨x,hx,rfl⟩:=List.mem_map.1 h
   exact⟨t,i,ht,hi,h5,hx,rfl,rfl,rfl⟩
  ·cases h
 ·rintro⟨t,i,ht,hi,h5,hx,h1,h2,h3⟩
  refine⟨t,ht,nk.2 ⟨i,hi, ?_⟩⟩
  unfold mA
  rw[if_pos h5]
  exact List.mem_map.2 ⟨e.held,hx,by cases e;simp_all⟩
theorem sL {u:bx} (hr:cT u) {e:dX} (h:e∈dJ u):(0≤e.held∧e.held<u.cE.length)∧0≤e.taken∧e.taken<u.cE.length:=by
 obtain⟨t,i,ht,hi,h5,hx,h1,h2,h3⟩:=IK.1 h
 rw[S8 (hr.gr ht) hr.pz.2.1] at hx
 rw[h1]
 exact⟨w3 (hr.gr ht) i _ hx,fV ((hr.gr ht).node hi) (.inl h5)⟩
theorem BS:∀(x:Nat),x<4294967296→(bits x).Nodup:=by
 intro x
 induction x using Nat.strongRecOn with
 |_ x ih=>
  intro hx
  by_cases h0:x=0
  ·subst h0;exact List.nodup_nil
  ·have hp:=pred_lt h0
   rw[po h0,List.nodup_cons]
   refine⟨fun h=> ?_,ih _ hp (by omega)⟩
   have:=((tA _ (by omega) _).1 h).2
   rw[AI h0 hx,Bool.and_eq_true] at this
   exact of_decide_eq_true this.2 (by rw[Int.toNat_natCast])
theorem Q0 {x:Nat} (hx:x<65536):(bits x).length≤16:=ft 16 _ (BS x (by omega)) fun k hk=>by
 obtain⟨h1,h2⟩:=(tA _ (by omega) _).1 hk
 refine⟨h1, ?_⟩
 by_cases h:k.toNat<16
 ·omega
 ·have h3:16≤k.toNat:=by omega
  have h4:2^16≤2^k.toNat:=Nat.pow_le_pow_right (by decide) h3
  have:=Nat.testBit_lt_two_pow (x:=x) (i:=k.toNat) (by omega)
  rw[this] at h2;cases h2
theorem NT {u:bx} {g:cF} (hk:eL u g) (hl:u.cE.length≤16) (i:Nat):(qj g i).length≤16:=Q0 (C0 hk hl i)
theorem IJ {u:bx} {g:cF} (hk:eL u g) (hl:u.cE.length≤16) (t i:Nat):(mA g t i).length≤16:=by
 unfold mA
 split
 ·rw[List.length_map];exact NT hk hl i
 ·exact Nat.zero_le _
theorem py {u:bx} {g:cF} (hk:eL u g) (hl:u.cE.length≤16) (t:Nat):∀m,(iX g t m).length≤16 * m
 |0=>Nat.le_refl _
 |m+1=>by
  rw[iX,List.length_append]
  have:=py hk hl t m
  have:=IJ hk hl t m
  omega
theorem mf {u:bx} (hr:cT u):∀{m:Nat},m≤u.bz.length→(gh u m).length≤65536 * m
 |0,_=>Nat.le_refl _
 |m+1,h=>by
  rw[gh,List.length_append]
  have h1:=mf hr (m:=m) (by omega)
  have h2:=py (hr.gr (t:=m) (by omega)) hr.pz.2.1 m (u.gr m).nodes.length
  have h3:=(hr.gr (t:=m) (by omega)).len.2
  omega
end Go.Proofs.YtjopoheligmmoaaGreatDoor
end
section
/- The shortest ring through a lock: plain. -/
namespace Go.Proofs.YtjopoheligmmoaaGreatDoor
open Go Go.cZ Go.Proofs
set_option linter.unusedSimpArgs false
set_option linter.unusedVariables false
structure mX where
 at_:Int
 from_:Int
 dep:Nat
 deriving Inhabited,DecidableEq
abbrev iF (l:List mX):List Int:=l.map mX.at_
def HN (first:Int) (k d:Nat):List Int→List mX→Option (List mX)
 |[],l=>some l
 |x::r,l=>if x=first then none else HN first k d r (if x∈iF l then l else l++[⟨x,k,d+1⟩])
def tc (l:List mX):Nat→Int→List Int
 |0,_=>[]
 |f+1,k=>if k<0 then[] else(l.getD k.toNat default).at_::tc l f (l.getD k.toNat default).from_
def p7 (l:List mX) (k:Nat):List Int:=(tc l (k+1) k).reverse
def xb (lead:Int→List Int) (first:Int):Nat→Nat→List mX→Option (List Int)
 |0,_,_=>none
 |f+1,k,l=>if k<l.length then(match HN first k (l.getD k default).dep (lead (l.getD k default).at_) l with
  |none=>some (p7 l k)
  |some l'=>xb lead first f (k+1) l') else none
def pn (lead:Int→List Int) (n:Nat) (first:Int):Option (List Int):=xb lead first (n+1) 0 [⟨first,-1,0⟩]
structure qu (lead:Int→List Int) (c:List Int):Prop where
 pos:0<c.length
 on:∀i,i<c.length→c.getD ((i+1)%c.length) 0∈lead (c.getD i 0)
theorem kB {α:Type} {l l':List α} {d:α} (h:l<+:l') {i:Nat} (hi:i<l.length):l'.getD i d=l.getD i d:=by
 obtain⟨r,rfl⟩:=h
 exact eY d hi
structure j6 (lead:Int→List Int) (first:Int) (k:Nat) (l:List mX):Prop where
 pos:0<l.length
 zero:l.getD 0 default=⟨first,-1,0⟩
 nd:(iF l).Nodup
 par:∀i,0<i→i<l.length→∃p,p<i∧p≤k∧(l.getD i default).from_=(p:Nat)∧(l.getD i default).at_∈lead (l.getD p default).at_∧(l.getD i default).dep=(l.getD p default).dep+1
 mono:∀i j,i≤j→j<l.length→(l.getD i default).dep≤(l.getD j default).dep
 nf:∀i,0<i→i<l.length→(l.getD i default).at_≠first
theorem j6.start (lead:Int→List Int) (first:Int):j6 lead first 0 [⟨first,-1,0⟩] where
 pos:=by simp
 zero:=rfl
 nd:=by simp
 par:=fun i h0 hi=>by simp at hi;omega
 mono:=fun i j hij hj=>by
  simp at hj
  have:i=j:=by omega
  rw[this];exact Nat.le_refl _
 nf:=fun i h0 hi=>by simp at hi;omega
section
variable {lead:Int→List Int} {first:Int} {k:Nat} {l:List mX}
theorem j6.on (h:j6 lead first k l):j6 lead first (k+1) l:=
 ⟨h.pos,h.zero,h.nd,fun i h0 hi=>by obtain⟨p,h1,h2,h3⟩:=h.par i h0 hi;exact⟨p,h1,by omega,h3⟩,h.mono,h.nf⟩
theorem j6.top (h:j6 lead first k l) (hk:k<l.length) {i:Nat} (hi:i<l.length):(l.getD i default).dep≤(l.getD k default).dep+1:=by
 by_cases h0:i=0
 ·subst h0;rw[h.zero];exact Nat.zero_le _
 ·obtain⟨p,h1,h2,_,_,h5⟩:=h.par i (by omega) hi
  have:=h.mono p k h2 hk
  omega
theorem j6.add (h:j6 lead first k l) (hk:k<l.length) {x:Int} (hx:x∈lead (l.getD k default).at_) (hf:x≠first) (hn:x∉iF l):j6 lead first k (l++[⟨x,k,(l.getD k default).dep+1⟩]):=by
 have hp:=h.pos
 refine⟨by simp,by rw[eY _ hp];exact h.zero, ?_,fun i h0 hi=> ?_,fun i j hij hj=> ?_,fun i h0 hi=> ?_⟩
 ·unfold iF
  rw[List.map_append]
  exact List.nodup_append.2 ⟨h.nd,by simp,fun a ha b hb=>by
   simp only[List.map_cons,List.map_nil,List.mem_cons,List.not_mem_nil,or_false] at hb
   subst hb
   exact fun e=>hn (e▸ha)⟩
 ·rw[List.length_append,List.length_cons,List.length_nil] at hi
  by_cases e:i=l.length
  ·subst e
   refine⟨k,hk,Nat.le_refl _, ?_⟩
   rw[fF,eY _ hk]
   exact⟨rfl,hx,rfl⟩
  ·obtain⟨p,h1,h2,h3,h4,h5⟩:=h.par i h0 (by omega)
   rw[eY _ (show i<l.length by omega)]
   refine⟨p,h1,h2,h3, ?_⟩
   rw[eY _ (show p<l.length by omega)]
   exact⟨h4,h5⟩
 ·rw[List.length_append,List.length_cons,List.length_nil] at hj
  by_cases e:j=l.length
  ·subst e
   rw[fF]
   by_cases e2:i=l.length
   ·subst e2;rw[fF];exact Nat.le_refl _
   ·rw[eY _ (show i<l.length by omega)]
    exact h.top hk (by omega)
  ·rw[eY _ (show i<l.length by omega),eY _ (show j<l.length by omega)]
   exact h.mono i j hij (by omega)
 ·rw[List.length_append,List.length_cons,List.length_nil] at hi
  by_cases e:i=l.length
  ·subst e;rw[fF];exact hf
  ·rw[eY _ (show i<l.length by omega)];exact h.nf i h0 (by omega)
theorem nC {x:Int}:x∈iF l↔∃i,i<l.length∧(l.getD i default).at_=x:=by
 constructor
 ·intro h
  obtain⟨e,he,rfl⟩:=List.mem_map.1 h
  obtain⟨i,hi,e2⟩:=List.getElem_of_mem he
  exact⟨i,hi,by simp[List.getD,hi,e2]⟩
 ·rintro⟨i,hi,rfl⟩
  exact List.mem_map.2 ⟨_,cR default hi,rfl⟩
theorem tT {d:Nat}:∀{xs:List Int} {l l':List mX},j6 lead first k l→k<l.length→d=(l.getD k default).dep→(∀x∈xs,x∈lead (l.getD k default).at_)→HN first k d xs l=some l'→
 j6 lead first k l'∧l<+:l'∧∀x∈xs,x≠first∧x∈iF l'
 |[],l,l',h,hk,hd,hx,he=>by rw[HN] at he;cases he;exact⟨h,List.prefix_refl _,fun x hx=>by cases hx⟩
 |x::r,l,l',h,hk,hd,hx,he=>by
  rw[HN] at he
  split at he
  ·cases he
  ·rename_i hf
   have hxr:=fun y hy=>hx y (List.mem_cons_of_mem _ hy)
   by_cases hm:x∈iF l
   ·rw[if_pos hm] at he
    obtain⟨h1,h2,h3⟩:=tT h hk hd hxr he
    refine⟨h1,h2,fun y hy=> ?_⟩
    rcases List.mem_cons.1 hy with rfl|hy
    ·refine⟨hf, ?_⟩
     obtain⟨i,hi,e⟩:=nC.1 hm
     exact nC.2 ⟨i,Nat.lt_of_lt_of_le hi h2.length_le,by rw[kB h2 hi];exact e⟩
    ·exact h3 y hy
   ·rw[if_neg hm,hd] at he
    have ha:=h.add hk (hx x (by simp)) hf hm
    have hpre:l<+:l++[⟨x,k,(l.getD k default).dep+1⟩]:=List.prefix_append _ _
    have hkk:k<(l++[(⟨x,k,(l.getD k default).dep+1⟩:mX)]).length:=by simp;omega
    have hgk:=kB (d:=default) hpre hk
    obtain⟨h1,h2,h3⟩:=tT ha hkk (by rw[hgk]) (by rw[hgk];exact hxr) he
    refine⟨h1,hpre.trans h2,fun y hy=> ?_⟩
    rcases List.mem_cons.1 hy with rfl|hy
    ·refine⟨hf,nC.2 ⟨l.length,Nat.lt_of_lt_of_le (by simp) h2.length_le, ?_⟩⟩
     rw[kB h2 (by simp),fF]
    ·exact h3 y hy
theorem A7 {d:Nat}:∀{xs:List Int} {l:List mX},HN first k d xs l=none↔first∈xs
 |[],l=>by simp[HN]
 |x::r,l=>by
  rw[HN]
  by_cases e:x=first
  ·rw[if_pos e];simp[e]
  ·rw[if_neg e,A7,List.mem_cons]
   exact⟨fun h=> .inr h,fun h=>h.resolve_left fun e2=>e e2.symm⟩
theorem HR {l l':List mX} (h:l<+:l'):∀(f:Nat) (k:Int),k<l.length→(∀i,i<l.length→(l.getD i default).from_<l.length)→tc l' f k=tc l f k
 |0,_,_,_=>rfl
 |f+1,k,hk,hf=>by
  rw[tc,tc]
  split
  ·rfl
  ·rw[kB h (by omega),HR h f _ (hf _ (by omega)) hf]
theorem A9 (h:j6 lead first k l):∀(i:Nat),i<l.length→∀f,i<f→tc l f i=tc l (i+1) i:=by
 intro i
 induction i using Nat.strongRecOn with
 |_ i ih=>
  intro hi f hf
  obtain⟨f,rfl⟩:∃g,f=g+1:=⟨f - 1,by omega⟩
  rw[tc,tc,if_neg (by omega),if_neg (by omega),Int.toNat_natCast]
  by_cases h0:i=0
  ·subst h0
   rw[h.zero]
   dsimp only
   have e:∀g,tc l g (-1)=[]:=fun g=>by cases g<;>rw[tc];rw[if_pos (by omega)]
   rw[e,e]
  ·obtain⟨p,h1,h2,h3,_,_⟩:=h.par i (by omega) hi
   rw[h3,ih p h1 (by omega) f (by omega),ih p h1 (by omega) i (by omega)]
theorem K7 (h:j6 lead first k l):p7 l 0=[first]:=by
 unfold p7
 rw[tc,if_neg (by omega),show((0:Nat):Int).toNat=0 from rfl,h.zero]
 dsimp only
 rw[tc];rfl
theorem K6 (h:j6 lead first k l) {i p:Nat} (hi:i<l.length) (hp:p<i) (hf:(l.getD i default).from_=(p:Nat)):p7 l i=p7 l p++[(l.getD i default).at_]:=by
 unfold p7
 rw[tc,if_neg (by omega),Int.toNat_natCast,hf,A9 h p (by omega) i hp,List.reverse_cons]
structure XY (lead:Int→List Int) (first x:Int) (d:Nat) (l:List mX) (i:Nat) (w:List Int):Prop where
 len:w.length=d+1
 zero:w.getD 0 0=first
 last:w.getD d 0=x
 on:∀j,j<d→w.getD (j+1) 0∈lead (w.getD j 0)
 from_:∀y∈w,∃q,q≤i∧(l.getD q default).at_=y
 nd:w.Nodup
theorem QD (h:j6 lead first k l):∀(i:Nat),i<l.length→XY lead first (l.getD i default).at_ (l.getD i default).dep l i (p7 l i):=by
 intro i
 induction i using Nat.strongRecOn with
 |_ i ih=>
  intro hi
  by_cases h0:i=0
  ·subst h0
   rw[K7 h,h.zero]
   exact⟨rfl,rfl,rfl,fun j hj=>by simp at hj,fun y hy=>⟨0,Nat.le_refl _,by
    simp only[List.mem_cons,List.not_mem_nil,or_false] at hy
    rw[h.zero,hy]⟩,by simp⟩
  ·obtain⟨p,h1,h2,h3,h4,h5⟩:=h.par i (by omega) hi
   have hw:=ih p h1 (by omega)
   rw[K6 h hi h1 h3,h5]
   generalize p7 l p=w at *
   have hl:=hw.len
   refine⟨by simp[hl],by rw[eY _ (by omega)];exact hw.zero,by rw[←hl,fF],fun j hj=> ?_,fun y hy=> ?_,List.nodup_append.2 ⟨hw.nd,by simp,fun a ha b hb=> ?_⟩⟩
   ·by_cases e:j=(l.getD p default).dep
    ·rw[e,←hl,fF,eY _ (by omega),hw.last];exact h4
    ·rw[eY _ (by omega),eY _ (by omega)];exact hw.on j (by omega)
   ·rcases List.mem_append.1 hy with hy|hy
    ·obtain⟨q,q1,q2⟩:=hw.from_ y hy
     exact⟨q,by omega,q2⟩
    ·simp only[List.mem_cons,List.not_mem_nil,or_false] at hy
     exact⟨i,Nat.le_refl _,hy.symm⟩
   ·simp only[List.mem_cons,List.not_mem_nil,or_false] at hb
    subst hb
    obtain⟨q,q1,q2⟩:=hw.from_ a ha
    intro e
    rw[←q2] at e
    have e1:∀i,i<l.length→(iF l).getD i 0=(l.getD i default).at_:=fun i hi=>by simp[List.getD,hi]
    have:=tE h.nd (i:=q) (j:=i) (by simp;omega) (by simpa using hi) (by rw[e1 q (by omega),e1 i hi];exact e)
    omega
def UF (lead:Int→List Int) (first:Int) (l:List mX) (k:Nat):Prop:=∀j,j<k→j<l.length→∀x∈lead (l.getD j default).at_,x≠first∧∃i,i<l.length∧(l.getD i default).at_=x∧(l.getD i default).dep≤(l.getD j default).dep+1
theorem tK {c:List Int} (h:j6 lead first k l) (hd:UF lead first l k) (hc:qu lead c) (h0:c.getD 0 0=first) (hlt:k<l.length→c.length≤(l.getD k default).dep):False:=by
 have hp:=hc.pos
 have key:∀i,i<c.length→∃q,q<l.length∧(l.getD q default).at_=c.getD i 0∧(l.getD q default).dep≤i:=by
  intro i
  induction i with
  |zero=>intro _;exact⟨0,h.pos,by rw[h.zero,h0],by rw[h.zero];exact Nat.le_refl _⟩
  |succ i ih=>
   intro hi
   obtain⟨q,q1,q2,q3⟩:=ih (by omega)
   have hqk:q<k:=by
    rcases Nat.lt_or_ge q k with h2|h2
    ·exact h2
    ·have:=hlt (by omega)
     have:=h.mono k q h2 q1
     omega
   have hon:=hc.on i (by omega)
   rw[Nat.mod_eq_of_lt hi,←q2] at hon
   obtain⟨_,q',g1,g2,g3⟩:=hd q hqk q1 _ hon
   exact⟨q',g1,g2,by omega⟩
 obtain⟨q,q1,q2,q3⟩:=key (c.length - 1) (by omega)
 have hqk:q<k:=by
  rcases Nat.lt_or_ge q k with h2|h2
  ·exact h2
  ·have:=hlt (by omega)
   have:=h.mono k q h2 q1
   omega
 have hon:=hc.on (c.length - 1) (by omega)
 rw[show c.length - 1+1=c.length by omega,Nat.mod_self,h0,←q2] at hon
 exact(hd q hqk q1 _ hon).1 rfl
theorem uR {n:Nat} (hin:∀x,∀y∈lead x,0≤y∧y<n) (hf0:0≤first∧first<n):∀(f k:Nat) (l:List mX),k+f=n+1→j6 lead first k l→UF lead first l k→(∀x∈iF l,0≤x∧x<n)→
 (∀w,xb lead first f k l=some w→w.getD 0 0=first∧qu lead w∧w.Nodup∧(∀x∈w,0≤x∧x<n)∧∀c,qu lead c→c.getD 0 0=first→w.length≤c.length)∧
 (xb lead first f k l=none→∀c,qu lead c→c.getD 0 0≠first)
 |0,k,l,he,h,hd,hr=>by
  have:=ft n _ h.nd hr
  rw[List.length_map] at this
  rw[xb]
  exact⟨(fun w hw=>by cases hw),fun _ c hc h0=>tK h hd hc h0 fun hk=>by omega⟩
 |f+1,k,l,he,h,hd,hr=>by
  rw[xb]
  by_cases hk:k<l.length
  ·rw[if_pos hk]
   cases ht:HN first k (l.getD k default).dep (lead (l.getD k default).at_) l with
   |none=>
    dsimp only
    have hm:=A7.1 ht
    have hw:=QD h k hk
    generalize p7 l k=w at *
    refine⟨fun w' hw'=> ?_,fun hn=>by cases hn⟩
    cases hw'
    have hl:=hw.len
    refine⟨hw.zero,⟨by omega,fun i hi=> ?_⟩,hw.nd,fun x hx=> ?_,fun c hc h0=> ?_⟩
    ·by_cases e:i+1=w.length
     ·rw[e,Nat.mod_self,hw.zero,show i=(l.getD k default).dep by omega,hw.last];exact hm
     ·rw[Nat.mod_eq_of_lt (by omega)];exact hw.on i (by omega)
    ·obtain⟨q,q1,q2⟩:=hw.from_ x hx
     exact hr x (nC.2 ⟨q,by omega,q2⟩)
    ·apply Nat.le_of_not_lt
     intro hlt
     exact tK h hd hc h0 fun _=>by omega
   |some l'=>
    dsimp only
    obtain⟨h1,h2,h3⟩:=tT h hk rfl (fun x hx=>hx) ht
    have hk':k<l'.length:=Nat.lt_of_lt_of_le hk h2.length_le
    refine uR hin hf0 f (k+1) l' (by omega) h1.on (fun j hj hjl x hx=> ?_) fun x hx=> ?_
    ·by_cases e:j=k
     ·subst e
      rw[kB h2 hk] at hx ⊢
      obtain⟨g1,g2⟩:=h3 x hx
      obtain⟨i,hi,g3⟩:=nC.1 g2
      refine⟨g1,i,hi,g3, ?_⟩
      have:=h1.top hk' hi
      rw[kB h2 hk] at this
      exact this
     ·rw[kB h2 (show j<l.length by omega)] at hx ⊢
      obtain⟨g1,i,hi,g2,g3⟩:=hd j (by omega) (by omega) x hx
      exact⟨g1,i,Nat.lt_of_lt_of_le hi h2.length_le,by rw[kB h2 hi];exact g2,by rw[kB h2 hi];exact g3⟩
    ·obtain⟨i,hi,e⟩:=nC.1 hx
     by_cases h0:i=0
     ·subst h0;rw[h1.zero] at e;rw[←e];exact hf0
     ·obtain⟨p,_,_,_,g4,_⟩:=h1.par i (by omega) hi
      rw[e] at g4
      exact hin _ _ g4
  ·rw[if_neg hk]
   exact⟨(fun w hw=>by cases hw),fun _ c hc h0=>tK h hd hc h0 fun hk2=>by omega⟩
end
theorem lq {lead:Int→List Int} {n:Nat} {first:Int} (hin:∀x,∀y∈lead x,0≤y∧y<n) (hf0:0≤first∧first<n):
 (∀w,pn lead n first=some w→w.getD 0 0=first∧qu lead w∧w.Nodup∧(∀x∈w,0≤x∧x<n)∧∀c,qu lead c→c.getD 0 0=first→w.length≤c.length)∧
 (pn lead n first=none→∀c,qu lead c→c.getD 0 0≠first):=
 uR hin hf0 (n+1) 0 _ (by omega) (.start lead first) (fun j hj=>by omega) fun x hx=>by
  simp only[iF,List.map_cons,List.map_nil,List.mem_cons,List.not_mem_nil,or_false] at hx
  rw[hx];exact hf0
def jM (lead:Int→List Int) (n:Nat):Nat→Option (List Int)
 |0=>none
 |k+1=>match pn lead n (k:Int),jM lead n k with
  |none,b=>b
  |some l,none=>some l
  |some l,some b=>if l.length<b.length then some l else some b
theorem uQ {lead:Int→List Int} {n:Nat}:∀{k:Nat},jM lead n k=none→∀f:Nat,f<k→pn lead n (f:Int)=none
 |0,_,f,h=>by omega
 |k+1,he,f,h=>by
  rw[jM] at he
  split at he
  ·rename_i e
   by_cases hf:f=k
   ·subst hf;exact e
   ·exact uQ he f (by omega)
  ·cases he
  ·split at he<;>cases he
theorem kP {lead:Int→List Int} {n:Nat}:∀{k:Nat} {b:List Int},jM lead n k=some b→∃f:Nat,f<k∧pn lead n (f:Int)=some b∧∀g:Nat,g<k→∀l,pn lead n (g:Int)=some l→b.length≤l.length∧(b.length=l.length→f≤g)
 |0,b,he=>by cases he
 |k+1,b,he=>by
  rw[jM] at he
  split at he
  ·rename_i e
   obtain⟨f,h1,h2,h3⟩:=kP he
   refine⟨f,by omega,h2,fun g hg l hl=> ?_⟩
   by_cases hgk:g=k
   ·subst hgk;rw[e] at hl;cases hl
   ·exact h3 g (by omega) l hl
  ·rename_i l0 e e2
   cases he
   refine⟨k,by omega,e,fun g hg l hl=> ?_⟩
   by_cases hgk:g=k
   ·subst hgk;rw[e] at hl;cases hl;exact⟨Nat.le_refl _,fun _=>Nat.le_refl _⟩
   ·rw[uQ e2 g (by omega)] at hl;cases hl
  ·rename_i l0 b0 e e2
   obtain⟨f,h1,h2,h3⟩:=kP e2
   split at he
   ·rename_i hlt
    cases he
    refine⟨k,by omega,e,fun g hg l hl=> ?_⟩
    by_cases hgk:g=k
    ·subst hgk;rw[e] at hl;cases hl;exact⟨Nat.le_refl _,fun _=>Nat.le_refl _⟩
    ·have:=h3 g (by omega) l hl
     exact⟨by omega,fun _=>by omega⟩
   ·rename_i hlt
    cases he
    refine⟨f,by omega,h2,fun g hg l hl=> ?_⟩
    by_cases hgk:g=k
    ·subst hgk;rw[e] at hl;cases hl;exact⟨by omega,fun _=>by omega⟩
    ·exact h3 g (by omega) l hl
theorem qu.gv {lead:Int→List Int} {c:List Int} (h:qu lead c) {i:Nat} (hi:i<c.length):∃d,qu lead d∧d.getD 0 0=c.getD i 0∧d.length=c.length:=by
 have hp:=h.pos
 refine⟨(List.range c.length).map fun j=>c.getD ((i+j)%c.length) 0,⟨by simpa using hp,fun j hj=> ?_⟩, ?_,by simp⟩
 ·rw[List.length_map,List.length_range] at hj ⊢
  have gd:∀q,q<c.length→((List.range c.length).map fun j=>c.getD ((i+j)%c.length) 0).getD q 0=c.getD ((i+q)%c.length) 0:=fun q hq=>by simp[List.getD,hq]
  rw[gd j hj,gd _ (Nat.mod_lt _ hp)]
  have:=h.on ((i+j)%c.length) (Nat.mod_lt _ hp)
  have e:(i+(j+1)%c.length)%c.length=((i+j)%c.length+1)%c.length:=by
   rw[Nat.add_mod,Nat.mod_mod,←Nat.add_mod,Nat.mod_add_mod];rfl
  rw[e]
  exact this
 ·simp[List.getD,hp,Nat.mod_eq_of_lt hi]
end Go.Proofs.YtjopoheligmmoaaGreatDoor
end
section
/- The library's count of trailing zeros at this program, as a tool of the kit laid it in plain words. -/
namespace Go.Proofs
open Go.Shelf
def Tryz.CS:Go.Shelf.Ren:=⟨fun|28=>123|n=>n,fun|27=>132|3=>3|4=>4|25=>142|53=>229|0=>0|5=>5|n=>n,fun|0=>0|n=>n⟩
theorem Tryz.WI:Go.Proofs.Lays7.n28 Tryz.prog Tryz.CS:={
 mixed:=by kernel_rfl
 f28:=Tryz.func123.trans (congrArg some (by kernel_rfl))
 t0:=Tryz.underlying0
 a0:=Tryz.isAgg0
 z0:=Tryz.sizeOf0
 v0:=Tryz.zeroValue0
 i0:=by kernel_rfl
 t3:=Tryz.underlying3
 a3:=Tryz.isAgg3
 z3:=Tryz.sizeOf3
 v3:=Tryz.zeroValue3
 i3:=by kernel_rfl
 t4:=Tryz.underlying4
 a4:=Tryz.isAgg4
 z4:=Tryz.sizeOf4
 v4:=Tryz.zeroValue4
 i4:=by kernel_rfl
 t5:=Tryz.underlying5
 a5:=Tryz.isAgg5
 z5:=Tryz.sizeOf5
 v5:=Tryz.zeroValue5
 i5:=by kernel_rfl
 t25:=Tryz.underlying142
 a25:=Tryz.isAgg142
 z25:=Tryz.sizeOf142
 v25:=Tryz.zeroValue142
 i25:=by kernel_rfl
 t27:=Tryz.underlying132
 a27:=Tryz.isAgg132
 z27:=Tryz.sizeOf132
 v27:=Tryz.zeroValue132
 i27:=by kernel_rfl
 t53:=Tryz.underlying229
 a53:=Tryz.isAgg229
 z53:=Tryz.sizeOf229
 v53:=Tryz.zeroValue229
 i53:=by kernel_rfl
 g0:=by kernel_rfl }
open Go.RowKit Go.Lib in
theorem Tryz.aAK (x:Nat) (hx:x<4294967296) (w:World) (hT:x≠0→TabAt 0 Lib.deBruijn32tab w):
 Calls Tryz.prog 123 #[.int .u32 x] w fun e w'=>e= .returned (.int .i64 (Lib.ctz 32 x))∧w'=w:=Any7.bits_TrailingZeros32 Tryz.WI x hx w hT
end Go.Proofs
end
section
/- Locks as bits: the library's count of zeros, the lists of bits. -/
namespace Go.Proofs.YtjopoheligmmoaaGreatDoor
open Go Go.cZ Go.Proofs
set_option linter.unusedSimpArgs false
set_option linter.unusedVariables false
abbrev u32 (n:Nat):AV:= .sc (.int .u32 (n:Int))
theorem UC (x:Nat) (hx:x<4294967296):Pure Tryz.prog 123 [u32 x] (fun r=>r=i64 (ctz x)):=by
 refine⟨⟨_,Tryz.func123,by kernel_rfl,by kernel_rfl⟩,fun M w vs hM hv=> ?_⟩
 rw[cg] at hv
 obtain⟨v,vs',rfl,h1,h2⟩:=hv
 rw[VR] at h1
 rw[cg] at h2
 subst h1
 subst h2
 refine(Tryz.aAK x hx w fun _=>(hM.Y6 (0,_) (by unfold W6;exact List.mem_singleton_self _)).2.2).mono ?_
 rintro e w' ⟨rfl,rfl⟩
 exact⟨_,_,rfl,rfl,by simp[cI],by rw[VR], .refl _ _⟩
theorem wrap32 {n:Int} (h1:0≤n) (h2:n<4294967296):IntKind.u32.wrap n=n:=by rw[wrap_u32'];omega
theorem X1 {a b:Nat} (ha:a<4294967296) (hb:b<4294967296):IntKind.u32.wrap (BitVec.ofInt IntKind.u32.bits (a:Int)&&& BitVec.ofInt IntKind.u32.bits (b:Int)).toNat=((a&&& b:Nat):Int):=bits_and_u32_nat a b ha hb
theorem aAD {a b:Nat} (ha:a<4294967296) (hb:b<4294967296):IntKind.u32.wrap (BitVec.ofInt IntKind.u32.bits (a:Int)|||BitVec.ofInt IntKind.u32.bits (b:Int)).toNat=((a|||b:Nat):Int):=by
 have hx:a|||b<2^32:=Nat.or_lt_two_pow (by omega) (by omega)
 have h1:(BitVec.ofInt IntKind.u32.bits (a:Int)).toNat=a:=by
  show(BitVec.ofInt 32 (a:Int)).toNat=a
  rw[BitVec.ofInt_natCast,BitVec.toNat_ofNat];exact Nat.mod_eq_of_lt (by omega)
 have h2:(BitVec.ofInt IntKind.u32.bits (b:Int)).toNat=b:=by
  show(BitVec.ofInt 32 (b:Int)).toNat=b
  rw[BitVec.ofInt_natCast,BitVec.toNat_ofNat];exact Nat.mod_eq_of_lt (by omega)
 rw[BitVec.toNat_or,h1,h2,wrap32 (by omega) (by omega)]
theorem WR {x:Nat} (h0:x≠0) (hx:x<4294967296):IntKind.u32.wrap ((x:Int) - 1)=((x - 1:Nat):Int):=by
 rw[wrap32 (by omega) (by omega)];omega
theorem JX (x:Nat) (hx:x<65536):cG Tryz.prog 75 [u32 x] [] 0 (fun r H n=>∃b d,r= .sl b (bits x).length∧bu H b=some (.row 3 1 d ((bits x).map i64))):=by
 refine aM OQ rfl ?_
 repeat' (first|((with_reducible refine aI ?_);conv=>whnf)|refine aG ?_|exact aC|with_reducible refine aD ?_ ?_|(apply aB;(·exact cS))|refine aH ?_|((with_reducible refine aA ?_ ?_)<;>intro hc<;>(try simp only[List.length_map,ne_eq,db] at hc)<;>try(exfalso;omega)))
 refine aV (fun s:Nat×List Int=>[(0,u32 s.1),(3, .sl 2 s.2.length)])
  (fun s H n=>3≤n∧s.1≤x∧s.2++bits s.1=bits x∧s.2.length+s.1≤x∧∃d,bu H 2=some (.row 3 1 d (s.2.map i64)))
  (fun s=>s.1) (x,[]) ⟨_,_,_,Rt.nil 3 3 1 (by omega) rfl,cK,ca,Nat.le_refl _,rfl,by simp,⟨_,bw⟩⟩ ?_
 rintro⟨y,l⟩ H n ⟨hn,hy,hb,hlen,⟨d,r2⟩⟩
 dsimp only at hy hb hlen r2 ⊢
 by_cases h0:y=0
 ·subst h0
  repeat' (first|((with_reducible refine aI ?_);conv=>whnf)|refine aG ?_|exact aC|with_reducible refine aD ?_ ?_|(apply aB;(·exact cS))|refine aH ?_|((with_reducible refine aA ?_ ?_)<;>intro hc<;>(try simp only[List.length_map,ne_eq,db] at hc)<;>try(exfalso;omega)))
  rw[show bits 0=[] from rfl,List.append_nil] at hb
  rw[←hb]
  exact⟨⟨2,d,rfl,bw⟩⟩
 ·rw[po h0] at hb
  have hp:=pred_lt h0
  have e1:=WR h0 (show y<4294967296 by omega)
  have e2:=X1 (show y<4294967296 by omega) (show y - 1<4294967296 by omega)
  have ht:=UC y (by omega)
  repeat' (first|((with_reducible refine aI ?_);conv=>whnf)|refine aG ?_|exact aC|with_reducible refine aD ?_ ?_|(apply aB;(·exact cS))|refine aK (ht) ?_|(simp only[e1])|(simp only[e2])|refine aH ?_|((with_reducible refine aA ?_ ?_)<;>intro hc<;>(try simp only[List.length_map,ne_eq,db] at hc)<;>try(exfalso;omega)))
  exact⟨(y&&& (y - 1),l++[(ctz y:Int)]),hp,_,_,_,Rt.refl _ _ _,cK,ca,by dsimp only;omega,by dsimp only;rw[←hb];simp,by dsimp only;simp only[List.length_append,List.length_cons,List.length_nil];omega,⟨_,by dsimp only;rw[←jQ];exact bw⟩⟩
theorem JY (x:Nat) (hx:x<65536):Pure Tryz.prog 75 [u32 x] (fun r=>r=fX (bits x)):=by
 refine cx ((JX x hx).mono ?_) (by simp[fX,cI,cB])
 rintro r H n ⟨b,d,rfl,hb⟩
 rw[dc hb (by simp),cy _ (MZ _ _)];rfl
end Go.Proofs.YtjopoheligmmoaaGreatDoor
end
