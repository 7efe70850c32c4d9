import Derived.Test.YtjopoheligmmoaaGreatDoorM41
import Derived.Test.YtjopoheligmmoaaGreatDoorM27
import Derived.Shelf.Spec.TrailingZeros
import Derived.Test.YtjopoheligmmoaaGreatDoorProg
import Derived.Test.YtjopoheligmmoaaGreatDoorM23
import Derived.Test.YtjopoheligmmoaaGreatDoorM26
section
/- Knots: plain. -/
namespace Go.Proofs.YtjopoheligmmoaaGreatDoor
open Go Go.cY Go.Proofs
set_option linter.unusedSimpArgs false
set_option linter.unusedVariables false
def fW (u:bu) (m:MS) (t:Int):Int:=if(m.node u t.toNat).kind=5 then m.hold.getD (m.node u t.toNat).cP.toNat 0 else -1
def np (h:Int→Int) (first:Int):Nat→List Int→Int→Option (List Int)
 |0,out,t=>if t=first then some out else none
 |f+1,out,t=>if t=first then some out else if t<0∨t∈out then none else np h first f (out++[t]) (h t)
def qC (h:Int→Int) (n:Nat) (first:Int):Option (List Int):=np h first n [first] (h first)
def l9 (u:bu) (m:MS):Nat→Option (List Int)
 |0=>none
 |k+1=>match l9 u m k with
  |some l=>some l
  |none=>qC (fW u m) u.bx.length (k:Int)
def EG (u:bu) (m:MS):Option (List Int):=l9 u m u.bx.length
structure vF (h:Int→Int) (l:List Int):Prop where
 pos:0<l.length
 nd:l.Nodup
 on:∀i,i<l.length→h (l.getD i 0)=l.getD ((i+1)%l.length) 0
 nn:∀x∈l,0≤x
theorem eW {α:Type} {l r:List α} {i:Nat} (d:α) (h:i<l.length):(l++r).getD i d=l.getD i d:=by simp[List.getD,List.getElem?_append,h]
theorem fB {α:Type} {l:List α} {x d:α}:(l++[x]).getD l.length d=x:=by simp[List.getD]
theorem zV {l:List Int} (h:l.Nodup) {i j:Nat} (hi:i<l.length) (hj:j<l.length) (e:l.getD i 0=l.getD j 0):i=j:=by
 have h1:l.getD i 0=l[i]:=by simp[List.getD,hi]
 have h2:l.getD j 0=l[j]:=by simp[List.getD,hj]
 rw[h1,h2] at e
 exact(List.getElem_inj h).1 e
theorem gB:∀(n:Nat) (l:List Int),l.Nodup→(∀x∈l,0≤x∧x<n)→l.length≤n
 |0,[],_,_=>Nat.le_refl _
 |0,x::r,_,h=>by have:=h x (by simp);omega
 |n+1,l,hn,h=>by
  by_cases hm:(n:Int)∈l
  ·have h1:=gB n (l.erase n) (hn.erase _) fun x hx=>by
    have h2:=(hn.mem_erase_iff).1 hx
    have h3:=h x h2.2
    exact⟨h3.1,by have:=h2.1;omega⟩
   rw[List.length_erase_of_mem hm] at h1
   omega
  ·have:=gB n l hn fun x hx=>by
    have h3:=h x hx
    exact⟨h3.1,by
     have:x≠n:=fun e=>hm (e▸hx)
     omega⟩
   omega
structure kT (h:Int→Int) (first:Int) (out:List Int):Prop where
 pos:0<out.length
 zero:out.getD 0 0=first
 nd:out.Nodup
 on:∀i,i+1<out.length→h (out.getD i 0)=out.getD (i+1) 0
 nn:∀x∈out,0≤x
theorem kT.one {h:Int→Int} {first:Int} (h0:0≤first):kT h first [first]:=
 ⟨by simp,rfl,by simp,fun i hi=>by simp at hi,fun x hx=>by simp only[List.mem_cons,List.not_mem_nil,or_false] at hx;omega⟩
theorem kT.more {h:Int→Int} {first t:Int} {out:List Int} (g:kT h first out) (ht:t=h (out.getD (out.length - 1) 0)) (h0:0≤t) (hn:t∉out):kT h first (out++[t]):=by
 have hp:=g.pos
 refine⟨by simp,by rw[eW 0 hp];exact g.zero,List.nodup_append.2 ⟨g.nd,by simp,fun a ha b hb=>by
  simp only[List.mem_cons,List.not_mem_nil,or_false] at hb
  subst hb
  exact fun e=>hn (e▸ha)⟩,fun i hi=> ?_,fun x hx=> ?_⟩
 ·rw[List.length_append,List.length_cons,List.length_nil] at hi
  rw[eW 0 (by omega)]
  by_cases e:i+1=out.length
  ·rw[e,fB,ht];congr 2;omega
  ·rw[eW 0 (by omega)];exact g.on i (by omega)
 ·rcases List.mem_append.1 hx with hx|hx
  ·exact g.nn x hx
  ·simp only[List.mem_cons,List.not_mem_nil,or_false] at hx;omega
theorem kT.ring {h:Int→Int} {first:Int} {out:List Int} (g:kT h first out) (ht:h (out.getD (out.length - 1) 0)=first):vF h out:=by
 have hp:=g.pos
 refine⟨hp,g.nd,fun i hi=> ?_,g.nn⟩
 by_cases e:i+1=out.length
 ·rw[e,Nat.mod_self,g.zero,show i=out.length - 1 by omega];exact ht
 ·rw[Nat.mod_eq_of_lt (by omega)];exact g.on i (by omega)
theorem qZ {h:Int→Int} {first:Int} {l:List Int}:∀(f:Nat) (out:List Int) (t:Int),kT h first out→t=h (out.getD (out.length - 1) 0)→np h first f out t=some l→vF h l∧l.getD 0 0=first
 |0,out,t,g,ht,he=>by
  rw[np] at he
  split at he
  ·rename_i e
   cases he
   exact⟨g.ring (by rw[←ht];exact e),g.zero⟩
  ·cases he
 |f+1,out,t,g,ht,he=>by
  rw[np] at he
  split at he
  ·rename_i e
   cases he
   exact⟨g.ring (by rw[←ht];exact e),g.zero⟩
  ·split at he
   ·cases he
   ·rename_i e1 e2
    refine qZ f (out++[t]) (h t) (g.more ht (by omega) fun e=>e2 (.inr e)) ?_ he
    rw[List.length_append,List.length_cons,List.length_nil,Nat.add_sub_cancel,fB]
theorem z8 {h:Int→Int} {n:Nat} {first:Int} {l:List Int} (h0:0≤first) (he:qC h n first=some l):vF h l∧l.getD 0 0=first:=qZ _ _ _ (.one h0) rfl he
section
variable {u:bu} {m:MS}
theorem IC (hr:cZ u) (h:eN u m) {t:Int} (ht:0≤t∧t<u.bx.length):-1≤fW u m t∧fW u m t<u.bx.length:=by
 have hno:=h.node hr (t:=t.toNat) (by omega)
 unfold fW
 split
 ·rename_i h5
  obtain⟨x0,x1⟩:=fj hno (.inl h5)
  exact h.hw _ (cR 0 (by rw[h.hl];omega))
 ·omega
theorem B4 {l:List Int} {x:Int} (h:x∈l):∃i,i<l.length∧l.getD i 0=x:=by
 obtain⟨i,hi,e⟩:=List.getElem_of_mem h
 exact⟨i,hi,by simp[List.getD,hi,e]⟩
structure fx (u:bu) (m:MS) (l:List Int):Prop where
 ring:vF (fW u m) l
 Y5:∀i,i<l.length→0≤l.getD i 0∧l.getD i 0<u.bx.length
theorem fx.len {l:List Int} (h:fx u m l):l.length≤u.bx.length:=gB _ _ h.ring.nd fun x hx=>by
 obtain⟨i,hi,rfl⟩:=B4 hx
 exact h.Y5 i hi
theorem fx.waits {l:List Int} (h:fx u m l) {t:Int} (ht:t∈l):(m.node u t.toNat).kind=5∧m.hold.getD (m.node u t.toNat).cP.toNat 0∈l:=by
 obtain⟨i,hi,rfl⟩:=B4 ht
 have h1:=h.ring.on i hi
 have h2:l.getD ((i+1)%l.length) 0∈l:=cR 0 (Nat.mod_lt _ h.ring.pos)
 have h3:=h.ring.nn _ h2
 unfold fW at h1
 split at h1
 ·rename_i h5
  exact⟨h5,h1▸h2⟩
 ·omega
theorem fx.lt {l:List Int} (h:fx u m l) {t:Int} (ht:t∈l):0≤t∧t<u.bx.length:=by
 obtain⟨i,hi,rfl⟩:=B4 ht
 exact h.Y5 i hi
theorem UG (h:eN u m) {t:Int} (ht:0≤t∧t<u.bx.length):m.mJ u t=if(m.node u t.toNat).kind=9 then 70 else if(m.node u t.toNat).kind=5∧0≤m.hold.getD (m.node u t.toNat).cP.toNat 0 then 71 else 0:=by
 unfold MS.mJ
 rw[if_neg (by have:=h.pW;omega)]
theorem fx.UH (h0:eN u m) {l:List Int} (h:fx u m l) {t:Int} (ht:t∈l):m.mJ u t=71:=by
 obtain⟨h5,hh⟩:=h.waits ht
 have:=h.ring.nn _ hh
 rw[UG h0 (h.lt ht),if_neg (by omega),if_pos ⟨h5,this⟩]
theorem fx.step (hr:cZ u) (h:w8 u m) {l:List Int} (hk:fx u m l) {s:Nat} (hs:s<u.bx.length) (hb:m.mJ u s=0):fx u (m.step u s).1 l∧∀t∈l,(m.step u s).1.at_.getD t.toNat 0=m.at_.getD t.toNat 0:=by
 have hsl:(s:Int)∉l:=fun e=>by have:=hk.UH h.ok e;omega
 have hat:∀t∈l,(m.step u s).1.at_.getD t.toNat 0=m.at_.getD t.toNat 0:=fun t ht=>by
  show(m.at_.set s _).getD t.toNat 0=_
  have:=hk.lt ht
  exact getD_set_ne fun e=>hsl (by rw[e,Int.toNat_of_nonneg this.1];exact ht)
 have hnode:∀t∈l,(m.step u s).1.node u t.toNat=m.node u t.toNat:=fun t ht=>by unfold MS.node;rw[hat t ht]
 obtain⟨h9,hbar⟩:=jw h.ok hs hb
 have hno:=h.ok.node hr hs
 have hhold:∀t∈l,(m.step u s).1.hold.getD (m.node u t.toNat).cP.toNat 0=m.hold.getD (m.node u t.toNat).cP.toNat 0:=fun t ht=>by
  obtain⟨h5,hh⟩:=hk.waits ht
  have hlt:=hk.lt ht
  have hnt:=h.ok.node hr (t:=t.toNat) (by omega)
  obtain⟨x0,x1⟩:=fj hnt (.inl h5)
  generalize hx:(m.node u t.toNat).cP=x at *
  show((m.act s (m.node u s)).1.hold).getD x.toNat 0=_
  rw[wi]
  by_cases k5:(m.node u s).kind=5
  ·obtain⟨y0,y1⟩:=fj hno (.inl k5)
   rw[if_pos k5,kI h.ok ⟨y0,y1⟩ _ x0,if_neg]
   intro e
   rw[e] at hh
   exact hbar ⟨k5,hk.ring.nn _ hh⟩
  ·rw[if_neg k5]
   by_cases k6:(m.node u s).kind=6
   ·obtain⟨y0,y1⟩:=fj hno (.inr k6)
    rw[if_pos k6,kI h.ok ⟨y0,y1⟩ _ x0,if_neg]
    intro e
    rw[e] at hh
    obtain⟨now,n1,_⟩:=(vx (hr.gr hs)).on _ (h.inv.p7 s hs)
    change dn (m.node u s) _=_ at n1
    unfold dn at n1
    rw[if_neg k5,if_pos k6] at n1
    split at n1
    ·rename_i hc
     obtain⟨ys,hy⟩:=List.getLast?_eq_some_iff.1 hc.2
     have:=(h.inv.own s hs _ y0 y1).2 (by rw[hy];simp)
     rw[this] at hh
     exact hsl hh
    ·cases n1
   ·rw[if_neg k6]
 refine⟨⟨⟨hk.ring.pos,hk.ring.nd,fun i hi=> ?_,hk.ring.nn⟩,hk.Y5⟩,hat⟩
 have hm:=cR (0:Int) hi
 rw[←hk.ring.on i hi]
 unfold fW
 rw[hnode _ hm]
 split
 ·exact hhold _ hm
 ·rfl
theorem fx.OG (hu:u.Wf) (hr:cZ u) {l:List Int}:∀(w:List Int) {m:MS},w8 u m→fx u m l→fx u (iG u m w) l∧∀t∈l,(iG u m w).at_.getD t.toNat 0=m.at_.getD t.toNat 0
 |[],m,_,hk=>⟨hk,fun _ _=>rfl⟩
 |t::r,m,h,hk=>by
  rw[iG]
  have h1:=h.one hu hr t
  by_cases hb:m.mJ u t=0
  ·rw[if_pos hb] at h1 ⊢
   obtain⟨k,rfl,hkl⟩:=AO h.ok hb
   rw[Int.toNat_natCast] at h1 ⊢
   obtain⟨g1,g2⟩:=hk.step hr h hkl hb
   obtain⟨g3,g4⟩:=fx.OG hu hr r h1 g1
   exact⟨g3,fun s hs=>(g4 s hs).trans (g2 s hs)⟩
  ·rw[if_neg hb] at h1 ⊢
   exact fx.OG hu hr r h1 hk
end
end Go.Proofs.YtjopoheligmmoaaGreatDoor
end
section
/- Edges: plain. -/
namespace Go.Proofs.YtjopoheligmmoaaGreatDoor
open Go Go.cY Go.Proofs
set_option linter.unusedSimpArgs false
set_option linter.unusedVariables false
theorem sU:∀(x:Nat),x<4294967296→∀k:Int,k∈bits x↔0≤k∧x.testBit k.toNat=true:=by
 intro x
 induction x using Nat.strongRecOn with
 |_ x ih=>
  intro hx k
  by_cases h0:x=0
  ·subst h0
   rw[show bits 0=[] from rfl,Nat.zero_testBit]
   simp
  ·rw[pY h0]
   obtain⟨h1,h2,h3⟩:=QD h0 hx
   have hp:=pred_lt h0
   rw[List.mem_cons,ih _ hp (by omega),z6 h0 hx]
   constructor
   ·rintro(rfl|⟨g1,g2⟩)
    ·exact⟨by omega,by rw[Int.toNat_natCast];exact h1⟩
    ·rw[Bool.and_eq_true] at g2
     exact⟨g1,g2.1⟩
   ·rintro⟨g1,g2⟩
    by_cases e:k.toNat=ctz x
    ·exact .inl (by omega)
    ·exact .inr ⟨g1,by rw[Bool.and_eq_true];exact⟨g2,decide_eq_true e⟩⟩
def qV (g:cE) (i:Nat):List Int:=bits (hb (N3 g i))
theorem B2 {u:bu} {g:cE} (hk:eJ u g) (hl:u.cD.length≤16) (i:Nat):hb (N3 g i)<65536:=TP (m:=16) fun k hx=>by have:=vw hk i k hx;omega
theorem R5 {u:bu} {g:cE} (hk:eJ u g) (hl:u.cD.length≤16) (i:Nat) (x:Int):x∈qV g i↔x∈N3 g i:=by
 unfold qV
 rw[sU _ (by have:=B2 hk hl i;omega),MP,List.any_eq_true]
 constructor
 ·rintro⟨h0,y,hy,e⟩
  have:=vw hk i y hy
  have e2:=of_decide_eq_true e
  rw[show x=y by omega];exact hy
 ·intro h
  have:=vw hk i x h
  exact⟨this.1,x,h,decide_eq_true rfl⟩
structure eA where
 held:Int
 taken:Int
 da:Int
 node:Int
 deriving Inhabited,DecidableEq
def eA.cells (e:eA):List AV:=[i64 e.held,i64 e.taken,i64 e.da,i64 e.node]
abbrev eA.av (e:eA):AV:= .agg e.cells
abbrev mL (l:List eA):AV:= .im 4 .any (l.map eA.av)
@[simp] theorem LU (n:Nat) (e:eA):cX n e.cells:=by simp[eA.cells,cX,cL]
theorem uJ (l:List eA):cX 0 (l.map eA.av):=(cC _ _).2 fun _ _=>by simp only[eA.av,cL];exact LU _ _
def lZ (g:cE) (t i:Nat):List eA:=if(g.nd i).kind=5 then(qV g i).map fun h=>⟨h,(g.nd i).cP,t,i⟩ else[]
def iM (g:cE) (t:Nat):Nat→List eA
 |0=>[]
 |i+1=>iM g t i++lZ g t i
def gS (u:bu):Nat→List eA
 |0=>[]
 |t+1=>gS u t++iM (u.gr t) t (u.gr t).nodes.length
def dH (u:bu):List eA:=gS u u.bx.length
theorem nR {g:cE} {t:Nat} {e:eA}:∀{m:Nat},e∈iM g t m↔∃i,i<m∧e∈lZ g t i
 |0=>by simp[iM]
 |m+1=>by
  rw[iM,List.mem_append,nR]
  constructor
  ·rintro(⟨i,h1,h2⟩|h)
   ·exact⟨i,by omega,h2⟩
   ·exact⟨m,by omega,h⟩
  ·rintro⟨i,h1,h2⟩
   by_cases e:i=m
   ·subst e;exact .inr h2
   ·exact .inl ⟨i,by omega,h2⟩
theorem re {u:bu} {e:eA}:∀{m:Nat},e∈gS u m↔∃t,t<m∧e∈iM (u.gr t) t (u.gr t).nodes.length
 |0=>by simp[gS]
 |m+1=>by
  rw[gS,List.mem_append,re]
  constructor
  ·rintro(⟨i,h1,h2⟩|h)
   ·exact⟨i,by omega,h2⟩
   ·exact⟨m,by omega,h⟩
  ·rintro⟨i,h1,h2⟩
   by_cases e:i=m
   ·subst e;exact .inr h2
   ·exact .inl ⟨i,by omega,h2⟩
theorem HA {u:bu} {e:eA}:e∈dH u↔∃t i,t<u.bx.length∧i<(u.gr t).nodes.length∧((u.gr t).nd i).kind=5∧e.held∈qV (u.gr t) i∧e.taken=((u.gr t).nd i).cP∧e.da=t∧e.node=i:=by
 unfold dH
 rw[re]
 constructor
 ·rintro⟨t,ht,h⟩
  obtain⟨i,hi,h⟩:=nR.1 h
  unfold lZ at h
  split at h
  ·rename_i h5
   obtain⟨x,hx,rfl⟩:=List.mem_map.1 h
   exact⟨t,i,ht,hi,h5,hx,rfl,rfl,rfl⟩
  ·cases h
 ·rintro⟨t,i,ht,hi,h5,hx,h1,h2,h3⟩
  refine⟨t,ht,nR.2 ⟨i,hi, ?_⟩⟩
  unfold lZ
  rw[if_pos h5]
  exact List.mem_map.2 ⟨e.held,hx,by cases e;simp_all⟩
theorem rf {u:bu} (hr:cZ u) {e:eA} (h:e∈dH u):(0≤e.held∧e.held<u.cD.length)∧0≤e.taken∧e.taken<u.cD.length:=by
 obtain⟨t,i,ht,hi,h5,hx,h1,h2,h3⟩:=HA.1 h
 rw[R5 (hr.gr ht) hr.qO.2.1] at hx
 rw[h1]
 exact⟨vw (hr.gr ht) i _ hx,fj ((hr.gr ht).node hi) (.inl h5)⟩
theorem AQ:∀(x:Nat),x<4294967296→(bits x).Nodup:=by
 intro x
 induction x using Nat.strongRecOn with
 |_ x ih=>
  intro hx
  by_cases h0:x=0
  ·subst h0;exact List.nodup_nil
  ·have hp:=pred_lt h0
   rw[pY h0,List.nodup_cons]
   refine⟨fun h=> ?_,ih _ hp (by omega)⟩
   have:=((sU _ (by omega) _).1 h).2
   rw[z6 h0 hx,Bool.and_eq_true] at this
   exact of_decide_eq_true this.2 (by rw[Int.toNat_natCast])
theorem PZ {x:Nat} (hx:x<65536):(bits x).length≤16:=gB 16 _ (AQ x (by omega)) fun k hk=>by
 obtain⟨h1,h2⟩:=(sU _ (by omega) _).1 hk
 refine⟨h1, ?_⟩
 by_cases h:k.toNat<16
 ·omega
 ·have h3:16≤k.toNat:=by omega
  have h4:2^16≤2^k.toNat:=Nat.pow_le_pow_right (by decide) h3
  have:=Nat.testBit_lt_two_pow (x:=x) (i:=k.toNat) (by omega)
  rw[this] at h2;cases h2
theorem MT {u:bu} {g:cE} (hk:eJ u g) (hl:u.cD.length≤16) (i:Nat):(qV g i).length≤16:=PZ (B2 hk hl i)
theorem G9 {u:bu} {g:cE} (hk:eJ u g) (hl:u.cD.length≤16) (t i:Nat):(lZ g t i).length≤16:=by
 unfold lZ
 split
 ·rw[List.length_map];exact MT hk hl i
 ·exact Nat.zero_le _
theorem p9 {u:bu} {g:cE} (hk:eJ u g) (hl:u.cD.length≤16) (t:Nat):∀m,(iM g t m).length≤16 * m
 |0=>Nat.le_refl _
 |m+1=>by
  rw[iM,List.length_append]
  have:=p9 hk hl t m
  have:=G9 hk hl t m
  omega
theorem mM {u:bu} (hr:cZ u):∀{m:Nat},m≤u.bx.length→(gS u m).length≤65536 * m
 |0,_=>Nat.le_refl _
 |m+1,h=>by
  rw[gS,List.length_append]
  have h1:=mM hr (m:=m) (by omega)
  have h2:=p9 (hr.gr (t:=m) (by omega)) hr.qO.2.1 m (u.gr m).nodes.length
  have h3:=(hr.gr (t:=m) (by omega)).len.2
  omega
end Go.Proofs.YtjopoheligmmoaaGreatDoor
end
section
/- The shortest ring through a lock: plain. -/
namespace Go.Proofs.YtjopoheligmmoaaGreatDoor
open Go Go.cY Go.Proofs
set_option linter.unusedSimpArgs false
set_option linter.unusedVariables false
structure mF where
 at_:Int
 from_:Int
 dep:Nat
 deriving Inhabited,DecidableEq
abbrev gz (l:List mF):List Int:=l.map mF.at_
def GL (first:Int) (k d:Nat):List Int→List mF→Option (List mF)
 |[],l=>some l
 |x::r,l=>if x=first then none else GL first k d r (if x∈gz l then l else l++[⟨x,k,d+1⟩])
def tA (l:List mF):Nat→Int→List Int
 |0,_=>[]
 |f+1,k=>if k<0 then[] else(l.getD k.toNat default).at_::tA l f (l.getD k.toNat default).from_
def pL (l:List mF) (k:Nat):List Int:=(tA l (k+1) k).reverse
def xA (lead:Int→List Int) (first:Int):Nat→Nat→List mF→Option (List Int)
 |0,_,_=>none
 |f+1,k,l=>if k<l.length then(match GL first k (l.getD k default).dep (lead (l.getD k default).at_) l with
  |none=>some (pL l k)
  |some l'=>xA lead first f (k+1) l') else none
def pX (lead:Int→List Int) (n:Nat) (first:Int):Option (List Int):=xA lead first (n+1) 0 [⟨first,-1,0⟩]
structure qa (lead:Int→List Int) (c:List Int):Prop where
 pos:0<c.length
 on:∀i,i<c.length→c.getD ((i+1)%c.length) 0∈lead (c.getD i 0)
theorem jj {α:Type} {l l':List α} {d:α} (h:l<+:l') {i:Nat} (hi:i<l.length):l'.getD i d=l.getD i d:=by
 obtain⟨r,rfl⟩:=h
 exact eW d hi
structure jR (lead:Int→List Int) (first:Int) (k:Nat) (l:List mF):Prop where
 pos:0<l.length
 zero:l.getD 0 default=⟨first,-1,0⟩
 nd:(gz l).Nodup
 par:∀i,0<i→i<l.length→∃p,p<i∧p≤k∧(l.getD i default).from_=(p:Nat)∧(l.getD i default).at_∈lead (l.getD p default).at_∧(l.getD i default).dep=(l.getD p default).dep+1
 mono:∀i j,i≤j→j<l.length→(l.getD i default).dep≤(l.getD j default).dep
 nf:∀i,0<i→i<l.length→(l.getD i default).at_≠first
theorem jR.start (lead:Int→List Int) (first:Int):jR lead first 0 [⟨first,-1,0⟩] where
 pos:=by simp
 zero:=rfl
 nd:=by simp
 par:=fun i h0 hi=>by simp at hi;omega
 mono:=fun i j hij hj=>by
  simp at hj
  have:i=j:=by omega
  rw[this];exact Nat.le_refl _
 nf:=fun i h0 hi=>by simp at hi;omega
section
variable {lead:Int→List Int} {first:Int} {k:Nat} {l:List mF}
theorem jR.on (h:jR lead first k l):jR lead first (k+1) l:=
 ⟨h.pos,h.zero,h.nd,fun i h0 hi=>by obtain⟨p,h1,h2,h3⟩:=h.par i h0 hi;exact⟨p,h1,by omega,h3⟩,h.mono,h.nf⟩
theorem jR.top (h:jR lead first k l) (hk:k<l.length) {i:Nat} (hi:i<l.length):(l.getD i default).dep≤(l.getD k default).dep+1:=by
 by_cases h0:i=0
 ·subst h0;rw[h.zero];exact Nat.zero_le _
 ·obtain⟨p,h1,h2,_,_,h5⟩:=h.par i (by omega) hi
  have:=h.mono p k h2 hk
  omega
theorem jR.add (h:jR lead first k l) (hk:k<l.length) {x:Int} (hx:x∈lead (l.getD k default).at_) (hf:x≠first) (hn:x∉gz l):jR lead first k (l++[⟨x,k,(l.getD k default).dep+1⟩]):=by
 have hp:=h.pos
 refine⟨by simp,by rw[eW _ hp];exact h.zero, ?_,fun i h0 hi=> ?_,fun i j hij hj=> ?_,fun i h0 hi=> ?_⟩
 ·unfold gz
  rw[List.map_append]
  exact List.nodup_append.2 ⟨h.nd,by simp,fun a ha b hb=>by
   simp only[List.map_cons,List.map_nil,List.mem_cons,List.not_mem_nil,or_false] at hb
   subst hb
   exact fun e=>hn (e▸ha)⟩
 ·rw[List.length_append,List.length_cons,List.length_nil] at hi
  by_cases e:i=l.length
  ·subst e
   refine⟨k,hk,Nat.le_refl _, ?_⟩
   rw[fB,eW _ hk]
   exact⟨rfl,hx,rfl⟩
  ·obtain⟨p,h1,h2,h3,h4,h5⟩:=h.par i h0 (by omega)
   rw[eW _ (show i<l.length by omega)]
   refine⟨p,h1,h2,h3, ?_⟩
   rw[eW _ (show p<l.length by omega)]
   exact⟨h4,h5⟩
 ·rw[List.length_append,List.length_cons,List.length_nil] at hj
  by_cases e:j=l.length
  ·subst e
   rw[fB]
   by_cases e2:i=l.length
   ·subst e2;rw[fB];exact Nat.le_refl _
   ·rw[eW _ (show i<l.length by omega)]
    exact h.top hk (by omega)
  ·rw[eW _ (show i<l.length by omega),eW _ (show j<l.length by omega)]
   exact h.mono i j hij (by omega)
 ·rw[List.length_append,List.length_cons,List.length_nil] at hi
  by_cases e:i=l.length
  ·subst e;rw[fB];exact hf
  ·rw[eW _ (show i<l.length by omega)];exact h.nf i h0 (by omega)
theorem mZ {x:Int}:x∈gz l↔∃i,i<l.length∧(l.getD i default).at_=x:=by
 constructor
 ·intro h
  obtain⟨e,he,rfl⟩:=List.mem_map.1 h
  obtain⟨i,hi,e2⟩:=List.getElem_of_mem he
  exact⟨i,hi,by simp[List.getD,hi,e2]⟩
 ·rintro⟨i,hi,rfl⟩
  exact List.mem_map.2 ⟨_,cR default hi,rfl⟩
theorem sk {d:Nat}:∀{xs:List Int} {l l':List mF},jR lead first k l→k<l.length→d=(l.getD k default).dep→(∀x∈xs,x∈lead (l.getD k default).at_)→GL first k d xs l=some l'→
 jR lead first k l'∧l<+:l'∧∀x∈xs,x≠first∧x∈gz l'
 |[],l,l',h,hk,hd,hx,he=>by rw[GL] at he;cases he;exact⟨h,List.prefix_refl _,fun x hx=>by cases hx⟩
 |x::r,l,l',h,hk,hd,hx,he=>by
  rw[GL] at he
  split at he
  ·cases he
  ·rename_i hf
   have hxr:=fun y hy=>hx y (List.mem_cons_of_mem _ hy)
   by_cases hm:x∈gz l
   ·rw[if_pos hm] at he
    obtain⟨h1,h2,h3⟩:=sk h hk hd hxr he
    refine⟨h1,h2,fun y hy=> ?_⟩
    rcases List.mem_cons.1 hy with rfl|hy
    ·refine⟨hf, ?_⟩
     obtain⟨i,hi,e⟩:=mZ.1 hm
     exact mZ.2 ⟨i,Nat.lt_of_lt_of_le hi h2.length_le,by rw[jj h2 hi];exact e⟩
    ·exact h3 y hy
   ·rw[if_neg hm,hd] at he
    have ha:=h.add hk (hx x (by simp)) hf hm
    have hpre:l<+:l++[⟨x,k,(l.getD k default).dep+1⟩]:=List.prefix_append _ _
    have hkk:k<(l++[(⟨x,k,(l.getD k default).dep+1⟩:mF)]).length:=by simp;omega
    have hgk:=jj (d:=default) hpre hk
    obtain⟨h1,h2,h3⟩:=sk ha hkk (by rw[hgk]) (by rw[hgk];exact hxr) he
    refine⟨h1,hpre.trans h2,fun y hy=> ?_⟩
    rcases List.mem_cons.1 hy with rfl|hy
    ·refine⟨hf,mZ.2 ⟨l.length,Nat.lt_of_lt_of_le (by simp) h2.length_le, ?_⟩⟩
     rw[jj h2 (by simp),fB]
    ·exact h3 y hy
theorem zt {d:Nat}:∀{xs:List Int} {l:List mF},GL first k d xs l=none↔first∈xs
 |[],l=>by simp[GL]
 |x::r,l=>by
  rw[GL]
  by_cases e:x=first
  ·rw[if_pos e];simp[e]
  ·rw[if_neg e,zt,List.mem_cons]
   exact⟨fun h=> .inr h,fun h=>h.resolve_left fun e2=>e e2.symm⟩
theorem GN {l l':List mF} (h:l<+:l'):∀(f:Nat) (k:Int),k<l.length→(∀i,i<l.length→(l.getD i default).from_<l.length)→tA l' f k=tA l f k
 |0,_,_,_=>rfl
 |f+1,k,hk,hf=>by
  rw[tA,tA]
  split
  ·rfl
  ·rw[jj h (by omega),GN h f _ (hf _ (by omega)) hf]
theorem zw (h:jR lead first k l):∀(i:Nat),i<l.length→∀f,i<f→tA l f i=tA l (i+1) i:=by
 intro i
 induction i using Nat.strongRecOn with
 |_ i ih=>
  intro hi f hf
  obtain⟨f,rfl⟩:∃g,f=g+1:=⟨f - 1,by omega⟩
  rw[tA,tA,if_neg (by omega),if_neg (by omega),Int.toNat_natCast]
  by_cases h0:i=0
  ·subst h0
   rw[h.zero]
   dsimp only
   have e:∀g,tA l g (-1)=[]:=fun g=>by cases g<;>rw[tA];rw[if_pos (by omega)]
   rw[e,e]
  ·obtain⟨p,h1,h2,h3,_,_⟩:=h.par i (by omega) hi
   rw[h3,ih p h1 (by omega) f (by omega),ih p h1 (by omega) i (by omega)]
theorem J8 (h:jR lead first k l):pL l 0=[first]:=by
 unfold pL
 rw[tA,if_neg (by omega),show((0:Nat):Int).toNat=0 from rfl,h.zero]
 dsimp only
 rw[tA];rfl
theorem J7 (h:jR lead first k l) {i p:Nat} (hi:i<l.length) (hp:p<i) (hf:(l.getD i default).from_=(p:Nat)):pL l i=pL l p++[(l.getD i default).at_]:=by
 unfold pL
 rw[tA,if_neg (by omega),Int.toNat_natCast,hf,zw h p (by omega) i hp,List.reverse_cons]
structure WW (lead:Int→List Int) (first x:Int) (d:Nat) (l:List mF) (i:Nat) (w:List Int):Prop where
 len:w.length=d+1
 zero:w.getD 0 0=first
 last:w.getD d 0=x
 on:∀j,j<d→w.getD (j+1) 0∈lead (w.getD j 0)
 from_:∀y∈w,∃q,q≤i∧(l.getD q default).at_=y
 nd:w.Nodup
theorem PC (h:jR lead first k l):∀(i:Nat),i<l.length→WW lead first (l.getD i default).at_ (l.getD i default).dep l i (pL l i):=by
 intro i
 induction i using Nat.strongRecOn with
 |_ i ih=>
  intro hi
  by_cases h0:i=0
  ·subst h0
   rw[J8 h,h.zero]
   exact⟨rfl,rfl,rfl,fun j hj=>by simp at hj,fun y hy=>⟨0,Nat.le_refl _,by
    simp only[List.mem_cons,List.not_mem_nil,or_false] at hy
    rw[h.zero,hy]⟩,by simp⟩
  ·obtain⟨p,h1,h2,h3,h4,h5⟩:=h.par i (by omega) hi
   have hw:=ih p h1 (by omega)
   rw[J7 h hi h1 h3,h5]
   generalize pL l p=w at *
   have hl:=hw.len
   refine⟨by simp[hl],by rw[eW _ (by omega)];exact hw.zero,by rw[←hl,fB],fun j hj=> ?_,fun y hy=> ?_,List.nodup_append.2 ⟨hw.nd,by simp,fun a ha b hb=> ?_⟩⟩
   ·by_cases e:j=(l.getD p default).dep
    ·rw[e,←hl,fB,eW _ (by omega),hw.last];exact h4
    ·rw[eW _ (by omega),eW _ (by omega)];exact hw.on j (by omega)
   ·rcases List.mem_append.1 hy with hy|hy
    ·obtain⟨q,q1,q2⟩:=hw.from_ y hy
     exact⟨q,by omega,q2⟩
    ·simp only[List.mem_cons,List.not_mem_nil,or_false] at hy
     exact⟨i,Nat.le_refl _,hy.symm⟩
   ·simp only[List.mem_cons,List.not_mem_nil,or_false] at hb
    subst hb
    obtain⟨q,q1,q2⟩:=hw.from_ a ha
    intro e
    rw[←q2] at e
    have e1:∀i,i<l.length→(gz l).getD i 0=(l.getD i default).at_:=fun i hi=>by simp[List.getD,hi]
    have:=zV h.nd (i:=q) (j:=i) (by simp;omega) (by simpa using hi) (by rw[e1 q (by omega),e1 i hi];exact e)
    omega
def TE (lead:Int→List Int) (first:Int) (l:List mF) (k:Nat):Prop:=∀j,j<k→j<l.length→∀x∈lead (l.getD j default).at_,x≠first∧∃i,i<l.length∧(l.getD i default).at_=x∧(l.getD i default).dep≤(l.getD j default).dep+1
theorem s9 {c:List Int} (h:jR lead first k l) (hd:TE lead first l k) (hc:qa lead c) (h0:c.getD 0 0=first) (hlt:k<l.length→c.length≤(l.getD k default).dep):False:=by
 have hp:=hc.pos
 have key:∀i,i<c.length→∃q,q<l.length∧(l.getD q default).at_=c.getD i 0∧(l.getD q default).dep≤i:=by
  intro i
  induction i with
  |zero=>intro _;exact⟨0,h.pos,by rw[h.zero,h0],by rw[h.zero];exact Nat.le_refl _⟩
  |succ i ih=>
   intro hi
   obtain⟨q,q1,q2,q3⟩:=ih (by omega)
   have hqk:q<k:=by
    rcases Nat.lt_or_ge q k with h2|h2
    ·exact h2
    ·have:=hlt (by omega)
     have:=h.mono k q h2 q1
     omega
   have hon:=hc.on i (by omega)
   rw[Nat.mod_eq_of_lt hi,←q2] at hon
   obtain⟨_,q',g1,g2,g3⟩:=hd q hqk q1 _ hon
   exact⟨q',g1,g2,by omega⟩
 obtain⟨q,q1,q2,q3⟩:=key (c.length - 1) (by omega)
 have hqk:q<k:=by
  rcases Nat.lt_or_ge q k with h2|h2
  ·exact h2
  ·have:=hlt (by omega)
   have:=h.mono k q h2 q1
   omega
 have hon:=hc.on (c.length - 1) (by omega)
 rw[show c.length - 1+1=c.length by omega,Nat.mod_self,h0,←q2] at hon
 exact(hd q hqk q1 _ hon).1 rfl
theorem tg {n:Nat} (hin:∀x,∀y∈lead x,0≤y∧y<n) (hf0:0≤first∧first<n):∀(f k:Nat) (l:List mF),k+f=n+1→jR lead first k l→TE lead first l k→(∀x∈gz l,0≤x∧x<n)→
 (∀w,xA lead first f k l=some w→w.getD 0 0=first∧qa lead w∧w.Nodup∧(∀x∈w,0≤x∧x<n)∧∀c,qa lead c→c.getD 0 0=first→w.length≤c.length)∧
 (xA lead first f k l=none→∀c,qa lead c→c.getD 0 0≠first)
 |0,k,l,he,h,hd,hr=>by
  have:=gB n _ h.nd hr
  rw[List.length_map] at this
  rw[xA]
  exact⟨(fun w hw=>by cases hw),fun _ c hc h0=>s9 h hd hc h0 fun hk=>by omega⟩
 |f+1,k,l,he,h,hd,hr=>by
  rw[xA]
  by_cases hk:k<l.length
  ·rw[if_pos hk]
   cases ht:GL first k (l.getD k default).dep (lead (l.getD k default).at_) l with
   |none=>
    dsimp only
    have hm:=zt.1 ht
    have hw:=PC h k hk
    generalize pL l k=w at *
    refine⟨fun w' hw'=> ?_,fun hn=>by cases hn⟩
    cases hw'
    have hl:=hw.len
    refine⟨hw.zero,⟨by omega,fun i hi=> ?_⟩,hw.nd,fun x hx=> ?_,fun c hc h0=> ?_⟩
    ·by_cases e:i+1=w.length
     ·rw[e,Nat.mod_self,hw.zero,show i=(l.getD k default).dep by omega,hw.last];exact hm
     ·rw[Nat.mod_eq_of_lt (by omega)];exact hw.on i (by omega)
    ·obtain⟨q,q1,q2⟩:=hw.from_ x hx
     exact hr x (mZ.2 ⟨q,by omega,q2⟩)
    ·apply Nat.le_of_not_lt
     intro hlt
     exact s9 h hd hc h0 fun _=>by omega
   |some l'=>
    dsimp only
    obtain⟨h1,h2,h3⟩:=sk h hk rfl (fun x hx=>hx) ht
    have hk':k<l'.length:=Nat.lt_of_lt_of_le hk h2.length_le
    refine tg hin hf0 f (k+1) l' (by omega) h1.on (fun j hj hjl x hx=> ?_) fun x hx=> ?_
    ·by_cases e:j=k
     ·subst e
      rw[jj h2 hk] at hx ⊢
      obtain⟨g1,g2⟩:=h3 x hx
      obtain⟨i,hi,g3⟩:=mZ.1 g2
      refine⟨g1,i,hi,g3, ?_⟩
      have:=h1.top hk' hi
      rw[jj h2 hk] at this
      exact this
     ·rw[jj h2 (show j<l.length by omega)] at hx ⊢
      obtain⟨g1,i,hi,g2,g3⟩:=hd j (by omega) (by omega) x hx
      exact⟨g1,i,Nat.lt_of_lt_of_le hi h2.length_le,by rw[jj h2 hi];exact g2,by rw[jj h2 hi];exact g3⟩
    ·obtain⟨i,hi,e⟩:=mZ.1 hx
     by_cases h0:i=0
     ·subst h0;rw[h1.zero] at e;rw[←e];exact hf0
     ·obtain⟨p,_,_,_,g4,_⟩:=h1.par i (by omega) hi
      rw[e] at g4
      exact hin _ _ g4
  ·rw[if_neg hk]
   exact⟨(fun w hw=>by cases hw),fun _ c hc h0=>s9 h hd hc h0 fun hk2=>by omega⟩
end
theorem lU {lead:Int→List Int} {n:Nat} {first:Int} (hin:∀x,∀y∈lead x,0≤y∧y<n) (hf0:0≤first∧first<n):
 (∀w,pX lead n first=some w→w.getD 0 0=first∧qa lead w∧w.Nodup∧(∀x∈w,0≤x∧x<n)∧∀c,qa lead c→c.getD 0 0=first→w.length≤c.length)∧
 (pX lead n first=none→∀c,qa lead c→c.getD 0 0≠first):=
 tg hin hf0 (n+1) 0 _ (by omega) (.start lead first) (fun j hj=>by omega) fun x hx=>by
  simp only[gz,List.map_cons,List.map_nil,List.mem_cons,List.not_mem_nil,or_false] at hx
  rw[hx];exact hf0
def jB (lead:Int→List Int) (n:Nat):Nat→Option (List Int)
 |0=>none
 |k+1=>match pX lead n (k:Int),jB lead n k with
  |none,b=>b
  |some l,none=>some l
  |some l,some b=>if l.length<b.length then some l else some b
theorem tf {lead:Int→List Int} {n:Nat}:∀{k:Nat},jB lead n k=none→∀f:Nat,f<k→pX lead n (f:Int)=none
 |0,_,f,h=>by omega
 |k+1,he,f,h=>by
  rw[jB] at he
  split at he
  ·rename_i e
   by_cases hf:f=k
   ·subst hf;exact e
   ·exact tf he f (by omega)
  ·cases he
  ·split at he<;>cases he
theorem jx {lead:Int→List Int} {n:Nat}:∀{k:Nat} {b:List Int},jB lead n k=some b→∃f:Nat,f<k∧pX lead n (f:Int)=some b∧∀g:Nat,g<k→∀l,pX lead n (g:Int)=some l→b.length≤l.length∧(b.length=l.length→f≤g)
 |0,b,he=>by cases he
 |k+1,b,he=>by
  rw[jB] at he
  split at he
  ·rename_i e
   obtain⟨f,h1,h2,h3⟩:=jx he
   refine⟨f,by omega,h2,fun g hg l hl=> ?_⟩
   by_cases hgk:g=k
   ·subst hgk;rw[e] at hl;cases hl
   ·exact h3 g (by omega) l hl
  ·rename_i l0 e e2
   cases he
   refine⟨k,by omega,e,fun g hg l hl=> ?_⟩
   by_cases hgk:g=k
   ·subst hgk;rw[e] at hl;cases hl;exact⟨Nat.le_refl _,fun _=>Nat.le_refl _⟩
   ·rw[tf e2 g (by omega)] at hl;cases hl
  ·rename_i l0 b0 e e2
   obtain⟨f,h1,h2,h3⟩:=jx e2
   split at he
   ·rename_i hlt
    cases he
    refine⟨k,by omega,e,fun g hg l hl=> ?_⟩
    by_cases hgk:g=k
    ·subst hgk;rw[e] at hl;cases hl;exact⟨Nat.le_refl _,fun _=>Nat.le_refl _⟩
    ·have:=h3 g (by omega) l hl
     exact⟨by omega,fun _=>by omega⟩
   ·rename_i hlt
    cases he
    refine⟨f,by omega,h2,fun g hg l hl=> ?_⟩
    by_cases hgk:g=k
    ·subst hgk;rw[e] at hl;cases hl;exact⟨by omega,fun _=>by omega⟩
    ·exact h3 g (by omega) l hl
theorem qa.gh {lead:Int→List Int} {c:List Int} (h:qa lead c) {i:Nat} (hi:i<c.length):∃d,qa lead d∧d.getD 0 0=c.getD i 0∧d.length=c.length:=by
 have hp:=h.pos
 refine⟨(List.range c.length).map fun j=>c.getD ((i+j)%c.length) 0,⟨by simpa using hp,fun j hj=> ?_⟩, ?_,by simp⟩
 ·rw[List.length_map,List.length_range] at hj ⊢
  have gd:∀q,q<c.length→((List.range c.length).map fun j=>c.getD ((i+j)%c.length) 0).getD q 0=c.getD ((i+q)%c.length) 0:=fun q hq=>by simp[List.getD,hq]
  rw[gd j hj,gd _ (Nat.mod_lt _ hp)]
  have:=h.on ((i+j)%c.length) (Nat.mod_lt _ hp)
  have e:(i+(j+1)%c.length)%c.length=((i+j)%c.length+1)%c.length:=by
   rw[Nat.add_mod,Nat.mod_mod,←Nat.add_mod,Nat.mod_add_mod];rfl
  rw[e]
  exact this
 ·simp[List.getD,hp,Nat.mod_eq_of_lt hi]
end Go.Proofs.YtjopoheligmmoaaGreatDoor
end
section
/- The library's count of trailing zeros at this program, as a tool of the kit laid it in plain words. -/
namespace Go.Proofs
open Go.Shelf
def Tryz.BU:Go.Shelf.Ren:=⟨fun|28=>123|n=>n,fun|27=>132|3=>3|4=>4|25=>142|53=>229|0=>0|5=>5|n=>n,fun|0=>0|n=>n⟩
theorem Tryz.VD:Go.Proofs.Lays7.n28 Tryz.prog Tryz.BU:={
 mixed:=by kernel_rfl
 f28:=Tryz.func123.trans (congrArg some (by kernel_rfl))
 t0:=Tryz.underlying0
 a0:=Tryz.isAgg0
 z0:=Tryz.sizeOf0
 v0:=Tryz.zeroValue0
 i0:=by kernel_rfl
 t3:=Tryz.underlying3
 a3:=Tryz.isAgg3
 z3:=Tryz.sizeOf3
 v3:=Tryz.zeroValue3
 i3:=by kernel_rfl
 t4:=Tryz.underlying4
 a4:=Tryz.isAgg4
 z4:=Tryz.sizeOf4
 v4:=Tryz.zeroValue4
 i4:=by kernel_rfl
 t5:=Tryz.underlying5
 a5:=Tryz.isAgg5
 z5:=Tryz.sizeOf5
 v5:=Tryz.zeroValue5
 i5:=by kernel_rfl
 t25:=Tryz.underlying142
 a25:=Tryz.isAgg142
 z25:=Tryz.sizeOf142
 v25:=Tryz.zeroValue142
 i25:=by kernel_rfl
 t27:=Tryz.underlying132
 a27:=Tryz.isAgg132
 z27:=Tryz.sizeOf132
 v27:=Tryz.zeroValue132
 i27:=by kernel_rfl
 t53:=Tryz.underlying229
 a53:=Tryz.isAgg229
 z53:=Tryz.sizeOf229
 v53:=Tryz.zeroValue229
 i53:=by kernel_rfl
 g0:=by kernel_rfl }
open Go.RowKit Go.Lib in
theorem Tryz.ZG (x:Nat) (hx:x<4294967296) (w:World) (hT:x≠0→TabAt 0 Lib.deBruijn32tab w):
 Calls Tryz.prog 123 #[.int .u32 x] w fun e w'=>e= .returned (.int .i64 (Lib.ctz 32 x))∧w'=w:=Any7.bits_TrailingZeros32 Tryz.VD x hx w hT
end Go.Proofs
end
section
/- Locks as bits: the library's count of zeros, the lists of bits. -/
namespace Go.Proofs.YtjopoheligmmoaaGreatDoor
open Go Go.cY Go.Proofs
set_option linter.unusedSimpArgs false
set_option linter.unusedVariables false
abbrev u32 (n:Nat):AV:= .sc (.int .u32 (n:Int))
theorem TB (x:Nat) (hx:x<4294967296):Pure Tryz.prog 123 [u32 x] (fun r=>r=i64 (ctz x)):=by
 refine⟨⟨_,Tryz.func123,by kernel_rfl,by kernel_rfl⟩,fun M w vs hM hv=> ?_⟩
 rw[cd] at hv
 obtain⟨v,vs',rfl,h1,h2⟩:=hv
 rw[VR] at h1
 rw[cd] at h2
 subst h1
 subst h2
 refine(Tryz.ZG x hx w fun _=>(hM.X2 (0,_) (by unfold VY;exact List.mem_singleton_self _)).2.2).mono ?_
 rintro e w' ⟨rfl,rfl⟩
 exact⟨_,_,rfl,rfl,by simp[cL],by rw[VR], .refl _ _⟩
theorem wrap32 {n:Int} (h1:0≤n) (h2:n<4294967296):IntKind.u32.wrap n=n:=by rw[wrap_u32'];omega
theorem WZ {a b:Nat} (ha:a<4294967296) (hb:b<4294967296):IntKind.u32.wrap (BitVec.ofInt IntKind.u32.bits (a:Int)&&& BitVec.ofInt IntKind.u32.bits (b:Int)).toNat=((a&&& b:Nat):Int):=bits_and_u32_nat a b ha hb
theorem Y9 {a b:Nat} (ha:a<4294967296) (hb:b<4294967296):IntKind.u32.wrap (BitVec.ofInt IntKind.u32.bits (a:Int)|||BitVec.ofInt IntKind.u32.bits (b:Int)).toNat=((a|||b:Nat):Int):=by
 have hx:a|||b<2^32:=Nat.or_lt_two_pow (by omega) (by omega)
 have h1:(BitVec.ofInt IntKind.u32.bits (a:Int)).toNat=a:=by
  show(BitVec.ofInt 32 (a:Int)).toNat=a
  rw[BitVec.ofInt_natCast,BitVec.toNat_ofNat];exact Nat.mod_eq_of_lt (by omega)
 have h2:(BitVec.ofInt IntKind.u32.bits (b:Int)).toNat=b:=by
  show(BitVec.ofInt 32 (b:Int)).toNat=b
  rw[BitVec.ofInt_natCast,BitVec.toNat_ofNat];exact Nat.mod_eq_of_lt (by omega)
 rw[BitVec.toNat_or,h1,h2,wrap32 (by omega) (by omega)]
theorem VK {x:Nat} (h0:x≠0) (hx:x<4294967296):IntKind.u32.wrap ((x:Int) - 1)=((x - 1:Nat):Int):=by
 rw[wrap32 (by omega) (by omega)];omega
theorem IZ (x:Nat) (hx:x<65536):cJ Tryz.prog 75 [u32 x] [] 0 (fun r H n=>∃b d,r= .sl b (bits x).length∧bt H b=some (.row 3 1 d ((bits x).map i64))):=by
 refine aM NS rfl ?_
 repeat' (first|((with_reducible refine aF ?_);conv=>whnf)|refine aG ?_|exact aC|with_reducible refine aD ?_ ?_|(apply aB;(·exact cO))|refine aH ?_|((with_reducible refine aA ?_ ?_)<;>intro hc<;>(try simp only[List.length_map,ne_eq,dY] at hc)<;>try(exfalso;omega)))
 refine aU (fun s:Nat×List Int=>[(0,u32 s.1),(3, .sl 2 s.2.length)])
  (fun s H n=>3≤n∧s.1≤x∧s.2++bits s.1=bits x∧s.2.length+s.1≤x∧∃d,bt H 2=some (.row 3 1 d (s.2.map i64)))
  (fun s=>s.1) (x,[]) ⟨_,_,_,Rt.nil 3 3 1 (by omega) rfl,cG,c8,Nat.le_refl _,rfl,by simp,⟨_,bw⟩⟩ ?_
 rintro⟨y,l⟩ H n ⟨hn,hy,hb,hlen,⟨d,r2⟩⟩
 dsimp only at hy hb hlen r2 ⊢
 by_cases h0:y=0
 ·subst h0
  repeat' (first|((with_reducible refine aF ?_);conv=>whnf)|refine aG ?_|exact aC|with_reducible refine aD ?_ ?_|(apply aB;(·exact cO))|refine aH ?_|((with_reducible refine aA ?_ ?_)<;>intro hc<;>(try simp only[List.length_map,ne_eq,dY] at hc)<;>try(exfalso;omega)))
  rw[show bits 0=[] from rfl,List.append_nil] at hb
  rw[←hb]
  exact⟨⟨2,d,rfl,bw⟩⟩
 ·rw[pY h0] at hb
  have hp:=pred_lt h0
  have e1:=VK h0 (show y<4294967296 by omega)
  have e2:=WZ (show y<4294967296 by omega) (show y - 1<4294967296 by omega)
  have ht:=TB y (by omega)
  repeat' (first|((with_reducible refine aF ?_);conv=>whnf)|refine aG ?_|exact aC|with_reducible refine aD ?_ ?_|(apply aB;(·exact cO))|refine aK (ht) ?_|(simp only[e1])|(simp only[e2])|refine aH ?_|((with_reducible refine aA ?_ ?_)<;>intro hc<;>(try simp only[List.length_map,ne_eq,dY] at hc)<;>try(exfalso;omega)))
  exact⟨(y&&& (y - 1),l++[(ctz y:Int)]),hp,_,_,_,Rt.refl _ _ _,cG,c8,by dsimp only;omega,by dsimp only;rw[←hb];simp,by dsimp only;simp only[List.length_append,List.length_cons,List.length_nil];omega,⟨_,by dsimp only;rw[←jF];exact bw⟩⟩
theorem I0 (x:Nat) (hx:x<65536):Pure Tryz.prog 75 [u32 x] (fun r=>r=fR (bits x)):=by
 refine dU ((IZ x hx).mono ?_) (by simp[fR,cL,cC])
 rintro r H n ⟨b,d,rfl,hb⟩
 rw[df hb (by simp),cy _ (LX _ _)];rfl
end Go.Proofs.YtjopoheligmmoaaGreatDoor
end
