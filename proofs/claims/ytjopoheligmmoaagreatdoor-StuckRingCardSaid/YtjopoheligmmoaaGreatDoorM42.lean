import Derived.Test.YtjopoheligmmoaaGreatDoorM41
import Derived.Test.YtjopoheligmmoaaGreatDoorM27
import Derived.Shelf.Spec.TrailingZeros
import Derived.Test.YtjopoheligmmoaaGreatDoorProg
import Derived.Test.YtjopoheligmmoaaGreatDoorM23
import Derived.Test.YtjopoheligmmoaaGreatDoorM26
section
/- Knots: plain. -/
namespace Go.Proofs.YtjopoheligmmoaaGreatDoor
open Go Go.cX Go.Proofs
set_option linter.unusedSimpArgs false
set_option linter.unusedVariables false
def fV (u:bt) (m:MS) (t:Int):Int:=if(m.node u t.toNat).kind=5 then m.hold.getD (m.node u t.toNat).cO.toNat 0 else -1
def nk (h:Int→Int) (first:Int):Nat→List Int→Int→Option (List Int)
 |0,out,t=>if t=first then some out else none
 |f+1,out,t=>if t=first then some out else if t<0∨t∈out then none else nk h first f (out++[t]) (h t)
def qB (h:Int→Int) (n:Nat) (first:Int):Option (List Int):=nk h first n [first] (h first)
def l8 (u:bt) (m:MS):Nat→Option (List Int)
 |0=>none
 |k+1=>match l8 u m k with
  |some l=>some l
  |none=>qB (fV u m) u.bw.length (k:Int)
def EF (u:bt) (m:MS):Option (List Int):=l8 u m u.bw.length
structure vE (h:Int→Int) (l:List Int):Prop where
 pos:0<l.length
 nd:l.Nodup
 on:∀i,i<l.length→h (l.getD i 0)=l.getD ((i+1)%l.length) 0
 nn:∀x∈l,0≤x
theorem eV {α:Type} {l r:List α} {i:Nat} (d:α) (h:i<l.length):(l++r).getD i d=l.getD i d:=by simp[List.getD,List.getElem?_append,h]
theorem fA {α:Type} {l:List α} {x d:α}:(l++[x]).getD l.length d=x:=by simp[List.getD]
theorem zR {l:List Int} (h:l.Nodup) {i j:Nat} (hi:i<l.length) (hj:j<l.length) (e:l.getD i 0=l.getD j 0):i=j:=by
 have h1:l.getD i 0=l[i]:=by simp[List.getD,hi]
 have h2:l.getD j 0=l[j]:=by simp[List.getD,hj]
 rw[h1,h2] at e
 exact(List.getElem_inj h).1 e
theorem gA:∀(n:Nat) (l:List Int),l.Nodup→(∀x∈l,0≤x∧x<n)→l.length≤n
 |0,[],_,_=>Nat.le_refl _
 |0,x::r,_,h=>by have:=h x (by simp);omega
 |n+1,l,hn,h=>by
  by_cases hm:(n:Int)∈l
  ·have h1:=gA n (l.erase n) (hn.erase _) fun x hx=>by
    have h2:=(hn.mem_erase_iff).1 hx
    have h3:=h x h2.2
    exact⟨h3.1,by have:=h2.1;omega⟩
   rw[List.length_erase_of_mem hm] at h1
   omega
  ·have:=gA n l hn fun x hx=>by
    have h3:=h x hx
    exact⟨h3.1,by
     have:x≠n:=fun e=>hm (e▸hx)
     omega⟩
   omega
structure kS (h:Int→Int) (first:Int) (out:List Int):Prop where
 pos:0<out.length
 zero:out.getD 0 0=first
 nd:out.Nodup
 on:∀i,i+1<out.length→h (out.getD i 0)=out.getD (i+1) 0
 nn:∀x∈out,0≤x
theorem kS.one {h:Int→Int} {first:Int} (h0:0≤first):kS h first [first]:=
 ⟨by simp,rfl,by simp,fun i hi=>by simp at hi,fun x hx=>by simp only[List.mem_cons,List.not_mem_nil,or_false] at hx;omega⟩
theorem kS.more {h:Int→Int} {first t:Int} {out:List Int} (g:kS h first out) (ht:t=h (out.getD (out.length - 1) 0)) (h0:0≤t) (hn:t∉out):kS h first (out++[t]):=by
 have hp:=g.pos
 refine⟨by simp,by rw[eV 0 hp];exact g.zero,List.nodup_append.2 ⟨g.nd,by simp,fun a ha b hb=>by
  simp only[List.mem_cons,List.not_mem_nil,or_false] at hb
  subst hb
  exact fun e=>hn (e▸ha)⟩,fun i hi=> ?_,fun x hx=> ?_⟩
 ·rw[List.length_append,List.length_cons,List.length_nil] at hi
  rw[eV 0 (by omega)]
  by_cases e:i+1=out.length
  ·rw[e,fA,ht];congr 2;omega
  ·rw[eV 0 (by omega)];exact g.on i (by omega)
 ·rcases List.mem_append.1 hx with hx|hx
  ·exact g.nn x hx
  ·simp only[List.mem_cons,List.not_mem_nil,or_false] at hx;omega
theorem kS.ring {h:Int→Int} {first:Int} {out:List Int} (g:kS h first out) (ht:h (out.getD (out.length - 1) 0)=first):vE h out:=by
 have hp:=g.pos
 refine⟨hp,g.nd,fun i hi=> ?_,g.nn⟩
 by_cases e:i+1=out.length
 ·rw[e,Nat.mod_self,g.zero,show i=out.length - 1 by omega];exact ht
 ·rw[Nat.mod_eq_of_lt (by omega)];exact g.on i (by omega)
theorem qY {h:Int→Int} {first:Int} {l:List Int}:∀(f:Nat) (out:List Int) (t:Int),kS h first out→t=h (out.getD (out.length - 1) 0)→nk h first f out t=some l→vE h l∧l.getD 0 0=first
 |0,out,t,g,ht,he=>by
  rw[nk] at he
  split at he
  ·rename_i e
   cases he
   exact⟨g.ring (by rw[←ht];exact e),g.zero⟩
  ·cases he
 |f+1,out,t,g,ht,he=>by
  rw[nk] at he
  split at he
  ·rename_i e
   cases he
   exact⟨g.ring (by rw[←ht];exact e),g.zero⟩
  ·split at he
   ·cases he
   ·rename_i e1 e2
    refine qY f (out++[t]) (h t) (g.more ht (by omega) fun e=>e2 (.inr e)) ?_ he
    rw[List.length_append,List.length_cons,List.length_nil,Nat.add_sub_cancel,fA]
theorem z7 {h:Int→Int} {n:Nat} {first:Int} {l:List Int} (h0:0≤first) (he:qB h n first=some l):vE h l∧l.getD 0 0=first:=qY _ _ _ (.one h0) rfl he
section
variable {u:bt} {m:MS}
theorem IB (hr:cY u) (h:eM u m) {t:Int} (ht:0≤t∧t<u.bw.length):-1≤fV u m t∧fV u m t<u.bw.length:=by
 have hno:=h.node hr (t:=t.toNat) (by omega)
 unfold fV
 split
 ·rename_i h5
  obtain⟨x0,x1⟩:=fi hno (.inl h5)
  exact h.hw _ (cQ 0 (by rw[h.hl];omega))
 ·omega
theorem B3 {l:List Int} {x:Int} (h:x∈l):∃i,i<l.length∧l.getD i 0=x:=by
 obtain⟨i,hi,e⟩:=List.getElem_of_mem h
 exact⟨i,hi,by simp[List.getD,hi,e]⟩
structure fw (u:bt) (m:MS) (l:List Int):Prop where
 ring:vE (fV u m) l
 Y4:∀i,i<l.length→0≤l.getD i 0∧l.getD i 0<u.bw.length
theorem fw.len {l:List Int} (h:fw u m l):l.length≤u.bw.length:=gA _ _ h.ring.nd fun x hx=>by
 obtain⟨i,hi,rfl⟩:=B3 hx
 exact h.Y4 i hi
theorem fw.waits {l:List Int} (h:fw u m l) {t:Int} (ht:t∈l):(m.node u t.toNat).kind=5∧m.hold.getD (m.node u t.toNat).cO.toNat 0∈l:=by
 obtain⟨i,hi,rfl⟩:=B3 ht
 have h1:=h.ring.on i hi
 have h2:l.getD ((i+1)%l.length) 0∈l:=cQ 0 (Nat.mod_lt _ h.ring.pos)
 have h3:=h.ring.nn _ h2
 unfold fV at h1
 split at h1
 ·rename_i h5
  exact⟨h5,h1▸h2⟩
 ·omega
theorem fw.lt {l:List Int} (h:fw u m l) {t:Int} (ht:t∈l):0≤t∧t<u.bw.length:=by
 obtain⟨i,hi,rfl⟩:=B3 ht
 exact h.Y4 i hi
theorem UF (h:eM u m) {t:Int} (ht:0≤t∧t<u.bw.length):m.mI u t=if(m.node u t.toNat).kind=9 then 70 else if(m.node u t.toNat).kind=5∧0≤m.hold.getD (m.node u t.toNat).cO.toNat 0 then 71 else 0:=by
 unfold MS.mI
 rw[if_neg (by have:=h.pV;omega)]
theorem fw.UG (h0:eM u m) {l:List Int} (h:fw u m l) {t:Int} (ht:t∈l):m.mI u t=71:=by
 obtain⟨h5,hh⟩:=h.waits ht
 have:=h.ring.nn _ hh
 rw[UF h0 (h.lt ht),if_neg (by omega),if_pos ⟨h5,this⟩]
theorem fw.step (hr:cY u) (h:w7 u m) {l:List Int} (hk:fw u m l) {s:Nat} (hs:s<u.bw.length) (hb:m.mI u s=0):fw u (m.step u s).1 l∧∀t∈l,(m.step u s).1.at_.getD t.toNat 0=m.at_.getD t.toNat 0:=by
 have hsl:(s:Int)∉l:=fun e=>by have:=hk.UG h.ok e;omega
 have hat:∀t∈l,(m.step u s).1.at_.getD t.toNat 0=m.at_.getD t.toNat 0:=fun t ht=>by
  show(m.at_.set s _).getD t.toNat 0=_
  have:=hk.lt ht
  exact getD_set_ne fun e=>hsl (by rw[e,Int.toNat_of_nonneg this.1];exact ht)
 have hnode:∀t∈l,(m.step u s).1.node u t.toNat=m.node u t.toNat:=fun t ht=>by unfold MS.node;rw[hat t ht]
 obtain⟨h9,hbar⟩:=jv h.ok hs hb
 have hno:=h.ok.node hr hs
 have hhold:∀t∈l,(m.step u s).1.hold.getD (m.node u t.toNat).cO.toNat 0=m.hold.getD (m.node u t.toNat).cO.toNat 0:=fun t ht=>by
  obtain⟨h5,hh⟩:=hk.waits ht
  have hlt:=hk.lt ht
  have hnt:=h.ok.node hr (t:=t.toNat) (by omega)
  obtain⟨x0,x1⟩:=fi hnt (.inl h5)
  generalize hx:(m.node u t.toNat).cO=x at *
  show((m.act s (m.node u s)).1.hold).getD x.toNat 0=_
  rw[wh]
  by_cases k5:(m.node u s).kind=5
  ·obtain⟨y0,y1⟩:=fi hno (.inl k5)
   rw[if_pos k5,kH h.ok ⟨y0,y1⟩ _ x0,if_neg]
   intro e
   rw[e] at hh
   exact hbar ⟨k5,hk.ring.nn _ hh⟩
  ·rw[if_neg k5]
   by_cases k6:(m.node u s).kind=6
   ·obtain⟨y0,y1⟩:=fi hno (.inr k6)
    rw[if_pos k6,kH h.ok ⟨y0,y1⟩ _ x0,if_neg]
    intro e
    rw[e] at hh
    obtain⟨now,n1,_⟩:=(vw (hr.gr hs)).on _ (h.inv.p6 s hs)
    change dj (m.node u s) _=_ at n1
    unfold dj at n1
    rw[if_neg k5,if_pos k6] at n1
    split at n1
    ·rename_i hc
     obtain⟨ys,hy⟩:=List.getLast?_eq_some_iff.1 hc.2
     have:=(h.inv.own s hs _ y0 y1).2 (by rw[hy];simp)
     rw[this] at hh
     exact hsl hh
    ·cases n1
   ·rw[if_neg k6]
 refine⟨⟨⟨hk.ring.pos,hk.ring.nd,fun i hi=> ?_,hk.ring.nn⟩,hk.Y4⟩,hat⟩
 have hm:=cQ (0:Int) hi
 rw[←hk.ring.on i hi]
 unfold fV
 rw[hnode _ hm]
 split
 ·exact hhold _ hm
 ·rfl
theorem fw.OF (hu:u.Wf) (hr:cY u) {l:List Int}:∀(w:List Int) {m:MS},w7 u m→fw u m l→fw u (iF u m w) l∧∀t∈l,(iF u m w).at_.getD t.toNat 0=m.at_.getD t.toNat 0
 |[],m,_,hk=>⟨hk,fun _ _=>rfl⟩
 |t::r,m,h,hk=>by
  rw[iF]
  have h1:=h.one hu hr t
  by_cases hb:m.mI u t=0
  ·rw[if_pos hb] at h1 ⊢
   obtain⟨k,rfl,hkl⟩:=AN h.ok hb
   rw[Int.toNat_natCast] at h1 ⊢
   obtain⟨g1,g2⟩:=hk.step hr h hkl hb
   obtain⟨g3,g4⟩:=fw.OF hu hr r h1 g1
   exact⟨g3,fun s hs=>(g4 s hs).trans (g2 s hs)⟩
  ·rw[if_neg hb] at h1 ⊢
   exact fw.OF hu hr r h1 hk
end
end Go.Proofs.YtjopoheligmmoaaGreatDoor
end
section
/- Edges: plain. -/
namespace Go.Proofs.YtjopoheligmmoaaGreatDoor
open Go Go.cX Go.Proofs
set_option linter.unusedSimpArgs false
set_option linter.unusedVariables false
theorem sS:∀(x:Nat),x<4294967296→∀k:Int,k∈bits x↔0≤k∧x.testBit k.toNat=true:=by
 intro x
 induction x using Nat.strongRecOn with
 |_ x ih=>
  intro hx k
  by_cases h0:x=0
  ·subst h0
   rw[show bits 0=[] from rfl,Nat.zero_testBit]
   simp
  ·rw[pX h0]
   obtain⟨h1,h2,h3⟩:=QC h0 hx
   have hp:=pred_lt h0
   rw[List.mem_cons,ih _ hp (by omega),zZ h0 hx]
   constructor
   ·rintro(rfl|⟨g1,g2⟩)
    ·exact⟨by omega,by rw[Int.toNat_natCast];exact h1⟩
    ·rw[Bool.and_eq_true] at g2
     exact⟨g1,g2.1⟩
   ·rintro⟨g1,g2⟩
    by_cases e:k.toNat=ctz x
    ·exact .inl (by omega)
    ·exact .inr ⟨g1,by rw[Bool.and_eq_true];exact⟨g2,decide_eq_true e⟩⟩
def qU (g:cD) (i:Nat):List Int:=bits (hb (N2 g i))
theorem B1 {u:bt} {g:cD} (hk:eI u g) (hl:u.cC.length≤16) (i:Nat):hb (N2 g i)<65536:=TO (m:=16) fun k hx=>by have:=vv hk i k hx;omega
theorem R4 {u:bt} {g:cD} (hk:eI u g) (hl:u.cC.length≤16) (i:Nat) (x:Int):x∈qU g i↔x∈N2 g i:=by
 unfold qU
 rw[sS _ (by have:=B1 hk hl i;omega),MO,List.any_eq_true]
 constructor
 ·rintro⟨h0,y,hy,e⟩
  have:=vv hk i y hy
  have e2:=of_decide_eq_true e
  rw[show x=y by omega];exact hy
 ·intro h
  have:=vv hk i x h
  exact⟨this.1,x,h,decide_eq_true rfl⟩
structure dz where
 held:Int
 taken:Int
 dZ:Int
 node:Int
 deriving Inhabited,DecidableEq
def dz.cells (e:dz):List AV:=[i64 e.held,i64 e.taken,i64 e.dZ,i64 e.node]
abbrev dz.av (e:dz):AV:= .agg e.cells
abbrev mK (l:List dz):AV:= .im 4 .any (l.map dz.av)
@[simp] theorem LS (n:Nat) (e:dz):cW n e.cells:=by simp[dz.cells,cW,cK]
theorem uI (l:List dz):cW 0 (l.map dz.av):=(cB _ _).2 fun _ _=>by simp only[dz.av,cK];exact LS _ _
def lY (g:cD) (t i:Nat):List dz:=if(g.nd i).kind=5 then(qU g i).map fun h=>⟨h,(g.nd i).cO,t,i⟩ else[]
def iL (g:cD) (t:Nat):Nat→List dz
 |0=>[]
 |i+1=>iL g t i++lY g t i
def gR (u:bt):Nat→List dz
 |0=>[]
 |t+1=>gR u t++iL (u.gr t) t (u.gr t).nodes.length
def dG (u:bt):List dz:=gR u u.bw.length
theorem nQ {g:cD} {t:Nat} {e:dz}:∀{m:Nat},e∈iL g t m↔∃i,i<m∧e∈lY g t i
 |0=>by simp[iL]
 |m+1=>by
  rw[iL,List.mem_append,nQ]
  constructor
  ·rintro(⟨i,h1,h2⟩|h)
   ·exact⟨i,by omega,h2⟩
   ·exact⟨m,by omega,h⟩
  ·rintro⟨i,h1,h2⟩
   by_cases e:i=m
   ·subst e;exact .inr h2
   ·exact .inl ⟨i,by omega,h2⟩
theorem rb {u:bt} {e:dz}:∀{m:Nat},e∈gR u m↔∃t,t<m∧e∈iL (u.gr t) t (u.gr t).nodes.length
 |0=>by simp[gR]
 |m+1=>by
  rw[gR,List.mem_append,rb]
  constructor
  ·rintro(⟨i,h1,h2⟩|h)
   ·exact⟨i,by omega,h2⟩
   ·exact⟨m,by omega,h⟩
  ·rintro⟨i,h1,h2⟩
   by_cases e:i=m
   ·subst e;exact .inr h2
   ·exact .inl ⟨i,by omega,h2⟩
theorem G9 {u:bt} {e:dz}:e∈dG u↔∃t i,t<u.bw.length∧i<(u.gr t).nodes.length∧((u.gr t).nd i).kind=5∧e.held∈qU (u.gr t) i∧e.taken=((u.gr t).nd i).cO∧e.dZ=t∧e.node=i:=by
 unfold dG
 rw[rb]
 constructor
 ·rintro⟨t,ht,h⟩
  obtain⟨i,hi,h⟩:=nQ.1 h
  unfold lY at h
  split at h
  ·rename_i h5
   obtain⟨x,hx,rfl⟩:=List.mem_map.1 h
   exact⟨t,i,ht,hi,h5,hx,rfl,rfl,rfl⟩
  ·cases h
 ·rintro⟨t,i,ht,hi,h5,hx,h1,h2,h3⟩
  refine⟨t,ht,nQ.2 ⟨i,hi, ?_⟩⟩
  unfold lY
  rw[if_pos h5]
  exact List.mem_map.2 ⟨e.held,hx,by cases e;simp_all⟩
theorem re {u:bt} (hr:cY u) {e:dz} (h:e∈dG u):(0≤e.held∧e.held<u.cC.length)∧0≤e.taken∧e.taken<u.cC.length:=by
 obtain⟨t,i,ht,hi,h5,hx,h1,h2,h3⟩:=G9.1 h
 rw[R4 (hr.gr ht) hr.qN.2.1] at hx
 rw[h1]
 exact⟨vv (hr.gr ht) i _ hx,fi ((hr.gr ht).node hi) (.inl h5)⟩
theorem AP:∀(x:Nat),x<4294967296→(bits x).Nodup:=by
 intro x
 induction x using Nat.strongRecOn with
 |_ x ih=>
  intro hx
  by_cases h0:x=0
  ·subst h0;exact List.nodup_nil
  ·have hp:=pred_lt h0
   rw[pX h0,List.nodup_cons]
   refine⟨fun h=> ?_,ih _ hp (by omega)⟩
   have:=((sS _ (by omega) _).1 h).2
   rw[zZ h0 hx,Bool.and_eq_true] at this
   exact of_decide_eq_true this.2 (by rw[Int.toNat_natCast])
theorem PY {x:Nat} (hx:x<65536):(bits x).length≤16:=gA 16 _ (AP x (by omega)) fun k hk=>by
 obtain⟨h1,h2⟩:=(sS _ (by omega) _).1 hk
 refine⟨h1, ?_⟩
 by_cases h:k.toNat<16
 ·omega
 ·have h3:16≤k.toNat:=by omega
  have h4:2^16≤2^k.toNat:=Nat.pow_le_pow_right (by decide) h3
  have:=Nat.testBit_lt_two_pow (x:=x) (i:=k.toNat) (by omega)
  rw[this] at h2;cases h2
theorem MR {u:bt} {g:cD} (hk:eI u g) (hl:u.cC.length≤16) (i:Nat):(qU g i).length≤16:=PY (B1 hk hl i)
theorem G8 {u:bt} {g:cD} (hk:eI u g) (hl:u.cC.length≤16) (t i:Nat):(lY g t i).length≤16:=by
 unfold lY
 split
 ·rw[List.length_map];exact MR hk hl i
 ·exact Nat.zero_le _
theorem p7 {u:bt} {g:cD} (hk:eI u g) (hl:u.cC.length≤16) (t:Nat):∀m,(iL g t m).length≤16 * m
 |0=>Nat.le_refl _
 |m+1=>by
  rw[iL,List.length_append]
  have:=p7 hk hl t m
  have:=G8 hk hl t m
  omega
theorem mL {u:bt} (hr:cY u):∀{m:Nat},m≤u.bw.length→(gR u m).length≤65536 * m
 |0,_=>Nat.le_refl _
 |m+1,h=>by
  rw[gR,List.length_append]
  have h1:=mL hr (m:=m) (by omega)
  have h2:=p7 (hr.gr (t:=m) (by omega)) hr.qN.2.1 m (u.gr m).nodes.length
  have h3:=(hr.gr (t:=m) (by omega)).len.2
  omega
end Go.Proofs.YtjopoheligmmoaaGreatDoor
end
section
/- The shortest ring through a lock: plain. -/
namespace Go.Proofs.YtjopoheligmmoaaGreatDoor
open Go Go.cX Go.Proofs
set_option linter.unusedSimpArgs false
set_option linter.unusedVariables false
structure mE where
 at_:Int
 from_:Int
 dep:Nat
 deriving Inhabited,DecidableEq
abbrev gy (l:List mE):List Int:=l.map mE.at_
def GK (first:Int) (k d:Nat):List Int→List mE→Option (List mE)
 |[],l=>some l
 |x::r,l=>if x=first then none else GK first k d r (if x∈gy l then l else l++[⟨x,k,d+1⟩])
def sy (l:List mE):Nat→Int→List Int
 |0,_=>[]
 |f+1,k=>if k<0 then[] else(l.getD k.toNat default).at_::sy l f (l.getD k.toNat default).from_
def pK (l:List mE) (k:Nat):List Int:=(sy l (k+1) k).reverse
def wz (lead:Int→List Int) (first:Int):Nat→Nat→List mE→Option (List Int)
 |0,_,_=>none
 |f+1,k,l=>if k<l.length then(match GK first k (l.getD k default).dep (lead (l.getD k default).at_) l with
  |none=>some (pK l k)
  |some l'=>wz lead first f (k+1) l') else none
def pW (lead:Int→List Int) (n:Nat) (first:Int):Option (List Int):=wz lead first (n+1) 0 [⟨first,-1,0⟩]
structure q9 (lead:Int→List Int) (c:List Int):Prop where
 pos:0<c.length
 on:∀i,i<c.length→c.getD ((i+1)%c.length) 0∈lead (c.getD i 0)
theorem ji {α:Type} {l l':List α} {d:α} (h:l<+:l') {i:Nat} (hi:i<l.length):l'.getD i d=l.getD i d:=by
 obtain⟨r,rfl⟩:=h
 exact eV d hi
structure jQ (lead:Int→List Int) (first:Int) (k:Nat) (l:List mE):Prop where
 pos:0<l.length
 zero:l.getD 0 default=⟨first,-1,0⟩
 nd:(gy l).Nodup
 par:∀i,0<i→i<l.length→∃p,p<i∧p≤k∧(l.getD i default).from_=(p:Nat)∧(l.getD i default).at_∈lead (l.getD p default).at_∧(l.getD i default).dep=(l.getD p default).dep+1
 mono:∀i j,i≤j→j<l.length→(l.getD i default).dep≤(l.getD j default).dep
 nf:∀i,0<i→i<l.length→(l.getD i default).at_≠first
theorem jQ.start (lead:Int→List Int) (first:Int):jQ lead first 0 [⟨first,-1,0⟩] where
 pos:=by simp
 zero:=rfl
 nd:=by simp
 par:=fun i h0 hi=>by simp at hi;omega
 mono:=fun i j hij hj=>by
  simp at hj
  have:i=j:=by omega
  rw[this];exact Nat.le_refl _
 nf:=fun i h0 hi=>by simp at hi;omega
section
variable {lead:Int→List Int} {first:Int} {k:Nat} {l:List mE}
theorem jQ.on (h:jQ lead first k l):jQ lead first (k+1) l:=
 ⟨h.pos,h.zero,h.nd,fun i h0 hi=>by obtain⟨p,h1,h2,h3⟩:=h.par i h0 hi;exact⟨p,h1,by omega,h3⟩,h.mono,h.nf⟩
theorem jQ.top (h:jQ lead first k l) (hk:k<l.length) {i:Nat} (hi:i<l.length):(l.getD i default).dep≤(l.getD k default).dep+1:=by
 by_cases h0:i=0
 ·subst h0;rw[h.zero];exact Nat.zero_le _
 ·obtain⟨p,h1,h2,_,_,h5⟩:=h.par i (by omega) hi
  have:=h.mono p k h2 hk
  omega
theorem jQ.add (h:jQ lead first k l) (hk:k<l.length) {x:Int} (hx:x∈lead (l.getD k default).at_) (hf:x≠first) (hn:x∉gy l):jQ lead first k (l++[⟨x,k,(l.getD k default).dep+1⟩]):=by
 have hp:=h.pos
 refine⟨by simp,by rw[eV _ hp];exact h.zero, ?_,fun i h0 hi=> ?_,fun i j hij hj=> ?_,fun i h0 hi=> ?_⟩
 ·unfold gy
  rw[List.map_append]
  exact List.nodup_append.2 ⟨h.nd,by simp,fun a ha b hb=>by
   simp only[List.map_cons,List.map_nil,List.mem_cons,List.not_mem_nil,or_false] at hb
   subst hb
   exact fun e=>hn (e▸ha)⟩
 ·rw[List.length_append,List.length_cons,List.length_nil] at hi
  by_cases e:i=l.length
  ·subst e
   refine⟨k,hk,Nat.le_refl _, ?_⟩
   rw[fA,eV _ hk]
   exact⟨rfl,hx,rfl⟩
  ·obtain⟨p,h1,h2,h3,h4,h5⟩:=h.par i h0 (by omega)
   rw[eV _ (show i<l.length by omega)]
   refine⟨p,h1,h2,h3, ?_⟩
   rw[eV _ (show p<l.length by omega)]
   exact⟨h4,h5⟩
 ·rw[List.length_append,List.length_cons,List.length_nil] at hj
  by_cases e:j=l.length
  ·subst e
   rw[fA]
   by_cases e2:i=l.length
   ·subst e2;rw[fA];exact Nat.le_refl _
   ·rw[eV _ (show i<l.length by omega)]
    exact h.top hk (by omega)
  ·rw[eV _ (show i<l.length by omega),eV _ (show j<l.length by omega)]
   exact h.mono i j hij (by omega)
 ·rw[List.length_append,List.length_cons,List.length_nil] at hi
  by_cases e:i=l.length
  ·subst e;rw[fA];exact hf
  ·rw[eV _ (show i<l.length by omega)];exact h.nf i h0 (by omega)
theorem mY {x:Int}:x∈gy l↔∃i,i<l.length∧(l.getD i default).at_=x:=by
 constructor
 ·intro h
  obtain⟨e,he,rfl⟩:=List.mem_map.1 h
  obtain⟨i,hi,e2⟩:=List.getElem_of_mem he
  exact⟨i,hi,by simp[List.getD,hi,e2]⟩
 ·rintro⟨i,hi,rfl⟩
  exact List.mem_map.2 ⟨_,cQ default hi,rfl⟩
theorem sj {d:Nat}:∀{xs:List Int} {l l':List mE},jQ lead first k l→k<l.length→d=(l.getD k default).dep→(∀x∈xs,x∈lead (l.getD k default).at_)→GK first k d xs l=some l'→
 jQ lead first k l'∧l<+:l'∧∀x∈xs,x≠first∧x∈gy l'
 |[],l,l',h,hk,hd,hx,he=>by rw[GK] at he;cases he;exact⟨h,List.prefix_refl _,fun x hx=>by cases hx⟩
 |x::r,l,l',h,hk,hd,hx,he=>by
  rw[GK] at he
  split at he
  ·cases he
  ·rename_i hf
   have hxr:=fun y hy=>hx y (List.mem_cons_of_mem _ hy)
   by_cases hm:x∈gy l
   ·rw[if_pos hm] at he
    obtain⟨h1,h2,h3⟩:=sj h hk hd hxr he
    refine⟨h1,h2,fun y hy=> ?_⟩
    rcases List.mem_cons.1 hy with rfl|hy
    ·refine⟨hf, ?_⟩
     obtain⟨i,hi,e⟩:=mY.1 hm
     exact mY.2 ⟨i,Nat.lt_of_lt_of_le hi h2.length_le,by rw[ji h2 hi];exact e⟩
    ·exact h3 y hy
   ·rw[if_neg hm,hd] at he
    have ha:=h.add hk (hx x (by simp)) hf hm
    have hpre:l<+:l++[⟨x,k,(l.getD k default).dep+1⟩]:=List.prefix_append _ _
    have hkk:k<(l++[(⟨x,k,(l.getD k default).dep+1⟩:mE)]).length:=by simp;omega
    have hgk:=ji (d:=default) hpre hk
    obtain⟨h1,h2,h3⟩:=sj ha hkk (by rw[hgk]) (by rw[hgk];exact hxr) he
    refine⟨h1,hpre.trans h2,fun y hy=> ?_⟩
    rcases List.mem_cons.1 hy with rfl|hy
    ·refine⟨hf,mY.2 ⟨l.length,Nat.lt_of_lt_of_le (by simp) h2.length_le, ?_⟩⟩
     rw[ji h2 (by simp),fA]
    ·exact h3 y hy
theorem zr {d:Nat}:∀{xs:List Int} {l:List mE},GK first k d xs l=none↔first∈xs
 |[],l=>by simp[GK]
 |x::r,l=>by
  rw[GK]
  by_cases e:x=first
  ·rw[if_pos e];simp[e]
  ·rw[if_neg e,zr,List.mem_cons]
   exact⟨fun h=> .inr h,fun h=>h.resolve_left fun e2=>e e2.symm⟩
theorem GM {l l':List mE} (h:l<+:l'):∀(f:Nat) (k:Int),k<l.length→(∀i,i<l.length→(l.getD i default).from_<l.length)→sy l' f k=sy l f k
 |0,_,_,_=>rfl
 |f+1,k,hk,hf=>by
  rw[sy,sy]
  split
  ·rfl
  ·rw[ji h (by omega),GM h f _ (hf _ (by omega)) hf]
theorem zu (h:jQ lead first k l):∀(i:Nat),i<l.length→∀f,i<f→sy l f i=sy l (i+1) i:=by
 intro i
 induction i using Nat.strongRecOn with
 |_ i ih=>
  intro hi f hf
  obtain⟨f,rfl⟩:∃g,f=g+1:=⟨f - 1,by omega⟩
  rw[sy,sy,if_neg (by omega),if_neg (by omega),Int.toNat_natCast]
  by_cases h0:i=0
  ·subst h0
   rw[h.zero]
   dsimp only
   have e:∀g,sy l g (-1)=[]:=fun g=>by cases g<;>rw[sy];rw[if_pos (by omega)]
   rw[e,e]
  ·obtain⟨p,h1,h2,h3,_,_⟩:=h.par i (by omega) hi
   rw[h3,ih p h1 (by omega) f (by omega),ih p h1 (by omega) i (by omega)]
theorem J7 (h:jQ lead first k l):pK l 0=[first]:=by
 unfold pK
 rw[sy,if_neg (by omega),show((0:Nat):Int).toNat=0 from rfl,h.zero]
 dsimp only
 rw[sy];rfl
theorem J6 (h:jQ lead first k l) {i p:Nat} (hi:i<l.length) (hp:p<i) (hf:(l.getD i default).from_=(p:Nat)):pK l i=pK l p++[(l.getD i default).at_]:=by
 unfold pK
 rw[sy,if_neg (by omega),Int.toNat_natCast,hf,zu h p (by omega) i hp,List.reverse_cons]
structure WV (lead:Int→List Int) (first x:Int) (d:Nat) (l:List mE) (i:Nat) (w:List Int):Prop where
 len:w.length=d+1
 zero:w.getD 0 0=first
 last:w.getD d 0=x
 on:∀j,j<d→w.getD (j+1) 0∈lead (w.getD j 0)
 from_:∀y∈w,∃q,q≤i∧(l.getD q default).at_=y
 nd:w.Nodup
theorem O9 (h:jQ lead first k l):∀(i:Nat),i<l.length→WV lead first (l.getD i default).at_ (l.getD i default).dep l i (pK l i):=by
 intro i
 induction i using Nat.strongRecOn with
 |_ i ih=>
  intro hi
  by_cases h0:i=0
  ·subst h0
   rw[J7 h,h.zero]
   exact⟨rfl,rfl,rfl,fun j hj=>by simp at hj,fun y hy=>⟨0,Nat.le_refl _,by
    simp only[List.mem_cons,List.not_mem_nil,or_false] at hy
    rw[h.zero,hy]⟩,by simp⟩
  ·obtain⟨p,h1,h2,h3,h4,h5⟩:=h.par i (by omega) hi
   have hw:=ih p h1 (by omega)
   rw[J6 h hi h1 h3,h5]
   generalize pK l p=w at *
   have hl:=hw.len
   refine⟨by simp[hl],by rw[eV _ (by omega)];exact hw.zero,by rw[←hl,fA],fun j hj=> ?_,fun y hy=> ?_,List.nodup_append.2 ⟨hw.nd,by simp,fun a ha b hb=> ?_⟩⟩
   ·by_cases e:j=(l.getD p default).dep
    ·rw[e,←hl,fA,eV _ (by omega),hw.last];exact h4
    ·rw[eV _ (by omega),eV _ (by omega)];exact hw.on j (by omega)
   ·rcases List.mem_append.1 hy with hy|hy
    ·obtain⟨q,q1,q2⟩:=hw.from_ y hy
     exact⟨q,by omega,q2⟩
    ·simp only[List.mem_cons,List.not_mem_nil,or_false] at hy
     exact⟨i,Nat.le_refl _,hy.symm⟩
   ·simp only[List.mem_cons,List.not_mem_nil,or_false] at hb
    subst hb
    obtain⟨q,q1,q2⟩:=hw.from_ a ha
    intro e
    rw[←q2] at e
    have e1:∀i,i<l.length→(gy l).getD i 0=(l.getD i default).at_:=fun i hi=>by simp[List.getD,hi]
    have:=zR h.nd (i:=q) (j:=i) (by simp;omega) (by simpa using hi) (by rw[e1 q (by omega),e1 i hi];exact e)
    omega
def TD (lead:Int→List Int) (first:Int) (l:List mE) (k:Nat):Prop:=∀j,j<k→j<l.length→∀x∈lead (l.getD j default).at_,x≠first∧∃i,i<l.length∧(l.getD i default).at_=x∧(l.getD i default).dep≤(l.getD j default).dep+1
theorem s8 {c:List Int} (h:jQ lead first k l) (hd:TD lead first l k) (hc:q9 lead c) (h0:c.getD 0 0=first) (hlt:k<l.length→c.length≤(l.getD k default).dep):False:=by
 have hp:=hc.pos
 have key:∀i,i<c.length→∃q,q<l.length∧(l.getD q default).at_=c.getD i 0∧(l.getD q default).dep≤i:=by
  intro i
  induction i with
  |zero=>intro _;exact⟨0,h.pos,by rw[h.zero,h0],by rw[h.zero];exact Nat.le_refl _⟩
  |succ i ih=>
   intro hi
   obtain⟨q,q1,q2,q3⟩:=ih (by omega)
   have hqk:q<k:=by
    rcases Nat.lt_or_ge q k with h2|h2
    ·exact h2
    ·have:=hlt (by omega)
     have:=h.mono k q h2 q1
     omega
   have hon:=hc.on i (by omega)
   rw[Nat.mod_eq_of_lt hi,←q2] at hon
   obtain⟨_,q',g1,g2,g3⟩:=hd q hqk q1 _ hon
   exact⟨q',g1,g2,by omega⟩
 obtain⟨q,q1,q2,q3⟩:=key (c.length - 1) (by omega)
 have hqk:q<k:=by
  rcases Nat.lt_or_ge q k with h2|h2
  ·exact h2
  ·have:=hlt (by omega)
   have:=h.mono k q h2 q1
   omega
 have hon:=hc.on (c.length - 1) (by omega)
 rw[show c.length - 1+1=c.length by omega,Nat.mod_self,h0,←q2] at hon
 exact(hd q hqk q1 _ hon).1 rfl
theorem tf {n:Nat} (hin:∀x,∀y∈lead x,0≤y∧y<n) (hf0:0≤first∧first<n):∀(f k:Nat) (l:List mE),k+f=n+1→jQ lead first k l→TD lead first l k→(∀x∈gy l,0≤x∧x<n)→
 (∀w,wz lead first f k l=some w→w.getD 0 0=first∧q9 lead w∧w.Nodup∧(∀x∈w,0≤x∧x<n)∧∀c,q9 lead c→c.getD 0 0=first→w.length≤c.length)∧
 (wz lead first f k l=none→∀c,q9 lead c→c.getD 0 0≠first)
 |0,k,l,he,h,hd,hr=>by
  have:=gA n _ h.nd hr
  rw[List.length_map] at this
  rw[wz]
  exact⟨(fun w hw=>by cases hw),fun _ c hc h0=>s8 h hd hc h0 fun hk=>by omega⟩
 |f+1,k,l,he,h,hd,hr=>by
  rw[wz]
  by_cases hk:k<l.length
  ·rw[if_pos hk]
   cases ht:GK first k (l.getD k default).dep (lead (l.getD k default).at_) l with
   |none=>
    dsimp only
    have hm:=zr.1 ht
    have hw:=O9 h k hk
    generalize pK l k=w at *
    refine⟨fun w' hw'=> ?_,fun hn=>by cases hn⟩
    cases hw'
    have hl:=hw.len
    refine⟨hw.zero,⟨by omega,fun i hi=> ?_⟩,hw.nd,fun x hx=> ?_,fun c hc h0=> ?_⟩
    ·by_cases e:i+1=w.length
     ·rw[e,Nat.mod_self,hw.zero,show i=(l.getD k default).dep by omega,hw.last];exact hm
     ·rw[Nat.mod_eq_of_lt (by omega)];exact hw.on i (by omega)
    ·obtain⟨q,q1,q2⟩:=hw.from_ x hx
     exact hr x (mY.2 ⟨q,by omega,q2⟩)
    ·apply Nat.le_of_not_lt
     intro hlt
     exact s8 h hd hc h0 fun _=>by omega
   |some l'=>
    dsimp only
    obtain⟨h1,h2,h3⟩:=sj h hk rfl (fun x hx=>hx) ht
    have hk':k<l'.length:=Nat.lt_of_lt_of_le hk h2.length_le
    refine tf hin hf0 f (k+1) l' (by omega) h1.on (fun j hj hjl x hx=> ?_) fun x hx=> ?_
    ·by_cases e:j=k
     ·subst e
      rw[ji h2 hk] at hx ⊢
      obtain⟨g1,g2⟩:=h3 x hx
      obtain⟨i,hi,g3⟩:=mY.1 g2
      refine⟨g1,i,hi,g3, ?_⟩
      have:=h1.top hk' hi
      rw[ji h2 hk] at this
      exact this
     ·rw[ji h2 (show j<l.length by omega)] at hx ⊢
      obtain⟨g1,i,hi,g2,g3⟩:=hd j (by omega) (by omega) x hx
      exact⟨g1,i,Nat.lt_of_lt_of_le hi h2.length_le,by rw[ji h2 hi];exact g2,by rw[ji h2 hi];exact g3⟩
    ·obtain⟨i,hi,e⟩:=mY.1 hx
     by_cases h0:i=0
     ·subst h0;rw[h1.zero] at e;rw[←e];exact hf0
     ·obtain⟨p,_,_,_,g4,_⟩:=h1.par i (by omega) hi
      rw[e] at g4
      exact hin _ _ g4
  ·rw[if_neg hk]
   exact⟨(fun w hw=>by cases hw),fun _ c hc h0=>s8 h hd hc h0 fun hk2=>by omega⟩
end
theorem lT {lead:Int→List Int} {n:Nat} {first:Int} (hin:∀x,∀y∈lead x,0≤y∧y<n) (hf0:0≤first∧first<n):
 (∀w,pW lead n first=some w→w.getD 0 0=first∧q9 lead w∧w.Nodup∧(∀x∈w,0≤x∧x<n)∧∀c,q9 lead c→c.getD 0 0=first→w.length≤c.length)∧
 (pW lead n first=none→∀c,q9 lead c→c.getD 0 0≠first):=
 tf hin hf0 (n+1) 0 _ (by omega) (.start lead first) (fun j hj=>by omega) fun x hx=>by
  simp only[gy,List.map_cons,List.map_nil,List.mem_cons,List.not_mem_nil,or_false] at hx
  rw[hx];exact hf0
def jA (lead:Int→List Int) (n:Nat):Nat→Option (List Int)
 |0=>none
 |k+1=>match pW lead n (k:Int),jA lead n k with
  |none,b=>b
  |some l,none=>some l
  |some l,some b=>if l.length<b.length then some l else some b
theorem tc {lead:Int→List Int} {n:Nat}:∀{k:Nat},jA lead n k=none→∀f:Nat,f<k→pW lead n (f:Int)=none
 |0,_,f,h=>by omega
 |k+1,he,f,h=>by
  rw[jA] at he
  split at he
  ·rename_i e
   by_cases hf:f=k
   ·subst hf;exact e
   ·exact tc he f (by omega)
  ·cases he
  ·split at he<;>cases he
theorem jw {lead:Int→List Int} {n:Nat}:∀{k:Nat} {b:List Int},jA lead n k=some b→∃f:Nat,f<k∧pW lead n (f:Int)=some b∧∀g:Nat,g<k→∀l,pW lead n (g:Int)=some l→b.length≤l.length∧(b.length=l.length→f≤g)
 |0,b,he=>by cases he
 |k+1,b,he=>by
  rw[jA] at he
  split at he
  ·rename_i e
   obtain⟨f,h1,h2,h3⟩:=jw he
   refine⟨f,by omega,h2,fun g hg l hl=> ?_⟩
   by_cases hgk:g=k
   ·subst hgk;rw[e] at hl;cases hl
   ·exact h3 g (by omega) l hl
  ·rename_i l0 e e2
   cases he
   refine⟨k,by omega,e,fun g hg l hl=> ?_⟩
   by_cases hgk:g=k
   ·subst hgk;rw[e] at hl;cases hl;exact⟨Nat.le_refl _,fun _=>Nat.le_refl _⟩
   ·rw[tc e2 g (by omega)] at hl;cases hl
  ·rename_i l0 b0 e e2
   obtain⟨f,h1,h2,h3⟩:=jw e2
   split at he
   ·rename_i hlt
    cases he
    refine⟨k,by omega,e,fun g hg l hl=> ?_⟩
    by_cases hgk:g=k
    ·subst hgk;rw[e] at hl;cases hl;exact⟨Nat.le_refl _,fun _=>Nat.le_refl _⟩
    ·have:=h3 g (by omega) l hl
     exact⟨by omega,fun _=>by omega⟩
   ·rename_i hlt
    cases he
    refine⟨f,by omega,h2,fun g hg l hl=> ?_⟩
    by_cases hgk:g=k
    ·subst hgk;rw[e] at hl;cases hl;exact⟨by omega,fun _=>by omega⟩
    ·exact h3 g (by omega) l hl
theorem q9.gb {lead:Int→List Int} {c:List Int} (h:q9 lead c) {i:Nat} (hi:i<c.length):∃d,q9 lead d∧d.getD 0 0=c.getD i 0∧d.length=c.length:=by
 have hp:=h.pos
 refine⟨(List.range c.length).map fun j=>c.getD ((i+j)%c.length) 0,⟨by simpa using hp,fun j hj=> ?_⟩, ?_,by simp⟩
 ·rw[List.length_map,List.length_range] at hj ⊢
  have gd:∀q,q<c.length→((List.range c.length).map fun j=>c.getD ((i+j)%c.length) 0).getD q 0=c.getD ((i+q)%c.length) 0:=fun q hq=>by simp[List.getD,hq]
  rw[gd j hj,gd _ (Nat.mod_lt _ hp)]
  have:=h.on ((i+j)%c.length) (Nat.mod_lt _ hp)
  have e:(i+(j+1)%c.length)%c.length=((i+j)%c.length+1)%c.length:=by
   rw[Nat.add_mod,Nat.mod_mod,←Nat.add_mod,Nat.mod_add_mod];rfl
  rw[e]
  exact this
 ·simp[List.getD,hp,Nat.mod_eq_of_lt hi]
end Go.Proofs.YtjopoheligmmoaaGreatDoor
end
section
/- The library's count of trailing zeros at this program, as a tool of the kit laid it in plain words. -/
namespace Go.Proofs
open Go.Shelf
def Tryz.BT:Go.Shelf.Ren:=⟨fun|28=>123|n=>n,fun|27=>132|3=>3|4=>4|25=>142|53=>229|0=>0|5=>5|n=>n,fun|0=>0|n=>n⟩
theorem Tryz.VC:Go.Proofs.Lays7.n28 Tryz.prog Tryz.BT:={
 mixed:=by kernel_rfl
 f28:=Tryz.func123.trans (congrArg some (by kernel_rfl))
 t0:=Tryz.underlying0
 a0:=Tryz.isAgg0
 z0:=Tryz.sizeOf0
 v0:=Tryz.zeroValue0
 i0:=by kernel_rfl
 t3:=Tryz.underlying3
 a3:=Tryz.isAgg3
 z3:=Tryz.sizeOf3
 v3:=Tryz.zeroValue3
 i3:=by kernel_rfl
 t4:=Tryz.underlying4
 a4:=Tryz.isAgg4
 z4:=Tryz.sizeOf4
 v4:=Tryz.zeroValue4
 i4:=by kernel_rfl
 t5:=Tryz.underlying5
 a5:=Tryz.isAgg5
 z5:=Tryz.sizeOf5
 v5:=Tryz.zeroValue5
 i5:=by kernel_rfl
 t25:=Tryz.underlying142
 a25:=Tryz.isAgg142
 z25:=Tryz.sizeOf142
 v25:=Tryz.zeroValue142
 i25:=by kernel_rfl
 t27:=Tryz.underlying132
 a27:=Tryz.isAgg132
 z27:=Tryz.sizeOf132
 v27:=Tryz.zeroValue132
 i27:=by kernel_rfl
 t53:=Tryz.underlying229
 a53:=Tryz.isAgg229
 z53:=Tryz.sizeOf229
 v53:=Tryz.zeroValue229
 i53:=by kernel_rfl
 g0:=by kernel_rfl }
open Go.RowKit Go.Lib in
theorem Tryz.ZF (x:Nat) (hx:x<4294967296) (w:World) (hT:x≠0→TabAt 0 Lib.deBruijn32tab w):
 Calls Tryz.prog 123 #[.int .u32 x] w fun e w'=>e= .returned (.int .i64 (Lib.ctz 32 x))∧w'=w:=Any7.bits_TrailingZeros32 Tryz.VC x hx w hT
end Go.Proofs
end
section
/- Locks as bits: the library's count of zeros, the lists of bits. -/
namespace Go.Proofs.YtjopoheligmmoaaGreatDoor
open Go Go.cX Go.Proofs
set_option linter.unusedSimpArgs false
set_option linter.unusedVariables false
abbrev u32 (n:Nat):AV:= .sc (.int .u32 (n:Int))
theorem TA (x:Nat) (hx:x<4294967296):Pure Tryz.prog 123 [u32 x] (fun r=>r=i64 (ctz x)):=by
 refine⟨⟨_,Tryz.func123,by kernel_rfl,by kernel_rfl⟩,fun M w vs hM hv=> ?_⟩
 rw[cc] at hv
 obtain⟨v,vs',rfl,h1,h2⟩:=hv
 rw[VR] at h1
 rw[cc] at h2
 subst h1
 subst h2
 refine(Tryz.ZF x hx w fun _=>(hM.X1 (0,_) (by unfold VX;exact List.mem_singleton_self _)).2.2).mono ?_
 rintro e w' ⟨rfl,rfl⟩
 exact⟨_,_,rfl,rfl,by simp[cK],by rw[VR], .refl _ _⟩
theorem wrap32 {n:Int} (h1:0≤n) (h2:n<4294967296):IntKind.u32.wrap n=n:=by rw[wrap_u32'];omega
theorem WY {a b:Nat} (ha:a<4294967296) (hb:b<4294967296):IntKind.u32.wrap (BitVec.ofInt IntKind.u32.bits (a:Int)&&& BitVec.ofInt IntKind.u32.bits (b:Int)).toNat=((a&&& b:Nat):Int):=bits_and_u32_nat a b ha hb
theorem Y8 {a b:Nat} (ha:a<4294967296) (hb:b<4294967296):IntKind.u32.wrap (BitVec.ofInt IntKind.u32.bits (a:Int)|||BitVec.ofInt IntKind.u32.bits (b:Int)).toNat=((a|||b:Nat):Int):=by
 have hx:a|||b<2^32:=Nat.or_lt_two_pow (by omega) (by omega)
 have h1:(BitVec.ofInt IntKind.u32.bits (a:Int)).toNat=a:=by
  show(BitVec.ofInt 32 (a:Int)).toNat=a
  rw[BitVec.ofInt_natCast,BitVec.toNat_ofNat];exact Nat.mod_eq_of_lt (by omega)
 have h2:(BitVec.ofInt IntKind.u32.bits (b:Int)).toNat=b:=by
  show(BitVec.ofInt 32 (b:Int)).toNat=b
  rw[BitVec.ofInt_natCast,BitVec.toNat_ofNat];exact Nat.mod_eq_of_lt (by omega)
 rw[BitVec.toNat_or,h1,h2,wrap32 (by omega) (by omega)]
theorem VJ {x:Nat} (h0:x≠0) (hx:x<4294967296):IntKind.u32.wrap ((x:Int) - 1)=((x - 1:Nat):Int):=by
 rw[wrap32 (by omega) (by omega)];omega
theorem IY (x:Nat) (hx:x<65536):cI Tryz.prog 75 [u32 x] [] 0 (fun r H n=>∃b d,r= .sl b (bits x).length∧br H b=some (.row 3 1 d ((bits x).map i64))):=by
 refine aM NR rfl ?_
 repeat' (first|((with_reducible refine aF ?_);conv=>whnf)|refine aG ?_|exact aC|with_reducible refine aD ?_ ?_|(apply aB;(·exact cN))|refine aH ?_|((with_reducible refine aA ?_ ?_)<;>intro hc<;>(try simp only[List.length_map,ne_eq,dX] at hc)<;>try(exfalso;omega)))
 refine aU (fun s:Nat×List Int=>[(0,u32 s.1),(3, .sl 2 s.2.length)])
  (fun s H n=>3≤n∧s.1≤x∧s.2++bits s.1=bits x∧s.2.length+s.1≤x∧∃d,br H 2=some (.row 3 1 d (s.2.map i64)))
  (fun s=>s.1) (x,[]) ⟨_,_,_,Rt.nil 3 3 1 (by omega) rfl,cF,cZ,Nat.le_refl _,rfl,by simp,⟨_,bu⟩⟩ ?_
 rintro⟨y,l⟩ H n ⟨hn,hy,hb,hlen,⟨d,r2⟩⟩
 dsimp only at hy hb hlen r2 ⊢
 by_cases h0:y=0
 ·subst h0
  repeat' (first|((with_reducible refine aF ?_);conv=>whnf)|refine aG ?_|exact aC|with_reducible refine aD ?_ ?_|(apply aB;(·exact cN))|refine aH ?_|((with_reducible refine aA ?_ ?_)<;>intro hc<;>(try simp only[List.length_map,ne_eq,dX] at hc)<;>try(exfalso;omega)))
  rw[show bits 0=[] from rfl,List.append_nil] at hb
  rw[←hb]
  exact⟨⟨2,d,rfl,bu⟩⟩
 ·rw[pX h0] at hb
  have hp:=pred_lt h0
  have e1:=VJ h0 (show y<4294967296 by omega)
  have e2:=WY (show y<4294967296 by omega) (show y - 1<4294967296 by omega)
  have ht:=TA y (by omega)
  repeat' (first|((with_reducible refine aF ?_);conv=>whnf)|refine aG ?_|exact aC|with_reducible refine aD ?_ ?_|(apply aB;(·exact cN))|refine aK (ht) ?_|(simp only[e1])|(simp only[e2])|refine aH ?_|((with_reducible refine aA ?_ ?_)<;>intro hc<;>(try simp only[List.length_map,ne_eq,dX] at hc)<;>try(exfalso;omega)))
  exact⟨(y&&& (y - 1),l++[(ctz y:Int)]),hp,_,_,_,Rt.refl _ _ _,cF,cZ,by dsimp only;omega,by dsimp only;rw[←hb];simp,by dsimp only;simp only[List.length_append,List.length_cons,List.length_nil];omega,⟨_,by dsimp only;rw[←jE];exact bu⟩⟩
theorem IZ (x:Nat) (hx:x<65536):Pure Tryz.prog 75 [u32 x] (fun r=>r=fQ (bits x)):=by
 refine dS ((IY x hx).mono ?_) (by simp[fQ,cK,cB])
 rintro r H n ⟨b,d,rfl,hb⟩
 rw[de hb (by simp),cx _ (LW _ _)];rfl
end Go.Proofs.YtjopoheligmmoaaGreatDoor
end
