import Derived.Test.YtekfmjjmihomlaaGreatM26
import Derived.Test.YtekfmjjmihomlaaGreatM27
import Derived.Test.YtekfmjjmihomlaaGreatM28
import Derived.Test.YtekfmjjmihomlaaGreatM29
section
/- The source machine in plain data. -/
namespace Go.Proofs.YtekfmjjmihomlaaGreat
open Go Go.cO Go.Proofs
set_option linter.unusedSimpArgs false
set_option linter.unusedVariables false
structure cU where
 cP:Int
 word:Int
 deriving Inhabited,DecidableEq
def cU.cells (p:cU):List AV:=[i64 p.cP,i64 p.word]
abbrev cU.av (p:cU):AV:= .agg p.cells
structure MS where
 at_:List Int
 bg:List (List Int)
 mem:List Int
 hold:List Int
 bn:List cU
 deriving Inhabited,DecidableEq
abbrev ct (l:List Int):AV:= .im 1 .any (l.map i64)
abbrev xu (l:List (List Int)):AV:= .im 1 .any (l.map ct)
abbrev eS (l:List cU):AV:= .im 2 .any (l.map cU.av)
def MS.cells (u:bh) (m:MS):List AV:=[cV u.shared,cV u.bx,dU u.bj,ct m.at_,xu m.bg,ct m.mem,ct m.hold,eS m.bn]
abbrev MS.fz (u:bh) (m:MS):AV:= .ip 8 .any [.agg (m.cells u)] 0 0
@[simp] theorem JK (n:Nat) (p:cU):cK n p.cells:=by simp[cU.cells,cK,bz]
@[simp] theorem LW (n:Nat) (u:bh) (m:MS):cK n (m.cells u):=by simp[MS.cells,cK,bz,cA]
theorem mS (n:Nat) (u:bh) (m:MS):bz n (m.fz u):=by simp[bz,cK]
structure eH (u:bh) (m:MS):Prop where
 nw:m.at_.length=u.bj.length
 fp:∀t,t<u.bj.length→0≤m.at_.getD t 0∧m.at_.getD t 0<(u.gr t).nodes.length
 sl:m.bg.length=u.bj.length
 wQ:∀t,t<u.bj.length→(m.bg.getD t []).length=(u.gr t).bg.toNat
 wR:∀t,t<u.bj.length→∀w∈m.bg.getD t [],dR w
 ml:m.mem.length=u.shared.length
 mw:∀w∈m.mem,dR w
 hl:m.hold.length=u.bx.length
 hw:∀w∈m.hold,-1≤w∧w<u.bj.length
 pw:∀p∈m.bn,0≤p.cP∧p.cP<u.bj.length∧dR p.word
abbrev MS.node (u:bh) (m:MS) (t:Nat):Node:=(u.gr t).nd (m.at_.getD t 0).toNat
def MS.qn (u:bh) (m:MS) (t:Int):Int:=if t<0∨(m.at_.length:Int)≤t then 2 else if(m.node u t.toNat).kind=9 then 70 else if(m.node u t.toNat).kind=5∧0≤m.hold.getD (m.node u t.toNat).cG.toNat 0 then 71 else 0
theorem ee {l:List Int} {k:Nat} (h:k<l.length) (d:AV):(l.map i64).getD ((k:Int)).toNat d=i64 (l.getD k 0):=by
 rw[Int.toNat_natCast];exact dN i64 l k d h
theorem l7 {l:List Int} {k:Int} (h:k.toNat<l.length) (d:AV):(l.map i64).getD k.toNat d=i64 (l.getD k.toNat 0):=dN i64 l k.toNat d h
theorem eH.node {u:bh} {m:MS} (hr:cr u) (h:eH u m) {t:Nat} (ht:t<u.bj.length):mL u (u.gr t) (m.node u t):=by
 have:=h.fp t ht
 exact(hr.gr ht).nodes _ (cY default (by omega))
theorem DY {u:bh} {m:MS} {t:Int} (h:t<0∨(m.at_.length:Int)≤t):m.qn u t=2:=by unfold MS.qn;rw[if_pos h]
theorem DF (u:bh) (m:MS) (t:Int):Pure Tryz.prog 81 [m.fz u,i64 t] (fun r=>r=bl (decide (¬(t<0∨(m.at_.length:Int)≤t)))):=by
 refine aI CD rfl ?_
 refine cW ?_
 refine eh ?_
 rw[List.length_map]
 by_cases h1:0≤t<;>by_cases h2:t<m.at_.length<;>simp[h1,h2]<;>omega
set_option maxRecDepth 8000 in
set_option maxHeartbeats 2000000 in
theorem ux (u:bh) (hr:cr u) (m:MS) (h:eH u m) (t:Int):Pure Tryz.prog 54 [m.fz u,i64 t] (fun r=>r=i64 (m.qn u t)):=by
 have c0:=DF u m t
 have hl:=h.nw
 by_cases ht:t<0∨(m.at_.length:Int)≤t
 ·rw[DY ht]
  rw[decide_eq_false (fun e=>e ht)] at c0
  refine aI rQ rfl ?_
  refine cW ?_
  first|exact rfl|trivial
 ·rw[decide_eq_true ht] at c0
  obtain⟨k,rfl⟩:∃k:Nat,t=k:=⟨t.toNat,by omega⟩
  have hk:k<u.bj.length:=by omega
  have hbar:m.qn u k=if(m.node u k).kind=9 then 70 else if(m.node u k).kind=5∧0≤m.hold.getD (m.node u k).cG.toNat 0 then 71 else 0:=by
   unfold MS.qn;rw[if_neg ht,Int.toNat_natCast]
  rw[hbar]
  have hno:=h.node hr hk
  obtain⟨p0,p1⟩:=h.fp k hk
  have e0:=fun d=>wy (l:=u.bj) hk d
  have e1:=fun d=>ee (l:=m.at_) (k:=k) (by omega) d
  obtain⟨j,hj⟩:∃j:Nat,m.at_.getD k 0=j:=⟨(m.at_.getD k 0).toNat,by omega⟩
  rw[hj] at e1 p1
  have hnd:m.node u k=(u.gr k).nd j:=by unfold MS.node;rw[hj,Int.toNat_natCast]
  rw[hnd] at hno ⊢
  have hgr:u.bj.getD k default=u.gr k:=rfl
  rw[hgr] at e0
  generalize u.gr k=g at *
  have e2:=fun d=>k7 (l:=g.nodes) (i:=j) (by omega) d
  rw[show g.nodes.getD j default=g.nd j from rfl] at e2
  generalize g.nd j=n at *
  have a0:(u.bj.map cB.av).length=u.bj.length:=by simp
  have a1:(m.at_.map i64).length=u.bj.length:=by simp[hl]
  have a2:(g.nodes.map Node.av).length=g.nodes.length:=by simp
  have a3:(m.hold.map i64).length=u.bx.length:=by simp[h.hl]
  by_cases h9:n.kind=9
  ·have r0:=h9
   rw[if_pos h9]
   refine aI rQ rfl ?_
   refine cW ?_
   first|exact rfl|trivial
  ·rw[if_neg h9]
   by_cases h5:n.kind=5
   ·have hth:=hno.cG.1 (by unfold fi;exact decide_eq_true (by omega))
    rw[if_pos (.inl h5)] at hth
    have hhl:=h.hl
    have e3:=fun d=>l7 (l:=m.hold) (k:=n.cG) (by omega) d
    have r0:=h5
    by_cases hh:0≤m.hold.getD n.cG.toNat 0
    ·rw[if_pos ⟨h5,hh⟩]
     have r1:=decide_eq_true hh
     refine aI rQ rfl ?_
     refine cW ?_
     first|exact rfl|trivial
    ·rw[if_neg fun e=>hh e.2]
     have r1:=decide_eq_false hh
     refine aI rQ rfl ?_
     refine cW ?_
     first|exact rfl|trivial
   ·rw[if_neg fun e=>h5 e.1]
    have r1:=decide_eq_false h5
    refine aI rQ rfl ?_
    refine cW ?_
    first|exact rfl|trivial
theorem AA (u:bh) (hr:cr u) (m:MS) (h:eH u m) (t:Int):Pure Tryz.prog 22 [m.fz u,i64 t] (fun r=>r=bl (decide (m.qn u t=0))):=by
 have c0:=ux u hr m h t
 refine aI BN rfl ?_
 refine cW ?_
 first|exact rfl|trivial
def MS.ended (u:bh) (m:MS):Bool:=(List.range m.at_.length).all fun t=>decide (m.qn u t=70)
theorem AK (u:bh) (hr:cr u) (m:MS) (h:eH u m):Pure Tryz.prog 57 [m.fz u] (fun r=>r=bl (m.ended u)):=by
 have hl:=h.nw
 have hgl:=hr.AR
 refine aI B3 rfl ?_
 refine cW ?_
 rw[List.length_map]
 refine aR (fun i:Nat=>[(0,m.fz u),(10,i64 m.at_.length),(11,i64 i)]) (fun i H n=>i≤m.at_.length∧∀j:Nat,j<i→m.qn u j=70) (fun i=>m.at_.length - i) 0 cM ⟨Nat.zero_le _,fun j hj=>by omega⟩ ?_
 rintro i H n ⟨hi,hall⟩
 by_cases hil:i<m.at_.length
 ·have c0:=ux u hr m h i
  by_cases hb:m.qn u i=70
  ·have r0:=hb
   refine cW ?_
   exact⟨i+1,by omega,cM,by omega,fun j hj=>by
    by_cases e:j=i
    ·rw[e];exact hb
    ·exact hall j (by omega)⟩
  ·have r0:=decide_eq_true hb
   refine cW ?_
   refine eh (Eq.symm ?_)
   unfold MS.ended
   rw[List.all_eq_false]
   exact⟨i,List.mem_range.2 hil,by simpa using hb⟩
 ·refine cW ?_
  refine eh (Eq.symm ?_)
  unfold MS.ended
  rw[List.all_eq_true]
  intro j hj
  exact decide_eq_true (hall j (by have:=List.mem_range.1 hj;omega))
end Go.Proofs.YtekfmjjmihomlaaGreat
end
section
/- Ends compared: plain data, the small functions of the code. -/
namespace Go.Proofs.YtekfmjjmihomlaaGreat
open Go Go.cO Go.Proofs
set_option linter.unusedSimpArgs false
set_option linter.unusedVariables false
structure dI where
 bn:List cU
 mem:List Int
 ended:Bool
 deriving Inhabited,DecidableEq
def dI.cells (e:dI):List AV:=[eS e.bn,ct e.mem,bl e.ended]
abbrev dI.av (e:dI):AV:= .agg e.cells
@[simp] theorem K4 (n:Nat) (e:dI):cK n e.cells:=by simp[dI.cells,cK,bz,cA]
def dy (x y:Int):Int:=if x<y then -1 else if y<x then 1 else 0
def iN:List Int→Int
 |[]=>0
 |x::l=>if x=0 then iN l else x
def eY (p q:cU):Int:=iN [dy p.cP q.cP,dy p.word q.word]
def dh {α:Type} (f:α→α→Int):List α→List α→Int
 |[],[]=>0
 |[],_::_=>-1
 |_::_,[]=>1
 |x::a,y::b=>if f x y=0 then dh f a b else f x y
def oE (a b:Bool):Int:=if a=b then 0 else if b then -1 else 1
def eF (a b:dI):Int:=iN [dh eY a.bn b.bn,dh dy a.mem b.mem,oE a.ended b.ended]
theorem nT {α:Type} (f:α→α→Int) (d:α) {a b:List α} {i:Nat} (h1:i<a.length) (h2:i<b.length):dh f (a.drop i) (b.drop i)=if f (a.getD i d) (b.getD i d)=0 then dh f (a.drop (i+1)) (b.drop (i+1)) else f (a.getD i d) (b.getD i d):=by
 rw[List.drop_eq_getElem_cons h1,List.drop_eq_getElem_cons h2,dh]
 simp[List.getD,List.getElem?_eq_getElem h1,List.getElem?_eq_getElem h2]
theorem lX {α:Type} (f:α→α→Int) {a b:List α} {i:Nat} (h1:i<a.length) (h2:b.length≤i):dh f (a.drop i) (b.drop i)=1:=by
 rw[List.drop_eq_getElem_cons h1,List.drop_of_length_le h2,dh]
theorem lW {α:Type} (f:α→α→Int) {a b:List α} {i:Nat} (h1:a.length≤i) (h2:i≤b.length):dh f (a.drop i) (b.drop i)=if i<b.length then -1 else 0:=by
 rw[List.drop_of_length_le h1]
 split
 ·rename_i h;rw[List.drop_eq_getElem_cons h,dh]
 ·rw[List.drop_of_length_le (by omega),dh]
theorem xk (x:Int):Pure Tryz.prog 76 [i64 x] (fun r=>r=bl false):=by
 refine aI B8 rfl ?_
 refine cW ?_
 refine eh ?_
 simp
theorem uI (x:Int):Pure Tryz.prog 77 [i64 x] (fun r=>r=bl false):=by
 refine aI B9 rfl ?_
 refine cW ?_
 refine eh ?_
 simp
theorem AD (x y:Int):Pure Tryz.prog 48 [i64 x,i64 y] (fun r=>r=i64 (dy x y)):=by
 have c0:=xk x
 have c1:=xk y
 unfold dy
 by_cases h:x<y
 ·rw[if_pos h]
  refine aI vg rfl ?_
  refine cW ?_
  first|exact rfl|trivial
 ·rw[if_neg h]
  by_cases h2:y<x
  ·rw[if_pos h2]
   refine aI vg rfl ?_
   refine cW ?_
   first|exact rfl|trivial
  ·rw[if_neg h2]
   refine aI vg rfl ?_
   refine cW ?_
   first|exact rfl|trivial
theorem pd (x y:Int):Pure Tryz.prog 49 [i64 x,i64 y] (fun r=>r=i64 (dy x y)):=by
 have c0:=uI x
 have c1:=uI y
 unfold dy
 by_cases h:x<y
 ·rw[if_pos h]
  refine aI vh rfl ?_
  refine cW ?_
  first|exact rfl|trivial
 ·rw[if_neg h]
  by_cases h2:y<x
  ·rw[if_pos h2]
   refine aI vh rfl ?_
   refine cW ?_
   first|exact rfl|trivial
  ·rw[if_neg h2]
   refine aI vh rfl ?_
   refine cW ?_
   first|exact rfl|trivial
theorem CW {l:List Int} {i:Nat} (h:i<l.length):iN (l.drop i)=if l.getD i 0=0 then iN (l.drop (i+1)) else l.getD i 0:=by
 rw[List.drop_eq_getElem_cons h,iN]
 simp[List.getD,List.getElem?_eq_getElem h]
theorem xm (l:List Int) (hl:l.length≤1000):Pure Tryz.prog 47 [ct l] (fun r=>r=i64 (iN l)):=by
 refine aI BX rfl ?_
 refine cW ?_
 rw[List.length_map]
 refine aR (fun i:Nat=>[(3,i64 0),(6,ct l),(7,i64 l.length),(8,i64 i)]) (fun i H n=>i≤l.length∧iN l=iN (l.drop i)) (fun i=>l.length - i) 0 cM ⟨Nat.zero_le _,rfl⟩ ?_
 rintro i H n ⟨hi,ho⟩
 rw[ho]
 by_cases hil:i<l.length
 ·have e0:=fun d=>ee (l:=l) hil d
  have a0:(l.map i64).length=l.length:=by simp
  have hd:=CW hil
  by_cases hz:l.getD i 0=0
  ·have r0:=hz
   rw[if_pos hz] at hd
   refine cW ?_
   exact⟨i+1,by omega,cM,by omega,hd⟩
  ·have r0:=decide_eq_true hz
   rw[if_neg hz] at hd
   refine cW ?_
   rw[hd]
 ·rw[List.drop_of_length_le (by omega)]
  refine cW ?_
  first|exact rfl|trivial
end Go.Proofs.YtekfmjjmihomlaaGreat
end
section
/- Copies of lists; what a machine shows. -/
namespace Go.Proofs.YtekfmjjmihomlaaGreat
open Go Go.cO Go.Proofs
set_option linter.unusedSimpArgs false
set_option linter.unusedVariables false
theorem pF {p:Prop} (h:Go p):p:=h
theorem yK {es:List AV} (hf:cK 0 es) (hl:es.length * 16≤140737488355328):cC Tryz.prog 63 [.im 2 .any es] [] 0 (fun r H _=>cO.dK H 6 r= .sc (.slice none 0 0)∧es=[]∨cO.dK H 6 r= .im 2 .any es):=by
 refine aQ B5 rfl ?_
 cases es with
 |nil=>
  refine cW ?_
  refine⟨pF ?_,pF ?_⟩
  ·refine cW ?_
   exact⟨.inl ⟨rfl,rfl⟩⟩
  ·refine cW ?_
   exact⟨.inr rfl⟩
 |cons x t=>
  have a0:(x::t).length * 16≤fy:=hl
  simp only[List.length_cons] at hl
  refine cW ?_
  refine⟨.inr ((dt (e:=89) (sz:=2) (es:=x::t) bf (Nat.zero_add _).symm).trans ?_)⟩
  rw[dD _ hf]
theorem yL {es:List AV} (hf:cK 0 es) (hl:es.length * 8≤140737488355328):cC Tryz.prog 90 [.im 1 .any es] [] 0 (fun r H _=>cO.dK H 6 r= .sc (.slice none 0 0)∧es=[]∨cO.dK H 6 r= .im 1 .any es):=by
 refine aQ CL rfl ?_
 cases es with
 |nil=>
  refine cW ?_
  refine⟨pF ?_,pF ?_⟩
  ·refine cW ?_
   exact⟨.inl ⟨rfl,rfl⟩⟩
  ·refine cW ?_
   exact⟨.inr rfl⟩
 |cons x t=>
  have a0:(x::t).length * 8≤fy:=hl
  simp only[List.length_cons] at hl
  refine cW ?_
  refine⟨.inr ((dt (e:=2) (sz:=1) (es:=x::t) bf (Nat.zero_add _).symm).trans ?_)⟩
  rw[dD _ hf]
theorem sP (l:List cU) (hl:l.length * 16≤140737488355328):Pure Tryz.prog 63 [eS l] (fun r=>r=eS l):=
 lx (by simp[bz,cA]) (yK ((cA _ _).2 fun _ _=>by simp[bz]) (by rw[List.length_map];exact hl))
theorem sQ (l:List Int) (hl:l.length * 8≤140737488355328):Pure Tryz.prog 90 [ct l] (fun r=>r=ct l):=
 lx (by simp[bz,cA]) (yL ((cA _ _).2 fun _ _=>by simp[bz]) (by rw[List.length_map];exact hl))
theorem zG (u:bh) (m:MS) (hl:m.bn.length * 16≤140737488355328):Pure Tryz.prog 30 [m.fz u] (fun r=>r=eS m.bn):=by
 have c0:=sP m.bn hl
 refine aI BQ rfl ?_
 refine cW ?_
 first|exact rfl|trivial
theorem yx (u:bh) (m:MS) (hl:m.mem.length * 8≤140737488355328):Pure Tryz.prog 56 [m.fz u] (fun r=>r=ct m.mem):=by
 have c0:=sQ m.mem hl
 refine aI B2 rfl ?_
 refine cW ?_
 first|exact rfl|trivial
end Go.Proofs.YtekfmjjmihomlaaGreat
end
section
/- Whether a situation is an end. -/
namespace Go.Proofs.YtekfmjjmihomlaaGreat
open Go Go.cO Go.Proofs
set_option linter.unusedSimpArgs false
set_option linter.unusedVariables false
def MS.stuck (u:bh) (m:MS):Bool:=(List.range m.at_.length).all fun t=>decide (m.qn u t≠0)
def MS.end_ (u:bh) (m:MS):dI:=⟨m.bn,m.mem,m.ended u⟩
def jQ (u:bh) (m:MS):AV:=if m.stuck u then .dY [(m.end_ u).av,bl true] else .dY [.agg [.sc (.slice none 0 0), .sc (.slice none 0 0),bl false],bl false]
theorem qP (u:bh) (hr:cr u) (m:MS) (h:eH u m) (hp:m.bn.length * 16≤140737488355328) (hm:m.mem.length * 8≤140737488355328):Pure Tryz.prog 36 [u.av,m.fz u] (fun r=>r=jQ u m):=by
 have hl:=h.nw
 have hgl:=hr.AR
 have c1:=zG u m hp
 have c2:=yx u m hm
 have c3:=AK u hr m h
 refine aI BS rfl ?_
 refine cW ?_
 rw[List.length_map,←hl]
 refine aR (fun i:Nat=>[(1,m.fz u),(4, .pt 1 1 0 0),(9,i64 m.at_.length),(10,i64 i)]) (fun i H n=>i≤m.at_.length∧2≤n∧bd H 1=some (.row 40 3 (fI true [.slice none 0 0, .slice none 0 0, .bool false]) [fI true [.slice none 0 0, .slice none 0 0, .bool false]])∧∀j:Nat,j<i→m.qn u j≠0) (fun i=>m.at_.length - i) 0 cM ⟨Nat.zero_le _,cX,bf,fun j hj=>by omega⟩ ?_
 rintro i H n ⟨hi,hn,hx,hall⟩
 by_cases hil:i<m.at_.length
 ·have c0:=AA u hr m h i
  by_cases hb:m.qn u i=0
  ·have hs:m.stuck u=false:=by
    unfold MS.stuck
    rw[List.all_eq_false]
    exact⟨i,List.mem_range.2 hil,by simpa using hb⟩
   have r0:=decide_eq_true hb
   rw[jQ,hs]
   refine cW ?_
   first|exact rfl|trivial
  ·have r0:=decide_eq_false hb
   refine cW ?_
   exact⟨i+1,by omega,cM,by omega,by omega,bf,fun j hj=>by
    by_cases e:j=i
    ·rw[e];exact hb
    ·exact hall j (by omega)⟩
 ·have hs:m.stuck u=true:=by
   unfold MS.stuck
   rw[List.all_eq_true]
   intro j hj
   exact decide_eq_true (hall j (by have:=List.mem_range.1 hj;omega))
  rw[jQ,hs]
  refine cW ?_
  first|exact rfl|trivial
end Go.Proofs.YtekfmjjmihomlaaGreat
end
section
/- The machine in rows: Copy. -/
namespace Go.Proofs.YtekfmjjmihomlaaGreat
open Go Go.cO Go.Proofs
set_option linter.unusedSimpArgs false
set_option linter.unusedVariables false
def dc (ids:List Nat) (l:List (List Int)):List AV:=(ids.zip l).map fun p=> .sl p.1 p.2.length
def MS.rows (u:bh) (m:MS) (a s me ho pr:Nat):AV:= .agg [cV u.shared,cV u.bx,dU u.bj, .sl a m.at_.length, .sl s m.bg.length, .sl me m.mem.length, .sl ho m.hold.length, .sl pr m.bn.length]
structure JG (u:bh) (m:MS) (mr a s me ho pr:Nat) (ids:List Nat) (H:Hp):Prop where
 rM:∃d,bd H mr=some (.row 100 8 d [m.rows u a s me ho pr])
 rA:∃d,bd H a=some (.row 3 1 d (m.at_.map i64))
 rS:∃d,bd H s=some (.row 38 1 d (dc ids m.bg))
 rL:∀t,t<m.bg.length→∃d,bd H (ids.getD t 0)=some (.row 2 1 d ((m.bg.getD t []).map i64))
 rE:∃d,bd H me=some (.row 2 1 d (m.mem.map i64))
 rH:∃d,bd H ho=some (.row 3 1 d (m.hold.map i64))
 rP:∃d,bd H pr=some (.row 89 2 d (m.bn.map cU.av))
 len:ids.length=m.bg.length
 nodup:(mr::a::s::me::ho::pr::ids).Nodup
theorem qS {ids:List Nat} {l:List (List Int)} (h:ids.length=l.length) (i:Nat) (x:List Int):dc (ids++[i]) (l++[x])=dc ids l++[.sl i x.length]:=by
 unfold dc
 rw[List.zip_append h]
 simp
theorem copied (es:List AV) (z:AV):List.take (es.length.min (es.length:Int).toNat) es++List.drop (es.length.min (es.length:Int).toNat) (List.replicate (es.length:Int).toNat z)=es:=by
 rw[Int.toNat_natCast,show es.length.min es.length=es.length from Nat.min_self _]
 simp
set_option maxHeartbeats 4000000 in
theorem vG (u:bh) (m:MS) (h1:m.at_.length≤4096) (h2:m.mem.length≤4096) (h3:m.hold.length≤4096) (h4:m.bn.length≤1048576) (h5:m.bg.length≤4096) (h6:∀l∈m.bg,l.length≤1048576) (H0:Hp) (nx:Nat):cC Tryz.prog 65 [m.fz u] H0 nx (fun r H n=>∃mr a s me ho pr ids,r= .pt mr 1 0 0∧JG u m mr a s me ho pr ids H∧(∀x∈mr::a::s::me::ho::pr::ids,nx≤x∧x<n)∧nx≤n∧∀y,y<nx→bd H y=bd H0 y):=by
 refine aQ B7 rfl ?_
 refine cW ?_
 simp only[copied]
 simp only[List.length_map,Int.toNat_natCast]
 refine aU (fun σ:Nat×List Nat=>[(0,m.fz u),(3, .pt (nx+32) 1 0 0),(78,xu m.bg),(79,i64 m.bg.length),(80,i64 σ.1)])
  (fun σ H n=>σ.1≤m.bg.length∧nx+77≤n∧σ.2.length=σ.1∧σ.2.Nodup∧(∀x∈σ.2,nx+77≤x∧x<n)∧(∃d,bd H (nx+32)=some (.row 100 8 d [.agg [cV u.shared,cV u.bx,dU u.bj, .sl (nx+12) m.at_.length, .sl (nx+76) σ.1, .sl (nx+18) m.mem.length, .sl (nx+24) m.hold.length, .sl (nx+30) m.bn.length]]))∧(∃d,bd H (nx+12)=some (.row 3 1 d (m.at_.map i64)))∧(∃d,bd H (nx+18)=some (.row 2 1 d (m.mem.map i64)))∧(∃d,bd H (nx+24)=some (.row 3 1 d (m.hold.map i64)))∧(∃d,bd H (nx+30)=some (.row 89 2 d (m.bn.map cU.av)))∧(∃d,bd H (nx+76)=some (.row 38 1 d (dc σ.2 (m.bg.take σ.1))))∧(∀t,t<σ.1→∃d,bd H (σ.2.getD t 0)=some (.row 2 1 d ((m.bg.getD t []).map i64)))∧∀y,y<nx→bd H y=bd H0 y) (fun σ=>m.bg.length - σ.1) (0,[])
  ⟨_,_,_,Rt.wk (Wk.lj (b:=nx+32) (e:=38) (sz:=1) (by simp only[List.length_cons,List.length_nil];omega) (by omega) (te:=100) (tz:=8) (cs:=[cV u.shared,cV u.bx,dU u.bj, .sl (nx+12) m.at_.length, .sc (.slice none 0 0), .sl (nx+18) m.mem.length, .sl (nx+24) m.hold.length, .sl (nx+30) m.bn.length]) (j:=4) bf (by show 4<8;omega) rfl),cM,Nat.zero_le _,cX,rfl,List.nodup_nil,fun x hx=>by simp at hx,⟨_,bf⟩,⟨_,bf⟩,⟨_,bf⟩,⟨_,bf⟩,⟨_,bf⟩,⟨_,bf⟩,fun t ht=>absurd ht (Nat.not_lt_zero _),fun y hy=>br⟩ ?_
 rintro⟨t,ids⟩ H n ⟨ht,hn,hil,hnd,hin,⟨d0,r0⟩,⟨d1,r1⟩,⟨d2,r2⟩,⟨d3,r3⟩,⟨d4,r4⟩,⟨d5,r5⟩,hls,hkp⟩
 dsimp only at ht hil hnd hin r0 r5 hls ⊢
 have htk:(m.bg.take t).length=t:=by rw[List.length_take];omega
 have hrl:(dc ids (m.bg.take t)).length=t:=by unfold dc;rw[List.length_map,List.length_zip,htk,hil];omega
 by_cases htl:t<m.bg.length
 ·have e0:∀d,(m.bg.map ct).getD ((t:Int)).toNat d=ct (m.bg.getD t []):=fun d=>by rw[Int.toNat_natCast];exact dN ct m.bg t d htl
  have a0:(m.bg.map ct).length=m.bg.length:=by simp
  have hnx:dc (ids++[n+6]) (m.bg.take (t+1))=dc ids (m.bg.take t)++[.sl (n+6) (m.bg.getD t []).length]:=by
   rw[List.take_succ_eq_append_getElem htl,qS (by rw[hil,htk]),show m.bg.getD t []=m.bg[t] by simp[List.getD,htl]]
  have h7:=h6 _ (cY (l:=m.bg) [] htl)
  refine cW ?_
  simp only[copied]
  simp only[List.length_map,Int.toNat_natCast]
  refine⟨(t+1,ids++[n+6]),by dsimp only;omega,_,_,_,Rt.refl _ _ _,cM,by dsimp only;omega,by omega,by simp[hil], ?_, ?_,⟨_,bf⟩,⟨_,bf⟩,⟨_,bf⟩,⟨_,bf⟩,⟨_,bf⟩,⟨_,by dsimp only;rw[hnx];exact bf⟩, ?_,fun y hy=>Eq.trans br (hkp y hy)⟩
  ·refine List.nodup_append.2 ⟨hnd,by simp,fun a ha b hb=> ?_⟩
   simp only[List.mem_cons,List.not_mem_nil,or_false] at hb
   have:=hin _ ha;omega
  ·intro x hx
   rcases List.mem_append.1 hx with hx|hx
   ·have:=hin _ hx;exact⟨this.1,Nat.lt_of_lt_of_le this.2 cX⟩
   ·simp only[List.mem_cons,List.not_mem_nil,or_false] at hx
    subst hx;exact⟨by omega,cX⟩
  ·intro q hq
   have hq:q<t+1:=hq
   by_cases e:q=t
   ·subst e
    have e2:(ids++[n+6]).getD q 0=n+6:=by rw[List.getD,List.getElem?_append_right (by omega),hil,Nat.sub_self];rfl
    dsimp only
    rw[e2];exact⟨_,bf⟩
   ·obtain⟨d,hd⟩:=hls q (by omega)
    have e2:(ids++[n+6]).getD q 0=ids.getD q 0:=by simp[List.getD,List.getElem?_append,show q<ids.length by omega]
    have:=hin _ (eI (l:=ids) (q:=q) (by omega))
    dsimp only
    rw[e2];exact⟨d,Eq.trans br hd⟩
 ·have:t=m.bg.length:=by omega
  subst this
  rw[List.take_length] at r5
  refine cW ?_
  refine⟨⟨nx+32,nx+12,nx+76,nx+18,nx+24,nx+30,ids,rfl,⟨⟨_,bf⟩,⟨_,bf⟩,⟨_,bf⟩,fun t ht=> ?_,⟨_,bf⟩,⟨_,bf⟩,⟨_,bf⟩,hil, ?_⟩, ?_,cX,fun y hy=>Eq.trans br (hkp y hy)⟩⟩
  ·obtain⟨d,hd⟩:=hls t ht
   have:=hin _ (eI (l:=ids) (q:=t) (by omega))
   exact⟨d,Eq.trans br hd⟩
  ·have hno:∀k,k<nx+77→k∉ids:=fun k hk h=>by have:=hin _ h;omega
   simp only[List.nodup_cons,List.mem_cons,not_or]
   exact⟨⟨by omega,by omega,by omega,by omega,by omega,hno _ (by omega)⟩,⟨by omega,by omega,by omega,by omega,hno _ (by omega)⟩,⟨by omega,by omega,by omega,hno _ (by omega)⟩,⟨by omega,by omega,hno _ (by omega)⟩,⟨by omega,hno _ (by omega)⟩,hno _ (by omega),hnd⟩
  ·intro x hx
   simp only[List.mem_cons] at hx
   rcases hx with rfl|rfl|rfl|rfl|rfl|rfl|hx
   all_goals first
    |exact⟨by omega,by omega⟩
    |(have:=hin _ hx;exact⟨by omega,by omega⟩)
end Go.Proofs.YtekfmjjmihomlaaGreat
end
section
/- The machine in rows, frozen. -/
namespace Go.Proofs.YtekfmjjmihomlaaGreat
open Go Go.cO Go.Proofs
set_option linter.unusedSimpArgs false
set_option linter.unusedVariables false
theorem rC {H:Hp} {k:Nat} {cs:List AV}:cO.dK H (k+1) (.agg cs)= .agg (cs.map (cO.dK H k)):=by simp only[dK]
theorem JG.dK {u:bh} {m:MS} {mr a s me ho pr:Nat} {ids:List Nat} {H:Hp} (h:JG u m mr a s me ho pr ids H) (k:Nat):cO.dK H (k+5) (.pt mr 1 0 0)=m.fz u:=by
 obtain⟨d1,h1⟩:=h.rM
 obtain⟨d2,h2⟩:=h.rA
 obtain⟨d3,h3⟩:=h.rS
 obtain⟨d4,h4⟩:=h.rE
 obtain⟨d5,h5⟩:=h.rH
 obtain⟨d6,h6⟩:=h.rP
 have hsl:(dc ids m.bg).length=m.bg.length:=by unfold dc;rw[List.length_map,List.length_zip,h.len];simp
 have hs:(dc ids m.bg).map (cO.dK H (k+2))=m.bg.map ct:=by
  apply List.ext_getElem (by simp[hsl])
  intro t q1 q2
  have ht:t<m.bg.length:=by simpa using q2
  have hti:t<ids.length:=by rw[h.len];exact ht
  obtain⟨d,hd⟩:=h.rL t ht
  rw[show ids.getD t 0=ids[t] by simp[List.getD,hti],show m.bg.getD t []=m.bg[t] by simp[List.getD,ht]] at hd
  rw[List.getElem_map,List.getElem_map]
  simp only[dc,List.getElem_map,List.getElem_zip]
  rw[dt hd (by simp),dD _ ((cA _ _).2 fun _ _=>by simp[bz])]
 simp only[cO.dK,h1]
 simp only[List.length_cons,List.length_nil,if_true,List.map_cons,List.map_nil,MS.rows]
 rw[rC]
 simp only[List.map_cons,List.map_nil]
 rw[dt h2 (by simp),dt h3 hsl,dt h4 (by simp),dt h5 (by simp),dt h6 (by simp),hs]
 rw[dD _ ((cA _ _).2 fun _ _=>by simp[bz]),dD _ ((cA _ _).2 fun _ _=>by simp[bz]),dD _ ((cA _ _).2 fun _ _=>by simp[bz]),dD _ ((cA _ _).2 fun _ _=>by simp[bz])]
 rw[dS _ (show bz 0 (cV u.shared) by simp[bz,cA]),dS _ (show bz 0 (cV u.bx) by simp[bz,cA]),dS _ (show bz 0 (dU u.bj) by simp[bz,cA])]
 rfl
end Go.Proofs.YtekfmjjmihomlaaGreat
end
section
/- The machine that has done nothing. -/
namespace Go.Proofs.YtekfmjjmihomlaaGreat
open Go Go.cO Go.Proofs
set_option linter.unusedSimpArgs false
set_option linter.unusedVariables false
def dV (u:bh):MS:=⟨u.bj.map fun _=>0,u.bj.map fun g=>List.replicate g.bg.toNat 0,u.shared.map Decl.word,u.bx.map fun _=>-1,[]⟩
theorem FY (u:bh) (hr:cr u) (hw:∀d∈u.shared,dR d.word) (hn:∀t,t<u.bj.length→0<(u.gr t).nodes.length):eH u (dV u) where
 nw:=by simp[dV]
 fp:=fun t ht=>by
  have e:(dV u).at_.getD t 0=0:=by simp[dV,List.getD,ht]
  rw[e]
  exact⟨Int.le_refl _,by have:=hn t ht;omega⟩
 sl:=by simp[dV]
 wQ:=fun t ht=>by
  have e:(dV u).bg.getD t []=List.replicate (u.gr t).bg.toNat 0:=by simp[dV,List.getD,bh.gr,ht]
  rw[e,List.length_replicate]
 wR:=fun t ht w hw=>by
  have e:(dV u).bg.getD t []=List.replicate (u.gr t).bg.toNat 0:=by simp[dV,List.getD,bh.gr,ht]
  rw[e] at hw
  rw[List.eq_of_mem_replicate hw]
  exact⟨by omega,by omega⟩
 ml:=by simp[dV]
 mw:=fun w h=>by
  obtain⟨d,hd,rfl⟩:=List.mem_map.1 h
  exact hw d hd
 hl:=by simp[dV]
 hw:=fun w h=>by
  obtain⟨d,hd,rfl⟩:=List.mem_map.1 h
  exact⟨by omega,by omega⟩
 pw:=fun p h=>by simp[dV] at h
end Go.Proofs.YtekfmjjmihomlaaGreat
end
section
/- Operators. -/
namespace Go.Proofs.YtekfmjjmihomlaaGreat
open Go Go.cO Go.Proofs
set_option linter.unusedSimpArgs false
set_option linter.unusedVariables false
set_option maxHeartbeats 1000000
abbrev ru (n:Int):Int:=IntKind.i64.wrap n
def zH (a b:Int):Int:=if b=0 then 0 else if b=-1 then ru (0 - a) else ru (a.tdiv b)
def C0 (a b:Int):Int:=if b=0 then a else ru (a - ru (zH a b * b))
def JV (a b:Int):Int:=ru ((BitVec.ofInt 64 a&&& BitVec.ofInt 64 b).toNat:Int)
def MF (a b:Int):Int:=ru ((BitVec.ofInt 64 a|||BitVec.ofInt 64 b).toNat:Int)
def KZ (a b:Int):Int:=ru ((BitVec.ofInt 64 a^^^BitVec.ofInt 64 b).toNat:Int)
def AF (b:Int):Int:=IntKind.u64.wrap ((BitVec.ofInt 64 (IntKind.u64.wrap b)&&& BitVec.ofInt 64 63).toNat:Int)
def KM (a b:Int):Int:=ru (a * 2^(min (AF b).toNat 64))
def GD (a b:Int):Int:=a.fdiv (2^(min (AF b).toNat 64))
def tr (t:Bool):Int:=if t=true then 1 else 0
theorem cR (t:Bool):Pure Tryz.prog 173 [bl t] (fun r=>r=i64 (tr t)):=by
 refine aI tv rfl ?_
 repeat' (first|((with_reducible refine aF ?_);conv=>whnf)|refine aG ?_|exact aC|with_reducible refine aD ?_ ?_|(apply aA;(·exact cH))|refine aH ?_|((with_reducible refine aB ?_ ?_)<;>intro hc<;>(try simp only[List.length_map,ne_eq,dX] at hc)<;>try(exfalso;omega)))
 all_goals simp_all[tr]
theorem lS (a b:Int):Pure Tryz.prog 155 [i64 a,i64 b] (fun r=>r=i64 (ru (a+b))):=by
 refine aI tS rfl ?_
 repeat' (first|((with_reducible refine aF ?_);conv=>whnf)|refine aG ?_|exact aC|with_reducible refine aD ?_ ?_|(apply aA;(·exact cH))|refine aH ?_|((with_reducible refine aB ?_ ?_)<;>intro hc<;>(try simp only[List.length_map,ne_eq,dX] at hc)<;>try(exfalso;omega)))
 all_goals exact rfl
theorem mE (a b:Int):Pure Tryz.prog 156 [i64 a,i64 b] (fun r=>r=i64 (ru (a - b))):=by
 refine aI tT rfl ?_
 repeat' (first|((with_reducible refine aF ?_);conv=>whnf)|refine aG ?_|exact aC|with_reducible refine aD ?_ ?_|(apply aA;(·exact cH))|refine aH ?_|((with_reducible refine aB ?_ ?_)<;>intro hc<;>(try simp only[List.length_map,ne_eq,dX] at hc)<;>try(exfalso;omega)))
 all_goals exact rfl
theorem lg (a b:Int):Pure Tryz.prog 157 [i64 a,i64 b] (fun r=>r=i64 (ru (a * b))):=by
 refine aI tU rfl ?_
 repeat' (first|((with_reducible refine aF ?_);conv=>whnf)|refine aG ?_|exact aC|with_reducible refine aD ?_ ?_|(apply aA;(·exact cH))|refine aH ?_|((with_reducible refine aB ?_ ?_)<;>intro hc<;>(try simp only[List.length_map,ne_eq,dX] at hc)<;>try(exfalso;omega)))
 all_goals exact rfl
theorem fq (a b:Int):Pure Tryz.prog 158 [i64 a,i64 b] (fun r=>r=i64 (zH a b)):=by
 refine aI tV rfl ?_
 repeat' (first|((with_reducible refine aF ?_);conv=>whnf)|refine aG ?_|exact aC|with_reducible refine aD ?_ ?_|(apply aA;(·exact cH))|refine aH ?_|((with_reducible refine aB ?_ ?_)<;>intro hc<;>(try simp only[List.length_map,ne_eq,dX] at hc)<;>try(exfalso;omega)))
 all_goals simp_all[zH]
theorem lz (a b:Int):Pure Tryz.prog 159 [i64 a,i64 b] (fun r=>r=i64 (C0 a b)):=by
 refine aI tW rfl ?_
 repeat' (first|((with_reducible refine aF ?_);conv=>whnf)|refine aG ?_|exact aC|with_reducible refine aD ?_ ?_|(apply aA;(·exact cH))|((with_reducible refine aO (fq _ _) ?_ ?_);(·exact bo))|((with_reducible refine aN (fun _=>fq _ _) ?_ ?_);(·exact bo))|((with_reducible refine aL (fq _ _) ?_ ?_);(·exact bo))|((with_reducible refine aM (fun _=>fq _ _) ?_ ?_);(·exact bo))|refine aH ?_|((with_reducible refine aB ?_ ?_)<;>intro hc<;>(try simp only[List.length_map,ne_eq,dX] at hc)<;>try(exfalso;omega)))
 all_goals simp_all[C0]
theorem lT (a b:Int):Pure Tryz.prog 160 [i64 a,i64 b] (fun r=>r=i64 (JV a b)):=by
 refine aI tX rfl ?_
 repeat' (first|((with_reducible refine aF ?_);conv=>whnf)|refine aG ?_|exact aC|with_reducible refine aD ?_ ?_|(apply aA;(·exact cH))|refine aH ?_|((with_reducible refine aB ?_ ?_)<;>intro hc<;>(try simp only[List.length_map,ne_eq,dX] at hc)<;>try(exfalso;omega)))
 all_goals exact rfl
theorem lq (a b:Int):Pure Tryz.prog 161 [i64 a,i64 b] (fun r=>r=i64 (MF a b)):=by
 refine aI tY rfl ?_
 repeat' (first|((with_reducible refine aF ?_);conv=>whnf)|refine aG ?_|exact aC|with_reducible refine aD ?_ ?_|(apply aA;(·exact cH))|refine aH ?_|((with_reducible refine aB ?_ ?_)<;>intro hc<;>(try simp only[List.length_map,ne_eq,dX] at hc)<;>try(exfalso;omega)))
 all_goals exact rfl
theorem mG (a b:Int):Pure Tryz.prog 162 [i64 a,i64 b] (fun r=>r=i64 (KZ a b)):=by
 refine aI tZ rfl ?_
 repeat' (first|((with_reducible refine aF ?_);conv=>whnf)|refine aG ?_|exact aC|with_reducible refine aD ?_ ?_|(apply aA;(·exact cH))|refine aH ?_|((with_reducible refine aB ?_ ?_)<;>intro hc<;>(try simp only[List.length_map,ne_eq,dX] at hc)<;>try(exfalso;omega)))
 all_goals exact rfl
theorem mB (a b:Int):Pure Tryz.prog 163 [i64 a,i64 b] (fun r=>r=i64 (KM a b)):=by
 refine aI ta rfl ?_
 repeat' (first|((with_reducible refine aF ?_);conv=>whnf)|refine aG ?_|exact aC|with_reducible refine aD ?_ ?_|(apply aA;(·exact cH))|refine aH ?_|((with_reducible refine aB ?_ ?_)<;>intro hc<;>(try simp only[List.length_map,ne_eq,dX] at hc)<;>try(exfalso;omega)))
 all_goals exact rfl
theorem mC (a b:Int):Pure Tryz.prog 164 [i64 a,i64 b] (fun r=>r=i64 (GD a b)):=by
 refine aI tc rfl ?_
 repeat' (first|((with_reducible refine aF ?_);conv=>whnf)|refine aG ?_|exact aC|with_reducible refine aD ?_ ?_|(apply aA;(·exact cH))|refine aH ?_|((with_reducible refine aB ?_ ?_)<;>intro hc<;>(try simp only[List.length_map,ne_eq,dX] at hc)<;>try(exfalso;omega)))
 all_goals exact rfl
theorem nW (a b:Int):Pure Tryz.prog 165 [i64 a,i64 b] (fun r=>r=i64 (tr (decide (a=b)))):=by
 refine aI tf rfl ?_
 repeat' (first|((with_reducible refine aF ?_);conv=>whnf)|refine aG ?_|exact aC|with_reducible refine aD ?_ ?_|(apply aA;(·exact cH))|((with_reducible refine aO (cR _) ?_ ?_);(·exact bo))|((with_reducible refine aN (fun _=>cR _) ?_ ?_);(·exact bo))|((with_reducible refine aL (cR _) ?_ ?_);(·exact bo))|((with_reducible refine aM (fun _=>cR _) ?_ ?_);(·exact bo))|refine aH ?_|((with_reducible refine aB ?_ ?_)<;>intro hc<;>(try simp only[List.length_map,ne_eq,dX] at hc)<;>try(exfalso;omega)))
 all_goals exact rfl
theorem jK (a b:Int):Pure Tryz.prog 166 [i64 a,i64 b] (fun r=>r=i64 (tr (decide (a≠b)))):=by
 refine aI tg rfl ?_
 repeat' (first|((with_reducible refine aF ?_);conv=>whnf)|refine aG ?_|exact aC|with_reducible refine aD ?_ ?_|(apply aA;(·exact cH))|((with_reducible refine aO (cR _) ?_ ?_);(·exact bo))|((with_reducible refine aN (fun _=>cR _) ?_ ?_);(·exact bo))|((with_reducible refine aL (cR _) ?_ ?_);(·exact bo))|((with_reducible refine aM (fun _=>cR _) ?_ ?_);(·exact bo))|refine aH ?_|((with_reducible refine aB ?_ ?_)<;>intro hc<;>(try simp only[List.length_map,ne_eq,dX] at hc)<;>try(exfalso;omega)))
 all_goals exact rfl
theorem kI (a b:Int):Pure Tryz.prog 167 [i64 a,i64 b] (fun r=>r=i64 (tr (decide (a<b)))):=by
 refine aI tj rfl ?_
 repeat' (first|((with_reducible refine aF ?_);conv=>whnf)|refine aG ?_|exact aC|with_reducible refine aD ?_ ?_|(apply aA;(·exact cH))|((with_reducible refine aO (cR _) ?_ ?_);(·exact bo))|((with_reducible refine aN (fun _=>cR _) ?_ ?_);(·exact bo))|((with_reducible refine aL (cR _) ?_ ?_);(·exact bo))|((with_reducible refine aM (fun _=>cR _) ?_ ?_);(·exact bo))|refine aH ?_|((with_reducible refine aB ?_ ?_)<;>intro hc<;>(try simp only[List.length_map,ne_eq,dX] at hc)<;>try(exfalso;omega)))
 all_goals exact rfl
theorem kK (a b:Int):Pure Tryz.prog 168 [i64 a,i64 b] (fun r=>r=i64 (tr (decide (a≤b)))):=by
 refine aI tk rfl ?_
 repeat' (first|((with_reducible refine aF ?_);conv=>whnf)|refine aG ?_|exact aC|with_reducible refine aD ?_ ?_|(apply aA;(·exact cH))|((with_reducible refine aO (cR _) ?_ ?_);(·exact bo))|((with_reducible refine aN (fun _=>cR _) ?_ ?_);(·exact bo))|((with_reducible refine aL (cR _) ?_ ?_);(·exact bo))|((with_reducible refine aM (fun _=>cR _) ?_ ?_);(·exact bo))|refine aH ?_|((with_reducible refine aB ?_ ?_)<;>intro hc<;>(try simp only[List.length_map,ne_eq,dX] at hc)<;>try(exfalso;omega)))
 all_goals exact rfl
theorem jC (a b:Int):Pure Tryz.prog 169 [i64 a,i64 b] (fun r=>r=i64 (tr (decide (b<a)))):=by
 refine aI tm rfl ?_
 repeat' (first|((with_reducible refine aF ?_);conv=>whnf)|refine aG ?_|exact aC|with_reducible refine aD ?_ ?_|(apply aA;(·exact cH))|((with_reducible refine aO (cR _) ?_ ?_);(·exact bo))|((with_reducible refine aN (fun _=>cR _) ?_ ?_);(·exact bo))|((with_reducible refine aL (cR _) ?_ ?_);(·exact bo))|((with_reducible refine aM (fun _=>cR _) ?_ ?_);(·exact bo))|refine aH ?_|((with_reducible refine aB ?_ ?_)<;>intro hc<;>(try simp only[List.length_map,ne_eq,dX] at hc)<;>try(exfalso;omega)))
 all_goals exact rfl
theorem jM (a b:Int):Pure Tryz.prog 170 [i64 a,i64 b] (fun r=>r=i64 (tr (decide (b≤a)))):=by
 refine aI tn rfl ?_
 repeat' (first|((with_reducible refine aF ?_);conv=>whnf)|refine aG ?_|exact aC|with_reducible refine aD ?_ ?_|(apply aA;(·exact cH))|((with_reducible refine aO (cR _) ?_ ?_);(·exact bo))|((with_reducible refine aN (fun _=>cR _) ?_ ?_);(·exact bo))|((with_reducible refine aL (cR _) ?_ ?_);(·exact bo))|((with_reducible refine aM (fun _=>cR _) ?_ ?_);(·exact bo))|refine aH ?_|((with_reducible refine aB ?_ ?_)<;>intro hc<;>(try simp only[List.length_map,ne_eq,dX] at hc)<;>try(exfalso;omega)))
 all_goals exact rfl
theorem jP (a:Int):Pure Tryz.prog 171 [i64 a] (fun r=>r=i64 (ru (0 - a))):=by
 refine aI tq rfl ?_
 repeat' (first|((with_reducible refine aF ?_);conv=>whnf)|refine aG ?_|exact aC|with_reducible refine aD ?_ ?_|(apply aA;(·exact cH))|refine aH ?_|((with_reducible refine aB ?_ ?_)<;>intro hc<;>(try simp only[List.length_map,ne_eq,dX] at hc)<;>try(exfalso;omega)))
 all_goals exact rfl
theorem ll (a:Int):Pure Tryz.prog 172 [i64 a] (fun r=>r=i64 (tr (decide (a=0)))):=by
 refine aI tu rfl ?_
 repeat' (first|((with_reducible refine aF ?_);conv=>whnf)|refine aG ?_|exact aC|with_reducible refine aD ?_ ?_|(apply aA;(·exact cH))|((with_reducible refine aO (cR _) ?_ ?_);(·exact bo))|((with_reducible refine aN (fun _=>cR _) ?_ ?_);(·exact bo))|((with_reducible refine aL (cR _) ?_ ?_);(·exact bo))|((with_reducible refine aM (fun _=>cR _) ?_ ?_);(·exact bo))|refine aH ?_|((with_reducible refine aB ?_ ?_)<;>intro hc<;>(try simp only[List.length_map,ne_eq,dX] at hc)<;>try(exfalso;omega)))
 all_goals exact rfl
def HH:AV:= .agg [.sc .nilFunc, .sc .nilFunc, .fn (.func 155) [] [], .sc .nilFunc, .fn (.func 156) [] [], .sc .nilFunc, .fn (.func 157) [] [], .sc .nilFunc, .fn (.func 158) [] [], .sc .nilFunc, .fn (.func 159) [] [], .sc .nilFunc, .fn (.func 160) [] [], .sc .nilFunc, .fn (.func 161) [] [], .sc .nilFunc, .fn (.func 162) [] [], .sc .nilFunc, .fn (.func 163) [] [], .sc .nilFunc, .fn (.func 164) [] [], .sc .nilFunc, .fn (.func 165) [] [], .sc .nilFunc, .fn (.func 166) [] [], .sc .nilFunc, .fn (.func 167) [] [], .sc .nilFunc, .fn (.func 168) [] [], .sc .nilFunc, .fn (.func 169) [] [], .sc .nilFunc, .fn (.func 170) [] [], .sc .nilFunc, .sc .nilFunc, .fn (.func 171) [] [], .sc .nilFunc, .fn (.func 172) [] []]
theorem jl:Pure Tryz.prog 147 [] (fun r=>r=HH):=kQ (by simp[HH,bz,cK]) (by kernel_rfl)
def GX (op a b:Int):Int:=if op=1 then ru (a+b) else if op=2 then ru (a - b) else if op=3 then ru (a * b) else if op=4 then zH a b else if op=5 then C0 a b else if op=6 then JV a b else if op=7 then MF a b else if op=8 then KZ a b else if op=9 then KM a b else if op=10 then GD a b else if op=11 then tr (decide (a=b)) else if op=12 then tr (decide (a≠b)) else if op=13 then tr (decide (a<b)) else if op=14 then tr (decide (a≤b)) else if op=15 then tr (decide (b<a)) else tr (decide (b≤a))
def F2 (op a:Int):Int:=if op=17 then ru (0 - a) else tr (decide (a=0))
theorem zZ {op:Int} (h:dH op=true):op=1∨op=2∨op=3∨op=4∨op=5∨op=6∨op=7∨op=8∨op=9∨op=10∨op=11∨op=12∨op=13∨op=14∨op=15∨op=16:=by
 simp only[dH,Bool.and_eq_true,decide_eq_true_eq] at h;omega
theorem HN (op a b:Int) (h:dH op=true):Pure Tryz.prog 124 [u8 op,i64 a,i64 b] (fun r=>r= .dY [i64 (GX op a b),i64 0]):=by
 refine aI tL rfl ?_
 rcases zZ h with rfl|rfl|rfl|rfl|rfl|rfl|rfl|rfl|rfl|rfl|rfl|rfl|rfl|rfl|rfl|rfl
 all_goals repeat' (first|((with_reducible refine aF ?_);conv=>whnf)|refine aG ?_|exact aC|with_reducible refine aD ?_ ?_|(apply aA;(·exact cH))|((with_reducible refine aO (eL _ (by omega)) ?_ ?_);(·exact bo))|((with_reducible refine aN (fun _=>eL _ (by omega)) ?_ ?_);(·exact bo))|((with_reducible refine aL (eL _ (by omega)) ?_ ?_);(·exact bo))|((with_reducible refine aM (fun _=>eL _ (by omega)) ?_ ?_);(·exact bo))|refine aK (jl) ?_|((with_reducible refine aO (lS _ _) ?_ ?_);(·exact bo))|((with_reducible refine aN (fun _=>lS _ _) ?_ ?_);(·exact bo))|((with_reducible refine aL (lS _ _) ?_ ?_);(·exact bo))|((with_reducible refine aM (fun _=>lS _ _) ?_ ?_);(·exact bo))|((with_reducible refine aO (mE _ _) ?_ ?_);(·exact bo))|((with_reducible refine aN (fun _=>mE _ _) ?_ ?_);(·exact bo))|((with_reducible refine aL (mE _ _) ?_ ?_);(·exact bo))|((with_reducible refine aM (fun _=>mE _ _) ?_ ?_);(·exact bo))|((with_reducible refine aO (lg _ _) ?_ ?_);(·exact bo))|((with_reducible refine aN (fun _=>lg _ _) ?_ ?_);(·exact bo))|((with_reducible refine aL (lg _ _) ?_ ?_);(·exact bo))|((with_reducible refine aM (fun _=>lg _ _) ?_ ?_);(·exact bo))|((with_reducible refine aO (fq _ _) ?_ ?_);(·exact bo))|((with_reducible refine aN (fun _=>fq _ _) ?_ ?_);(·exact bo))|((with_reducible refine aL (fq _ _) ?_ ?_);(·exact bo))|((with_reducible refine aM (fun _=>fq _ _) ?_ ?_);(·exact bo))|((with_reducible refine aO (lz _ _) ?_ ?_);(·exact bo))|((with_reducible refine aN (fun _=>lz _ _) ?_ ?_);(·exact bo))|((with_reducible refine aL (lz _ _) ?_ ?_);(·exact bo))|((with_reducible refine aM (fun _=>lz _ _) ?_ ?_);(·exact bo))|((with_reducible refine aO (lT _ _) ?_ ?_);(·exact bo))|((with_reducible refine aN (fun _=>lT _ _) ?_ ?_);(·exact bo))|((with_reducible refine aL (lT _ _) ?_ ?_);(·exact bo))|((with_reducible refine aM (fun _=>lT _ _) ?_ ?_);(·exact bo))|((with_reducible refine aO (lq _ _) ?_ ?_);(·exact bo))|((with_reducible refine aN (fun _=>lq _ _) ?_ ?_);(·exact bo))|((with_reducible refine aL (lq _ _) ?_ ?_);(·exact bo))|((with_reducible refine aM (fun _=>lq _ _) ?_ ?_);(·exact bo))|((with_reducible refine aO (mG _ _) ?_ ?_);(·exact bo))|((with_reducible refine aN (fun _=>mG _ _) ?_ ?_);(·exact bo))|((with_reducible refine aL (mG _ _) ?_ ?_);(·exact bo))|((with_reducible refine aM (fun _=>mG _ _) ?_ ?_);(·exact bo))|((with_reducible refine aO (mB _ _) ?_ ?_);(·exact bo))|((with_reducible refine aN (fun _=>mB _ _) ?_ ?_);(·exact bo))|((with_reducible refine aL (mB _ _) ?_ ?_);(·exact bo))|((with_reducible refine aM (fun _=>mB _ _) ?_ ?_);(·exact bo))|((with_reducible refine aO (mC _ _) ?_ ?_);(·exact bo))|((with_reducible refine aN (fun _=>mC _ _) ?_ ?_);(·exact bo))|((with_reducible refine aL (mC _ _) ?_ ?_);(·exact bo))|((with_reducible refine aM (fun _=>mC _ _) ?_ ?_);(·exact bo))|((with_reducible refine aO (nW _ _) ?_ ?_);(·exact bo))|((with_reducible refine aN (fun _=>nW _ _) ?_ ?_);(·exact bo))|((with_reducible refine aL (nW _ _) ?_ ?_);(·exact bo))|((with_reducible refine aM (fun _=>nW _ _) ?_ ?_);(·exact bo))|((with_reducible refine aO (jK _ _) ?_ ?_);(·exact bo))|((with_reducible refine aN (fun _=>jK _ _) ?_ ?_);(·exact bo))|((with_reducible refine aL (jK _ _) ?_ ?_);(·exact bo))|((with_reducible refine aM (fun _=>jK _ _) ?_ ?_);(·exact bo))|((with_reducible refine aO (kI _ _) ?_ ?_);(·exact bo))|((with_reducible refine aN (fun _=>kI _ _) ?_ ?_);(·exact bo))|((with_reducible refine aL (kI _ _) ?_ ?_);(·exact bo))|((with_reducible refine aM (fun _=>kI _ _) ?_ ?_);(·exact bo))|((with_reducible refine aO (kK _ _) ?_ ?_);(·exact bo))|((with_reducible refine aN (fun _=>kK _ _) ?_ ?_);(·exact bo))|((with_reducible refine aL (kK _ _) ?_ ?_);(·exact bo))|((with_reducible refine aM (fun _=>kK _ _) ?_ ?_);(·exact bo))|((with_reducible refine aO (jC _ _) ?_ ?_);(·exact bo))|((with_reducible refine aN (fun _=>jC _ _) ?_ ?_);(·exact bo))|((with_reducible refine aL (jC _ _) ?_ ?_);(·exact bo))|((with_reducible refine aM (fun _=>jC _ _) ?_ ?_);(·exact bo))|((with_reducible refine aO (jM _ _) ?_ ?_);(·exact bo))|((with_reducible refine aN (fun _=>jM _ _) ?_ ?_);(·exact bo))|((with_reducible refine aL (jM _ _) ?_ ?_);(·exact bo))|((with_reducible refine aM (fun _=>jM _ _) ?_ ?_);(·exact bo))|refine aH ?_|((with_reducible refine aB ?_ ?_)<;>intro hc<;>(try simp only[List.length_map,ne_eq,dX] at hc)<;>try(exfalso;omega)))
 all_goals (first|exact rfl|trace_state)
theorem DS (op a:Int) (h:op=17∨op=18):Pure Tryz.prog 125 [u8 op,i64 a] (fun r=>r= .dY [i64 (F2 op a),i64 0]):=by
 refine aI tM rfl ?_
 rcases h with rfl|rfl
 all_goals repeat' (first|((with_reducible refine aF ?_);conv=>whnf)|refine aG ?_|exact aC|with_reducible refine aD ?_ ?_|(apply aA;(·exact cH))|((with_reducible refine aO (e9 _) ?_ ?_);(·exact bo))|((with_reducible refine aN (fun _=>e9 _) ?_ ?_);(·exact bo))|((with_reducible refine aL (e9 _) ?_ ?_);(·exact bo))|((with_reducible refine aM (fun _=>e9 _) ?_ ?_);(·exact bo))|((with_reducible refine aO (eL _ (by omega)) ?_ ?_);(·exact bo))|((with_reducible refine aN (fun _=>eL _ (by omega)) ?_ ?_);(·exact bo))|((with_reducible refine aL (eL _ (by omega)) ?_ ?_);(·exact bo))|((with_reducible refine aM (fun _=>eL _ (by omega)) ?_ ?_);(·exact bo))|refine aK (jl) ?_|((with_reducible refine aO (jP _) ?_ ?_);(·exact bo))|((with_reducible refine aN (fun _=>jP _) ?_ ?_);(·exact bo))|((with_reducible refine aL (jP _) ?_ ?_);(·exact bo))|((with_reducible refine aM (fun _=>jP _) ?_ ?_);(·exact bo))|((with_reducible refine aO (ll _) ?_ ?_);(·exact bo))|((with_reducible refine aN (fun _=>ll _) ?_ ?_);(·exact bo))|((with_reducible refine aL (ll _) ?_ ?_);(·exact bo))|((with_reducible refine aM (fun _=>ll _) ?_ ?_);(·exact bo))|refine aH ?_|((with_reducible refine aB ?_ ?_)<;>intro hc<;>(try simp only[List.length_map,ne_eq,dX] at hc)<;>try(exfalso;omega)))
 all_goals (first|exact rfl|trace_state)
end Go.Proofs.YtekfmjjmihomlaaGreat
end
section
/- A step in plain data. -/
namespace Go.Proofs.YtekfmjjmihomlaaGreat
open Go Go.cO Go.Proofs
set_option linter.unusedSimpArgs false
set_option linter.unusedVariables false
structure fR where
 cP:Int
 node:Int
 kind:Int
 cG:Int
 word:Int
 put:Int
 deriving Inhabited,DecidableEq
def fR.cells (d:fR):List AV:=[i64 d.cP,i64 d.node,u8 d.kind,i64 d.cG,i64 d.word,i64 d.put]
abbrev fR.av (d:fR):AV:= .agg d.cells
def MS.val (m:MS) (t:Nat) (v:kU):Int:=if v.gb then(m.bg.getD t []).getD v.slot.toNat 0 else v.word
def MS.fM (m:MS) (t:Nat) (k:Int) (w:Int):MS:={ m with bg:=m.bg.set t ((m.bg.getD t []).set k.toNat w) }
def MS.wN (m:MS) (t:Nat) (n:Node):Int:=if dH n.op then GX n.op (m.val t n.a) (m.val t n.b) else if n.op≠0 then F2 n.op (m.val t n.a) else m.val t n.a
def MS.act (m:MS) (t:Nat) (n:Node):MS×Int×Int×Int×Int:=
 if n.kind=1 then(m.fM t n.slot (m.wN t n),n.next,0,m.wN t n,0)
 else if n.kind=2 then(m.fM t n.slot (m.mem.getD n.cG.toNat 0),n.next,n.cG,m.mem.getD n.cG.toNat 0,0)
 else if n.kind=3 then({ m with mem:=m.mem.set n.cG.toNat (m.val t n.a) },n.next,n.cG,m.val t n.a,0)
 else if n.kind=4 then({ m.fM t n.slot (m.mem.getD n.cG.toNat 0) with mem:=m.mem.set n.cG.toNat (m.val t n.a) },n.next,n.cG,m.mem.getD n.cG.toNat 0,m.val t n.a)
 else if n.kind=5 then({ m with hold:=m.hold.set n.cG.toNat t },n.next,n.cG,0,0)
 else if n.kind=6 then({ m with hold:=m.hold.set n.cG.toNat (-1) },n.next,n.cG,0,0)
 else if n.kind=7 then({ m with bn:=m.bn++[⟨t,m.val t n.a⟩] },n.next,0,m.val t n.a,0)
 else(m,if m.val t n.a=0 then n.oJ else n.next,0,m.val t n.a,0)
def MS.step (u:bh) (m:MS) (t:Nat):MS×fR:=
 let n:=m.node u t
 let r:=m.act t n
 ({ r.1 with at_:=m.at_.set t r.2.1 },⟨t,m.at_.getD t 0,n.kind,r.2.2.1,r.2.2.2.1,r.2.2.2.2⟩)
end Go.Proofs.YtekfmjjmihomlaaGreat
end
