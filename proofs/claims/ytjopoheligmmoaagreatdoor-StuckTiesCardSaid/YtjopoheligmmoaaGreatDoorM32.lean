import Derived.Test.YtjopoheligmmoaaGreatDoorM28
import Derived.Test.YtjopoheligmmoaaGreatDoorM29
import Derived.Test.YtjopoheligmmoaaGreatDoorM30
import Derived.Test.YtjopoheligmmoaaGreatDoorM31
section
/- The source machine in plain data. -/
namespace Go.Proofs.YtjopoheligmmoaaGreatDoor
open Go Go.cY Go.Proofs
set_option linter.unusedSimpArgs false
set_option linter.unusedVariables false
structure dV where
 dW:Int
 word:Int
 deriving Inhabited,DecidableEq
def dV.cells (p:dV):List AV:=[i64 p.dW,i64 p.word]
abbrev dV.av (p:dV):AV:= .agg p.cells
structure MS where
 at_:List Int
 bz:List (List Int)
 mem:List Int
 hold:List Int
 cP:List dV
 deriving Inhabited,DecidableEq
abbrev cO (l:List Int):AV:= .im 1 .any (l.map i64)
abbrev G0 (l:List (List Int)):AV:= .im 1 .any (l.map cO)
abbrev fp (l:List dV):AV:= .im 2 .any (l.map dV.av)
def MS.cells (u:bw) (m:MS):List AV:=[ct u.shared,ct u.cE,de u.bu,cO m.at_,G0 m.bz,cO m.mem,cO m.hold,fp m.cP]
abbrev MS.fz (u:bw) (m:MS):AV:= .ip 8 .any [.agg (m.cells u)] 0 0
@[simp] theorem W4 (n:Nat) (p:dV):cZ n p.cells:=by simp[dV.cells,cZ,cK]
@[simp] theorem ZN (n:Nat) (u:bw) (m:MS):cZ n (m.cells u):=by simp[MS.cells,cZ,cK,cC]
theorem nc (n:Nat) (u:bw) (m:MS):cK n (m.fz u):=by simp[cK,cZ]
structure eM (u:bw) (m:MS):Prop where
 pd:m.at_.length=u.bu.length
 fy:∀t,t<u.bu.length→0≤m.at_.getD t 0∧m.at_.getD t 0<(u.gr t).nodes.length
 sl:m.bz.length=u.bu.length
 DM:∀t,t<u.bu.length→(m.bz.getD t []).length=(u.gr t).bz.toNat
 DN:∀t,t<u.bu.length→∀w∈m.bz.getD t [],eP w
 ml:m.mem.length=u.shared.length
 mw:∀w∈m.mem,eP w
 hl:m.hold.length=u.cE.length
 hw:∀w∈m.hold,-1≤w∧w<u.bu.length
 pw:∀p∈m.cP,0≤p.dW∧p.dW<u.bu.length∧eP p.word
abbrev MS.node (u:bw) (m:MS) (t:Nat):Node:=(u.gr t).nd (m.at_.getD t 0).toNat
def MS.k9 (u:bw) (m:MS) (t:Int):Int:=if t<0∨(m.at_.length:Int)≤t then 2 else if(m.node u t.toNat).kind=9 then 70 else if(m.node u t.toNat).kind=5∧0≤m.hold.getD (m.node u t.toNat).cM.toNat 0 then 71 else 0
theorem ints_at {l:List Int} {k:Nat} (h:k<l.length) (d:AV):(l.map i64).getD ((k:Int)).toNat d=i64 (l.getD k 0):=by
 rw[Int.toNat_natCast];exact dA i64 l k d h
theorem om {l:List Int} {k:Int} (h:k.toNat<l.length) (d:AV):(l.map i64).getD k.toNat d=i64 (l.getD k.toNat 0):=dA i64 l k.toNat d h
theorem eM.node {u:bw} {m:MS} (hr:cT u) (h:eM u m) {t:Nat} (ht:t<u.bu.length):nR u (u.gr t) (m.node u t):=by
 have:=h.fy t ht
 exact(hr.gr ht).nodes _ (cS default (by omega))
theorem ED {u:bw} {m:MS} {t:Int} (h:t<0∨(m.at_.length:Int)≤t):m.k9 u t=2:=by unfold MS.k9;rw[if_pos h]
theorem AI (u:bw) (m:MS) (t:Int):Pure Tryz.prog 68 [m.fz u,i64 t] (fun r=>r=bl (decide (¬(t<0∨(m.at_.length:Int)≤t)))):=by
 refine aI OC rfl ?_
 refine cU ?_
 refine fA ?_
 rw[List.length_map]
 by_cases h1:0≤t<;>by_cases h2:t<m.at_.length<;>simp[h1,h2]<;>omega
set_option maxRecDepth 8000 in
set_option maxHeartbeats 2000000 in
theorem vd (u:bw) (hr:cT u) (m:MS) (h:eM u m) (t:Int):Pure Tryz.prog 69 [m.fz u,i64 t] (fun r=>r=i64 (m.k9 u t)):=by
 have c0:=AI u m t
 have hl:=h.pd
 by_cases ht:t<0∨(m.at_.length:Int)≤t
 ·rw[ED ht]
  rw[decide_eq_false (fun e=>e ht)] at c0
  refine aI wI rfl ?_
  refine cU ?_
  first|exact rfl|trivial
 ·rw[decide_eq_true ht] at c0
  obtain⟨k,rfl⟩:∃k:Nat,t=k:=⟨t.toNat,by omega⟩
  have hk:k<u.bu.length:=by omega
  have hbar:m.k9 u k=if(m.node u k).kind=9 then 70 else if(m.node u k).kind=5∧0≤m.hold.getD (m.node u k).cM.toNat 0 then 71 else 0:=by
   unfold MS.k9;rw[if_neg ht,Int.toNat_natCast]
  rw[hbar]
  have hno:=h.node hr hk
  obtain⟨p0,p1⟩:=h.fy k hk
  have e0:=fun d=>oe (l:=u.bu) hk d
  have e1:=fun d=>ints_at (l:=m.at_) (k:=k) (by omega) d
  obtain⟨j,hj⟩:∃j:Nat,m.at_.getD k 0=j:=⟨(m.at_.getD k 0).toNat,by omega⟩
  rw[hj] at e1 p1
  have hnd:m.node u k=(u.gr k).nd j:=by unfold MS.node;rw[hj,Int.toNat_natCast]
  rw[hnd] at hno ⊢
  have hgr:u.bu.getD k default=u.gr k:=rfl
  rw[hgr] at e0
  generalize u.gr k=g at *
  have e2:=fun d=>ja (l:=g.nodes) (i:=j) (by omega) d
  rw[show g.nodes.getD j default=g.nd j from rfl] at e2
  generalize g.nd j=n at *
  have a0:(u.bu.map cD.av).length=u.bu.length:=by simp
  have a1:(m.at_.map i64).length=u.bu.length:=by simp[hl]
  have a2:(g.nodes.map Node.av).length=g.nodes.length:=by simp
  have a3:(m.hold.map i64).length=u.cE.length:=by simp[h.hl]
  by_cases h9:n.kind=9
  ·have r0:=h9
   rw[if_pos h9]
   refine aI wI rfl ?_
   refine cU ?_
   first|exact rfl|trivial
  ·rw[if_neg h9]
   by_cases h5:n.kind=5
   ·have hth:=hno.cM.1 (by unfold fw;exact decide_eq_true (by omega))
    rw[if_pos (.inl h5)] at hth
    have hhl:=h.hl
    have e3:=fun d=>om (l:=m.hold) (k:=n.cM) (by omega) d
    have r0:=h5
    by_cases hh:0≤m.hold.getD n.cM.toNat 0
    ·rw[if_pos ⟨h5,hh⟩]
     have r1:=decide_eq_true hh
     refine aI wI rfl ?_
     refine cU ?_
     first|exact rfl|trivial
    ·rw[if_neg fun e=>hh e.2]
     have r1:=decide_eq_false hh
     refine aI wI rfl ?_
     refine cU ?_
     first|exact rfl|trivial
   ·rw[if_neg fun e=>h5 e.1]
    have r1:=decide_eq_false h5
    refine aI wI rfl ?_
    refine cU ?_
    first|exact rfl|trivial
theorem LS (u:bw) (hr:cT u) (m:MS) (h:eM u m) (t:Int):Pure Tryz.prog 32 [m.fz u,i64 t] (fun r=>r=bl (decide (m.k9 u t=0))):=by
 have c0:=vd u hr m h t
 refine aI NW rfl ?_
 refine cU ?_
 first|exact rfl|trivial
def MS.ended (u:bw) (m:MS):Bool:=(List.range m.at_.length).all fun t=>decide (m.k9 u t=70)
theorem MA (u:bw) (hr:cT u) (m:MS) (h:eM u m):Pure Tryz.prog 67 [m.fz u] (fun r=>r=bl (m.ended u)):=by
 have hl:=h.pd
 have hgl:=hr.qX
 refine aI OB rfl ?_
 refine cU ?_
 rw[List.length_map]
 refine aM (fun i:Nat=>[(0,m.fz u),(10,i64 m.at_.length),(11,i64 i)]) (fun i H n=>i≤m.at_.length∧∀j:Nat,j<i→m.k9 u j=70) (fun i=>m.at_.length - i) 0 cH ⟨Nat.zero_le _,fun j hj=>by omega⟩ ?_
 rintro i H n ⟨hi,hall⟩
 by_cases hil:i<m.at_.length
 ·have c0:=vd u hr m h i
  by_cases hb:m.k9 u i=70
  ·have r0:=hb
   refine cU ?_
   exact⟨i+1,by omega,cH,by omega,fun j hj=>by
    by_cases e:j=i
    ·rw[e];exact hb
    ·exact hall j (by omega)⟩
  ·have r0:=decide_eq_true hb
   refine cU ?_
   refine fA (Eq.symm ?_)
   unfold MS.ended
   rw[List.all_eq_false]
   exact⟨i,List.mem_range.2 hil,by simpa using hb⟩
 ·refine cU ?_
  refine fA (Eq.symm ?_)
  unfold MS.ended
  rw[List.all_eq_true]
  intro j hj
  exact decide_eq_true (hall j (by have:=List.mem_range.1 hj;omega))
end Go.Proofs.YtjopoheligmmoaaGreatDoor
end
section
/- Ends compared: plain data, the small functions of the code. -/
namespace Go.Proofs.YtjopoheligmmoaaGreatDoor
open Go Go.cY Go.Proofs
set_option linter.unusedSimpArgs false
set_option linter.unusedVariables false
structure cm where
 cP:List dV
 mem:List Int
 ended:Bool
 deriving Inhabited,DecidableEq
def cm.cells (e:cm):List AV:=[fp e.cP,cO e.mem,bl e.ended]
abbrev cm.av (e:cm):AV:= .agg e.cells
@[simp] theorem Y3 (n:Nat) (e:cm):cZ n e.cells:=by simp[cm.cells,cZ,cK,cC]
def eX (x y:Int):Int:=if x<y then -1 else if y<x then 1 else 0
def sj:List Int→Int
 |[]=>0
 |x::l=>if x=0 then sj l else x
def jH (p q:dV):Int:=sj [eX p.dW q.dW,eX p.word q.word]
def ec {α:Type} (f:α→α→Int):List α→List α→Int
 |[],[]=>0
 |[],_::_=>-1
 |_::_,[]=>1
 |x::a,y::b=>if f x y=0 then ec f a b else f x y
def vk (a b:Bool):Int:=if a=b then 0 else if b then -1 else 1
def fq (a b:cm):Int:=sj [ec jH a.cP b.cP,ec eX a.mem b.mem,vk a.ended b.ended]
theorem vm {α:Type} (f:α→α→Int) (d:α) {a b:List α} {i:Nat} (h1:i<a.length) (h2:i<b.length):ec f (a.drop i) (b.drop i)=if f (a.getD i d) (b.getD i d)=0 then ec f (a.drop (i+1)) (b.drop (i+1)) else f (a.getD i d) (b.getD i d):=by
 rw[List.drop_eq_getElem_cons h1,List.drop_eq_getElem_cons h2,ec]
 simp[List.getD,List.getElem?_eq_getElem h1,List.getElem?_eq_getElem h2]
theorem rn {α:Type} (f:α→α→Int) {a b:List α} {i:Nat} (h1:i<a.length) (h2:b.length≤i):ec f (a.drop i) (b.drop i)=1:=by
 rw[List.drop_eq_getElem_cons h1,List.drop_of_length_le h2,ec]
theorem rk {α:Type} (f:α→α→Int) {a b:List α} {i:Nat} (h1:a.length≤i) (h2:i≤b.length):ec f (a.drop i) (b.drop i)=if i<b.length then -1 else 0:=by
 rw[List.drop_of_length_le h1]
 split
 ·rename_i h;rw[List.drop_eq_getElem_cons h,ec]
 ·rw[List.drop_of_length_le (by omega),ec]
theorem GR (x:Int):Pure Tryz.prog 104 [i64 x] (fun r=>r=bl false):=by
 refine aI yI rfl ?_
 refine cU ?_
 refine fA ?_
 simp
theorem zd (x:Int):Pure Tryz.prog 194 [i64 x] (fun r=>r=bl false):=by
 refine aI yo rfl ?_
 refine cU ?_
 refine fA ?_
 simp
theorem ri (x y:Int):Pure Tryz.prog 62 [i64 x,i64 y] (fun r=>r=i64 (eX x y)):=by
 have c0:=GR x
 have c1:=GR y
 unfold eX
 by_cases h:x<y
 ·rw[if_pos h]
  refine aI CH rfl ?_
  refine cU ?_
  first|exact rfl|trivial
 ·rw[if_neg h]
  by_cases h2:y<x
  ·rw[if_pos h2]
   refine aI CH rfl ?_
   refine cU ?_
   first|exact rfl|trivial
  ·rw[if_neg h2]
   refine aI CH rfl ?_
   refine cU ?_
   first|exact rfl|trivial
theorem uI (x y:Int):Pure Tryz.prog 152 [i64 x,i64 y] (fun r=>r=i64 (eX x y)):=by
 have c0:=zd x
 have c1:=zd y
 unfold eX
 by_cases h:x<y
 ·rw[if_pos h]
  refine aI sY rfl ?_
  refine cU ?_
  first|exact rfl|trivial
 ·rw[if_neg h]
  by_cases h2:y<x
  ·rw[if_pos h2]
   refine aI sY rfl ?_
   refine cU ?_
   first|exact rfl|trivial
  ·rw[if_neg h2]
   refine aI sY rfl ?_
   refine cU ?_
   first|exact rfl|trivial
theorem O2 {l:List Int} {i:Nat} (h:i<l.length):sj (l.drop i)=if l.getD i 0=0 then sj (l.drop (i+1)) else l.getD i 0:=by
 rw[List.drop_eq_getElem_cons h,sj]
 simp[List.getD,List.getElem?_eq_getElem h]
theorem wS (l:List Int) (hl:l.length≤1000):Pure Tryz.prog 61 [cO l] (fun r=>r=i64 (sj l)):=by
 refine aI N9 rfl ?_
 refine cU ?_
 rw[List.length_map]
 refine aM (fun i:Nat=>[(3,i64 0),(6,cO l),(7,i64 l.length),(8,i64 i)]) (fun i H n=>i≤l.length∧sj l=sj (l.drop i)) (fun i=>l.length - i) 0 cH ⟨Nat.zero_le _,rfl⟩ ?_
 rintro i H n ⟨hi,ho⟩
 rw[ho]
 by_cases hil:i<l.length
 ·have e0:=fun d=>ints_at (l:=l) hil d
  have a0:(l.map i64).length=l.length:=by simp
  have hd:=O2 hil
  by_cases hz:l.getD i 0=0
  ·have r0:=hz
   rw[if_pos hz] at hd
   refine cU ?_
   exact⟨i+1,by omega,cH,by omega,hd⟩
  ·have r0:=decide_eq_true hz
   rw[if_neg hz] at hd
   refine cU ?_
   rw[hd]
 ·rw[List.drop_of_length_le (by omega)]
  refine cU ?_
  first|exact rfl|trivial
end Go.Proofs.YtjopoheligmmoaaGreatDoor
end
section
/- Copies of lists; what a machine shows. -/
namespace Go.Proofs.YtjopoheligmmoaaGreatDoor
open Go Go.cY Go.Proofs
set_option linter.unusedSimpArgs false
set_option linter.unusedVariables false
theorem tF {p:Prop} (h:Go p):p:=h
theorem HH {es:List AV} (hf:cZ 0 es) (hl:es.length * 16≤140737488355328):cJ Tryz.prog 184 [.im 2 .any es] [] 0 (fun r H _=>cY.dX H 6 r= .sc (.slice none 0 0)∧es=[]∨cY.dX H 6 r= .im 2 .any es):=by
 refine aL ym rfl ?_
 cases es with
 |nil=>
  refine cU ?_
  refine⟨tF ?_,tF ?_⟩
  ·refine cU ?_
   exact⟨.inl ⟨rfl,rfl⟩⟩
  ·refine cU ?_
   exact⟨.inr rfl⟩
 |cons x t=>
  have a0:(x::t).length * 16≤iS:=hl
  simp only[List.length_cons] at hl
  refine cU ?_
  refine⟨.inr ((dh (e:=155) (sz:=2) (es:=x::t) bx (Nat.zero_add _).symm).trans ?_)⟩
  rw[cy _ hf]
theorem HJ {es:List AV} (hf:cZ 0 es) (hl:es.length * 8≤140737488355328):cJ Tryz.prog 185 [.im 1 .any es] [] 0 (fun r H _=>cY.dX H 6 r= .sc (.slice none 0 0)∧es=[]∨cY.dX H 6 r= .im 1 .any es):=by
 refine aL yn rfl ?_
 cases es with
 |nil=>
  refine cU ?_
  refine⟨tF ?_,tF ?_⟩
  ·refine cU ?_
   exact⟨.inl ⟨rfl,rfl⟩⟩
  ·refine cU ?_
   exact⟨.inr rfl⟩
 |cons x t=>
  have a0:(x::t).length * 8≤iS:=hl
  simp only[List.length_cons] at hl
  refine cU ?_
  refine⟨.inr ((dh (e:=2) (sz:=1) (es:=x::t) bx (Nat.zero_add _).symm).trans ?_)⟩
  rw[cy _ hf]
theorem xT (l:List dV) (hl:l.length * 16≤140737488355328):Pure Tryz.prog 184 [fp l] (fun r=>r=fp l):=
 my (by simp[cK,cC]) (HH ((cC _ _).2 fun _ _=>by simp[cK]) (by rw[List.length_map];exact hl))
theorem xU (l:List Int) (hl:l.length * 8≤140737488355328):Pure Tryz.prog 185 [cO l] (fun r=>r=cO l):=
 my (by simp[cK,cC]) (HJ ((cC _ _).2 fun _ _=>by simp[cK]) (by rw[List.length_map];exact hl))
theorem JV (u:bw) (m:MS) (hl:m.cP.length * 16≤140737488355328):Pure Tryz.prog 147 [m.fz u] (fun r=>r=fp m.cP):=by
 have c0:=xT m.cP hl
 refine aI y6 rfl ?_
 refine cU ?_
 first|exact rfl|trivial
theorem JK (u:bw) (m:MS) (hl:m.mem.length * 8≤140737488355328):Pure Tryz.prog 148 [m.fz u] (fun r=>r=cO m.mem):=by
 have c0:=xU m.mem hl
 refine aI y7 rfl ?_
 refine cU ?_
 first|exact rfl|trivial
end Go.Proofs.YtjopoheligmmoaaGreatDoor
end
section
/- Whether a situation is an end. -/
namespace Go.Proofs.YtjopoheligmmoaaGreatDoor
open Go Go.cY Go.Proofs
set_option linter.unusedSimpArgs false
set_option linter.unusedVariables false
def MS.stuck (u:bw) (m:MS):Bool:=(List.range m.at_.length).all fun t=>decide (m.k9 u t≠0)
def MS.end_ (u:bw) (m:MS):cm:=⟨m.cP,m.mem,m.ended u⟩
def lI (u:bw) (m:MS):AV:=if m.stuck u then .dP [(m.end_ u).av,bl true] else .dP [.agg [.sc (.slice none 0 0), .sc (.slice none 0 0),bl false],bl false]
theorem uw (u:bw) (hr:cT u) (m:MS) (h:eM u m) (hp:m.cP.length * 16≤140737488355328) (hm:m.mem.length * 8≤140737488355328):Pure Tryz.prog 94 [u.av,m.fz u] (fun r=>r=lI u m):=by
 have hl:=h.pd
 have hgl:=hr.qX
 have c1:=JV u m hp
 have c2:=JK u m hm
 have c3:=MA u hr m h
 refine aI OL rfl ?_
 refine cU ?_
 rw[List.length_map,←hl]
 refine aM (fun i:Nat=>[(1,m.fz u),(4, .pt 1 1 0 0),(9,i64 m.at_.length),(10,i64 i)]) (fun i H n=>i≤m.at_.length∧2≤n∧bt H 1=some (.row 105 3 (gM true [.slice none 0 0, .slice none 0 0, .bool false]) [gM true [.slice none 0 0, .slice none 0 0, .bool false]])∧∀j:Nat,j<i→m.k9 u j≠0) (fun i=>m.at_.length - i) 0 cH ⟨Nat.zero_le _,c8,bx,fun j hj=>by omega⟩ ?_
 rintro i H n ⟨hi,hn,hx,hall⟩
 by_cases hil:i<m.at_.length
 ·have c0:=LS u hr m h i
  by_cases hb:m.k9 u i=0
  ·have hs:m.stuck u=false:=by
    unfold MS.stuck
    rw[List.all_eq_false]
    exact⟨i,List.mem_range.2 hil,by simpa using hb⟩
   have r0:=decide_eq_true hb
   rw[lI,hs]
   refine cU ?_
   first|exact rfl|trivial
  ·have r0:=decide_eq_false hb
   refine cU ?_
   exact⟨i+1,by omega,cH,by omega,by omega,bx,fun j hj=>by
    by_cases e:j=i
    ·rw[e];exact hb
    ·exact hall j (by omega)⟩
 ·have hs:m.stuck u=true:=by
   unfold MS.stuck
   rw[List.all_eq_true]
   intro j hj
   exact decide_eq_true (hall j (by have:=List.mem_range.1 hj;omega))
  rw[lI,hs]
  refine cU ?_
  first|exact rfl|trivial
end Go.Proofs.YtjopoheligmmoaaGreatDoor
end
section
/- The machine in rows: Copy. -/
namespace Go.Proofs.YtjopoheligmmoaaGreatDoor
open Go Go.cY Go.Proofs
set_option linter.unusedSimpArgs false
set_option linter.unusedVariables false
def eS (ids:List Nat) (l:List (List Int)):List AV:=(ids.zip l).map fun p=> .sl p.1 p.2.length
def MS.rows (u:bw) (m:MS) (a s me ho pr:Nat):AV:= .agg [ct u.shared,ct u.cE,de u.bu, .sl a m.at_.length, .sl s m.bz.length, .sl me m.mem.length, .sl ho m.hold.length, .sl pr m.cP.length]
structure WZ (u:bw) (m:MS) (mr a s me ho pr:Nat) (ids:List Nat) (H:Hp):Prop where
 rM:∃d,bt H mr=some (.row 114 8 d [m.rows u a s me ho pr])
 rA:∃d,bt H a=some (.row 3 1 d (m.at_.map i64))
 rS:∃d,bt H s=some (.row 93 1 d (eS ids m.bz))
 rL:∀t,t<m.bz.length→∃d,bt H (ids.getD t 0)=some (.row 2 1 d ((m.bz.getD t []).map i64))
 rE:∃d,bt H me=some (.row 2 1 d (m.mem.map i64))
 rH:∃d,bt H ho=some (.row 3 1 d (m.hold.map i64))
 rP:∃d,bt H pr=some (.row 155 2 d (m.cP.map dV.av))
 len:ids.length=m.bz.length
 nodup:(mr::a::s::me::ho::pr::ids).Nodup
theorem vC {ids:List Nat} {l:List (List Int)} (h:ids.length=l.length) (i:Nat) (x:List Int):eS (ids++[i]) (l++[x])=eS ids l++[.sl i x.length]:=by
 unfold eS
 rw[List.zip_append h]
 simp
theorem copied (es:List AV) (z:AV):List.take (es.length.min (es.length:Int).toNat) es++List.drop (es.length.min (es.length:Int).toNat) (List.replicate (es.length:Int).toNat z)=es:=by
 rw[Int.toNat_natCast,show es.length.min es.length=es.length from Nat.min_self _]
 simp
set_option maxHeartbeats 4000000 in
theorem BG (u:bw) (m:MS) (h1:m.at_.length≤4096) (h2:m.mem.length≤4096) (h3:m.hold.length≤4096) (h4:m.cP.length≤1048576) (h5:m.bz.length≤4096) (h6:∀l∈m.bz,l.length≤1048576) (H0:Hp) (nx:Nat):cJ Tryz.prog 146 [m.fz u] H0 nx (fun r H n=>∃mr a s me ho pr ids,r= .pt mr 1 0 0∧WZ u m mr a s me ho pr ids H∧(∀x∈mr::a::s::me::ho::pr::ids,nx≤x∧x<n)∧nx≤n∧∀y,y<nx→bt H y=bt H0 y):=by
 refine aL yZ rfl ?_
 refine cU ?_
 simp only[copied]
 simp only[List.length_map,Int.toNat_natCast]
 refine aU (fun σ:Nat×List Nat=>[(0,m.fz u),(3, .pt (nx+32) 1 0 0),(78,G0 m.bz),(79,i64 m.bz.length),(80,i64 σ.1)])
  (fun σ H n=>σ.1≤m.bz.length∧nx+77≤n∧σ.2.length=σ.1∧σ.2.Nodup∧(∀x∈σ.2,nx+77≤x∧x<n)∧(∃d,bt H (nx+32)=some (.row 114 8 d [.agg [ct u.shared,ct u.cE,de u.bu, .sl (nx+12) m.at_.length, .sl (nx+76) σ.1, .sl (nx+18) m.mem.length, .sl (nx+24) m.hold.length, .sl (nx+30) m.cP.length]]))∧(∃d,bt H (nx+12)=some (.row 3 1 d (m.at_.map i64)))∧(∃d,bt H (nx+18)=some (.row 2 1 d (m.mem.map i64)))∧(∃d,bt H (nx+24)=some (.row 3 1 d (m.hold.map i64)))∧(∃d,bt H (nx+30)=some (.row 155 2 d (m.cP.map dV.av)))∧(∃d,bt H (nx+76)=some (.row 93 1 d (eS σ.2 (m.bz.take σ.1))))∧(∀t,t<σ.1→∃d,bt H (σ.2.getD t 0)=some (.row 2 1 d ((m.bz.getD t []).map i64)))∧∀y,y<nx→bt H y=bt H0 y) (fun σ=>m.bz.length - σ.1) (0,[])
  ⟨_,_,_,Rt.wk (Wk.pB (b:=nx+32) (e:=93) (sz:=1) (by simp only[List.length_cons,List.length_nil];omega) (by omega) (te:=114) (tz:=8) (cs:=[ct u.shared,ct u.cE,de u.bu, .sl (nx+12) m.at_.length, .sc (.slice none 0 0), .sl (nx+18) m.mem.length, .sl (nx+24) m.hold.length, .sl (nx+30) m.cP.length]) (j:=4) bx (by show 4<8;omega) rfl),cH,Nat.zero_le _,c8,rfl,List.nodup_nil,fun x hx=>by simp at hx,⟨_,bx⟩,⟨_,bx⟩,⟨_,bx⟩,⟨_,bx⟩,⟨_,bx⟩,⟨_,bx⟩,fun t ht=>absurd ht (Nat.not_lt_zero _),fun y hy=>cA⟩ ?_
 rintro⟨t,ids⟩ H n ⟨ht,hn,hil,hnd,hin,⟨d0,r0⟩,⟨d1,r1⟩,⟨d2,r2⟩,⟨d3,r3⟩,⟨d4,r4⟩,⟨d5,r5⟩,hls,hkp⟩
 dsimp only at ht hil hnd hin r0 r5 hls ⊢
 have htk:(m.bz.take t).length=t:=by rw[List.length_take];omega
 have hrl:(eS ids (m.bz.take t)).length=t:=by unfold eS;rw[List.length_map,List.length_zip,htk,hil];omega
 by_cases htl:t<m.bz.length
 ·have e0:∀d,(m.bz.map cO).getD ((t:Int)).toNat d=cO (m.bz.getD t []):=fun d=>by rw[Int.toNat_natCast];exact dA cO m.bz t d htl
  have a0:(m.bz.map cO).length=m.bz.length:=by simp
  have hnx:eS (ids++[n+6]) (m.bz.take (t+1))=eS ids (m.bz.take t)++[.sl (n+6) (m.bz.getD t []).length]:=by
   rw[List.take_succ_eq_append_getElem htl,vC (by rw[hil,htk]),show m.bz.getD t []=m.bz[t] by simp[List.getD,htl]]
  have h7:=h6 _ (cS (l:=m.bz) [] htl)
  refine cU ?_
  simp only[copied]
  simp only[List.length_map,Int.toNat_natCast]
  refine⟨(t+1,ids++[n+6]),by dsimp only;omega,_,_,_,Rt.refl _ _ _,cH,by dsimp only;omega,by omega,by simp[hil], ?_, ?_,⟨_,bx⟩,⟨_,bx⟩,⟨_,bx⟩,⟨_,bx⟩,⟨_,bx⟩,⟨_,by dsimp only;rw[hnx];exact bx⟩, ?_,fun y hy=>Eq.trans cA (hkp y hy)⟩
  ·refine List.nodup_append.2 ⟨hnd,by simp,fun a ha b hb=> ?_⟩
   simp only[List.mem_cons,List.not_mem_nil,or_false] at hb
   have:=hin _ ha;omega
  ·intro x hx
   rcases List.mem_append.1 hx with hx|hx
   ·have:=hin _ hx;exact⟨this.1,Nat.lt_of_lt_of_le this.2 c8⟩
   ·simp only[List.mem_cons,List.not_mem_nil,or_false] at hx
    subst hx;exact⟨by omega,c8⟩
  ·intro q hq
   have hq:q<t+1:=hq
   by_cases e:q=t
   ·subst e
    have e2:(ids++[n+6]).getD q 0=n+6:=by rw[List.getD,List.getElem?_append_right (by omega),hil,Nat.sub_self];rfl
    dsimp only
    rw[e2];exact⟨_,bx⟩
   ·obtain⟨d,hd⟩:=hls q (by omega)
    have e2:(ids++[n+6]).getD q 0=ids.getD q 0:=by simp[List.getD,List.getElem?_append,show q<ids.length by omega]
    have:=hin _ (fJ (l:=ids) (q:=q) (by omega))
    dsimp only
    rw[e2];exact⟨d,Eq.trans cA hd⟩
 ·have:t=m.bz.length:=by omega
  subst this
  rw[List.take_length] at r5
  refine cU ?_
  refine⟨⟨nx+32,nx+12,nx+76,nx+18,nx+24,nx+30,ids,rfl,⟨⟨_,bx⟩,⟨_,bx⟩,⟨_,bx⟩,fun t ht=> ?_,⟨_,bx⟩,⟨_,bx⟩,⟨_,bx⟩,hil, ?_⟩, ?_,c8,fun y hy=>Eq.trans cA (hkp y hy)⟩⟩
  ·obtain⟨d,hd⟩:=hls t ht
   have:=hin _ (fJ (l:=ids) (q:=t) (by omega))
   exact⟨d,Eq.trans cA hd⟩
  ·have hno:∀k,k<nx+77→k∉ids:=fun k hk h=>by have:=hin _ h;omega
   simp only[List.nodup_cons,List.mem_cons,not_or]
   exact⟨⟨by omega,by omega,by omega,by omega,by omega,hno _ (by omega)⟩,⟨by omega,by omega,by omega,by omega,hno _ (by omega)⟩,⟨by omega,by omega,by omega,hno _ (by omega)⟩,⟨by omega,by omega,hno _ (by omega)⟩,⟨by omega,hno _ (by omega)⟩,hno _ (by omega),hnd⟩
  ·intro x hx
   simp only[List.mem_cons] at hx
   rcases hx with rfl|rfl|rfl|rfl|rfl|rfl|hx
   all_goals first
    |exact⟨by omega,by omega⟩
    |(have:=hin _ hx;exact⟨by omega,by omega⟩)
end Go.Proofs.YtjopoheligmmoaaGreatDoor
end
section
/- The machine in rows, frozen. -/
namespace Go.Proofs.YtjopoheligmmoaaGreatDoor
open Go Go.cY Go.Proofs
set_option linter.unusedSimpArgs false
set_option linter.unusedVariables false
theorem vw {H:Hp} {k:Nat} {cs:List AV}:cY.dX H (k+1) (.agg cs)= .agg (cs.map (cY.dX H k)):=by simp only[dX]
theorem WZ.dX {u:bw} {m:MS} {mr a s me ho pr:Nat} {ids:List Nat} {H:Hp} (h:WZ u m mr a s me ho pr ids H) (k:Nat):cY.dX H (k+5) (.pt mr 1 0 0)=m.fz u:=by
 obtain⟨d1,h1⟩:=h.rM
 obtain⟨d2,h2⟩:=h.rA
 obtain⟨d3,h3⟩:=h.rS
 obtain⟨d4,h4⟩:=h.rE
 obtain⟨d5,h5⟩:=h.rH
 obtain⟨d6,h6⟩:=h.rP
 have hsl:(eS ids m.bz).length=m.bz.length:=by unfold eS;rw[List.length_map,List.length_zip,h.len];simp
 have hs:(eS ids m.bz).map (cY.dX H (k+2))=m.bz.map cO:=by
  apply List.ext_getElem (by simp[hsl])
  intro t q1 q2
  have ht:t<m.bz.length:=by simpa using q2
  have hti:t<ids.length:=by rw[h.len];exact ht
  obtain⟨d,hd⟩:=h.rL t ht
  rw[show ids.getD t 0=ids[t] by simp[List.getD,hti],show m.bz.getD t []=m.bz[t] by simp[List.getD,ht]] at hd
  rw[List.getElem_map,List.getElem_map]
  simp only[eS,List.getElem_map,List.getElem_zip]
  rw[dh hd (by simp),cy _ ((cC _ _).2 fun _ _=>by simp[cK])]
 simp only[cY.dX,h1]
 simp only[List.length_cons,List.length_nil,if_true,List.map_cons,List.map_nil,MS.rows]
 rw[vw]
 simp only[List.map_cons,List.map_nil]
 rw[dh h2 (by simp),dh h3 hsl,dh h4 (by simp),dh h5 (by simp),dh h6 (by simp),hs]
 rw[cy _ ((cC _ _).2 fun _ _=>by simp[cK]),cy _ ((cC _ _).2 fun _ _=>by simp[cK]),cy _ ((cC _ _).2 fun _ _=>by simp[cK]),cy _ ((cC _ _).2 fun _ _=>by simp[cK])]
 rw[dv _ (show cK 0 (ct u.shared) by simp[cK,cC]),dv _ (show cK 0 (ct u.cE) by simp[cK,cC]),dv _ (show cK 0 (de u.bu) by simp[cK,cC])]
 rfl
end Go.Proofs.YtjopoheligmmoaaGreatDoor
end
section
/- The machine that has done nothing. -/
namespace Go.Proofs.YtjopoheligmmoaaGreatDoor
open Go Go.cY Go.Proofs
set_option linter.unusedSimpArgs false
set_option linter.unusedVariables false
def dR (u:bw):MS:=⟨u.bu.map fun _=>0,u.bu.map fun g=>List.replicate g.bz.toNat 0,u.shared.map Decl.word,u.cE.map fun _=>-1,[]⟩
theorem GS (u:bw) (hr:cT u) (hw:∀d∈u.shared,eP d.word) (hn:∀t,t<u.bu.length→0<(u.gr t).nodes.length):eM u (dR u) where
 pd:=by simp[dR]
 fy:=fun t ht=>by
  have e:(dR u).at_.getD t 0=0:=by simp[dR,List.getD,ht]
  rw[e]
  exact⟨Int.le_refl _,by have:=hn t ht;omega⟩
 sl:=by simp[dR]
 DM:=fun t ht=>by
  have e:(dR u).bz.getD t []=List.replicate (u.gr t).bz.toNat 0:=by simp[dR,List.getD,bw.gr,ht]
  rw[e,List.length_replicate]
 DN:=fun t ht w hw=>by
  have e:(dR u).bz.getD t []=List.replicate (u.gr t).bz.toNat 0:=by simp[dR,List.getD,bw.gr,ht]
  rw[e] at hw
  rw[List.eq_of_mem_replicate hw]
  exact⟨by omega,by omega⟩
 ml:=by simp[dR]
 mw:=fun w h=>by
  obtain⟨d,hd,rfl⟩:=List.mem_map.1 h
  exact hw d hd
 hl:=by simp[dR]
 hw:=fun w h=>by
  obtain⟨d,hd,rfl⟩:=List.mem_map.1 h
  exact⟨by omega,by omega⟩
 pw:=fun p h=>by simp[dR] at h
end Go.Proofs.YtjopoheligmmoaaGreatDoor
end
section
/- Operators. -/
namespace Go.Proofs.YtjopoheligmmoaaGreatDoor
open Go Go.cY Go.Proofs
set_option linter.unusedSimpArgs false
set_option linter.unusedVariables false
set_option maxHeartbeats 1000000
abbrev wg (n:Int):Int:=IntKind.i64.wrap n
def JX (a b:Int):Int:=if b=0 then 0 else if b=-1 then wg (0 - a) else wg (a.tdiv b)
def O8 (a b:Int):Int:=if b=0 then a else wg (a - wg (JX a b * b))
def XK (a b:Int):Int:=wg ((BitVec.ofInt 64 a&&& BitVec.ofInt 64 b).toNat:Int)
def Z7 (a b:Int):Int:=wg ((BitVec.ofInt 64 a|||BitVec.ofInt 64 b).toNat:Int)
def YX (a b:Int):Int:=wg ((BitVec.ofInt 64 a^^^BitVec.ofInt 64 b).toNat:Int)
def LX (b:Int):Int:=IntKind.u64.wrap ((BitVec.ofInt 64 (IntKind.u64.wrap b)&&& BitVec.ofInt 64 63).toNat:Int)
def YK (a b:Int):Int:=wg (a * 2^(min (LX b).toNat 64))
def TF (a b:Int):Int:=a.fdiv (2^(min (LX b).toNat 64))
def tr (t:Bool):Int:=if t=true then 1 else 0
theorem cr (t:Bool):Pure Tryz.prog 226 [bl t] (fun r=>r=i64 (tr t)):=by
 refine aI zO rfl ?_
 repeat' (first|((with_reducible refine aF ?_);conv=>whnf)|refine aG ?_|exact aC|with_reducible refine aD ?_ ?_|(apply aB;(·exact cR))|refine aH ?_|((with_reducible refine aA ?_ ?_)<;>intro hc<;>(try simp only[List.length_map,ne_eq,da] at hc)<;>try(exfalso;omega)))
 all_goals simp_all[tr]
theorem oL (a b:Int):Pure Tryz.prog 206 [i64 a,i64 b] (fun r=>r=i64 (wg (a+b))):=by
 refine aI yu rfl ?_
 repeat' (first|((with_reducible refine aF ?_);conv=>whnf)|refine aG ?_|exact aC|with_reducible refine aD ?_ ?_|(apply aB;(·exact cR))|refine aH ?_|((with_reducible refine aA ?_ ?_)<;>intro hc<;>(try simp only[List.length_map,ne_eq,da] at hc)<;>try(exfalso;omega)))
 all_goals exact rfl
theorem pS (a b:Int):Pure Tryz.prog 207 [i64 a,i64 b] (fun r=>r=i64 (wg (a - b))):=by
 refine aI yw rfl ?_
 repeat' (first|((with_reducible refine aF ?_);conv=>whnf)|refine aG ?_|exact aC|with_reducible refine aD ?_ ?_|(apply aB;(·exact cR))|refine aH ?_|((with_reducible refine aA ?_ ?_)<;>intro hc<;>(try simp only[List.length_map,ne_eq,da] at hc)<;>try(exfalso;omega)))
 all_goals exact rfl
theorem oz (a b:Int):Pure Tryz.prog 208 [i64 a,i64 b] (fun r=>r=i64 (wg (a * b))):=by
 refine aI yx rfl ?_
 repeat' (first|((with_reducible refine aF ?_);conv=>whnf)|refine aG ?_|exact aC|with_reducible refine aD ?_ ?_|(apply aB;(·exact cR))|refine aH ?_|((with_reducible refine aA ?_ ?_)<;>intro hc<;>(try simp only[List.length_map,ne_eq,da] at hc)<;>try(exfalso;omega)))
 all_goals exact rfl
theorem iI (a b:Int):Pure Tryz.prog 209 [i64 a,i64 b] (fun r=>r=i64 (JX a b)):=by
 refine aI yy rfl ?_
 repeat' (first|((with_reducible refine aF ?_);conv=>whnf)|refine aG ?_|exact aC|with_reducible refine aD ?_ ?_|(apply aB;(·exact cR))|refine aH ?_|((with_reducible refine aA ?_ ?_)<;>intro hc<;>(try simp only[List.length_map,ne_eq,da] at hc)<;>try(exfalso;omega)))
 all_goals simp_all[JX]
theorem pK (a b:Int):Pure Tryz.prog 210 [i64 a,i64 b] (fun r=>r=i64 (O8 a b)):=by
 refine aI yz rfl ?_
 repeat' (first|((with_reducible refine aF ?_);conv=>whnf)|refine aG ?_|exact aC|with_reducible refine aD ?_ ?_|(apply aB;(·exact cR))|((with_reducible refine aQ (iI _ _) ?_ ?_);(·exact cF))|((with_reducible refine aP (fun _=>iI _ _) ?_ ?_);(·exact cF))|((with_reducible refine aN (iI _ _) ?_ ?_);(·exact cF))|((with_reducible refine aO (fun _=>iI _ _) ?_ ?_);(·exact cF))|refine aH ?_|((with_reducible refine aA ?_ ?_)<;>intro hc<;>(try simp only[List.length_map,ne_eq,da] at hc)<;>try(exfalso;omega)))
 all_goals simp_all[O8]
theorem oP (a b:Int):Pure Tryz.prog 211 [i64 a,i64 b] (fun r=>r=i64 (XK a b)):=by
 refine aI zA rfl ?_
 repeat' (first|((with_reducible refine aF ?_);conv=>whnf)|refine aG ?_|exact aC|with_reducible refine aD ?_ ?_|(apply aB;(·exact cR))|refine aH ?_|((with_reducible refine aA ?_ ?_)<;>intro hc<;>(try simp only[List.length_map,ne_eq,da] at hc)<;>try(exfalso;omega)))
 all_goals exact rfl
theorem pF (a b:Int):Pure Tryz.prog 212 [i64 a,i64 b] (fun r=>r=i64 (Z7 a b)):=by
 refine aI zB rfl ?_
 repeat' (first|((with_reducible refine aF ?_);conv=>whnf)|refine aG ?_|exact aC|with_reducible refine aD ?_ ?_|(apply aB;(·exact cR))|refine aH ?_|((with_reducible refine aA ?_ ?_)<;>intro hc<;>(try simp only[List.length_map,ne_eq,da] at hc)<;>try(exfalso;omega)))
 all_goals exact rfl
theorem pW (a b:Int):Pure Tryz.prog 213 [i64 a,i64 b] (fun r=>r=i64 (YX a b)):=by
 refine aI zC rfl ?_
 repeat' (first|((with_reducible refine aF ?_);conv=>whnf)|refine aG ?_|exact aC|with_reducible refine aD ?_ ?_|(apply aB;(·exact cR))|refine aH ?_|((with_reducible refine aA ?_ ?_)<;>intro hc<;>(try simp only[List.length_map,ne_eq,da] at hc)<;>try(exfalso;omega)))
 all_goals exact rfl
theorem pN (a b:Int):Pure Tryz.prog 214 [i64 a,i64 b] (fun r=>r=i64 (YK a b)):=by
 refine aI zD rfl ?_
 repeat' (first|((with_reducible refine aF ?_);conv=>whnf)|refine aG ?_|exact aC|with_reducible refine aD ?_ ?_|(apply aB;(·exact cR))|refine aH ?_|((with_reducible refine aA ?_ ?_)<;>intro hc<;>(try simp only[List.length_map,ne_eq,da] at hc)<;>try(exfalso;omega)))
 all_goals exact rfl
theorem pO (a b:Int):Pure Tryz.prog 215 [i64 a,i64 b] (fun r=>r=i64 (TF a b)):=by
 refine aI zF rfl ?_
 repeat' (first|((with_reducible refine aF ?_);conv=>whnf)|refine aG ?_|exact aC|with_reducible refine aD ?_ ?_|(apply aB;(·exact cR))|refine aH ?_|((with_reducible refine aA ?_ ?_)<;>intro hc<;>(try simp only[List.length_map,ne_eq,da] at hc)<;>try(exfalso;omega)))
 all_goals exact rfl
theorem rB (a b:Int):Pure Tryz.prog 216 [i64 a,i64 b] (fun r=>r=i64 (tr (decide (a=b)))):=by
 refine aI zG rfl ?_
 repeat' (first|((with_reducible refine aF ?_);conv=>whnf)|refine aG ?_|exact aC|with_reducible refine aD ?_ ?_|(apply aB;(·exact cR))|((with_reducible refine aQ (cr _) ?_ ?_);(·exact cF))|((with_reducible refine aP (fun _=>cr _) ?_ ?_);(·exact cF))|((with_reducible refine aN (cr _) ?_ ?_);(·exact cF))|((with_reducible refine aO (fun _=>cr _) ?_ ?_);(·exact cF))|refine aH ?_|((with_reducible refine aA ?_ ?_)<;>intro hc<;>(try simp only[List.length_map,ne_eq,da] at hc)<;>try(exfalso;omega)))
 all_goals exact rfl
theorem lD (a b:Int):Pure Tryz.prog 217 [i64 a,i64 b] (fun r=>r=i64 (tr (decide (a≠b)))):=by
 refine aI zH rfl ?_
 repeat' (first|((with_reducible refine aF ?_);conv=>whnf)|refine aG ?_|exact aC|with_reducible refine aD ?_ ?_|(apply aB;(·exact cR))|((with_reducible refine aQ (cr _) ?_ ?_);(·exact cF))|((with_reducible refine aP (fun _=>cr _) ?_ ?_);(·exact cF))|((with_reducible refine aN (cr _) ?_ ?_);(·exact cF))|((with_reducible refine aO (fun _=>cr _) ?_ ?_);(·exact cF))|refine aH ?_|((with_reducible refine aA ?_ ?_)<;>intro hc<;>(try simp only[List.length_map,ne_eq,da] at hc)<;>try(exfalso;omega)))
 all_goals exact rfl
theorem mj (a b:Int):Pure Tryz.prog 218 [i64 a,i64 b] (fun r=>r=i64 (tr (decide (a<b)))):=by
 refine aI zI rfl ?_
 repeat' (first|((with_reducible refine aF ?_);conv=>whnf)|refine aG ?_|exact aC|with_reducible refine aD ?_ ?_|(apply aB;(·exact cR))|((with_reducible refine aQ (cr _) ?_ ?_);(·exact cF))|((with_reducible refine aP (fun _=>cr _) ?_ ?_);(·exact cF))|((with_reducible refine aN (cr _) ?_ ?_);(·exact cF))|((with_reducible refine aO (fun _=>cr _) ?_ ?_);(·exact cF))|refine aH ?_|((with_reducible refine aA ?_ ?_)<;>intro hc<;>(try simp only[List.length_map,ne_eq,da] at hc)<;>try(exfalso;omega)))
 all_goals exact rfl
theorem mq (a b:Int):Pure Tryz.prog 219 [i64 a,i64 b] (fun r=>r=i64 (tr (decide (a≤b)))):=by
 refine aI zJ rfl ?_
 repeat' (first|((with_reducible refine aF ?_);conv=>whnf)|refine aG ?_|exact aC|with_reducible refine aD ?_ ?_|(apply aB;(·exact cR))|((with_reducible refine aQ (cr _) ?_ ?_);(·exact cF))|((with_reducible refine aP (fun _=>cr _) ?_ ?_);(·exact cF))|((with_reducible refine aN (cr _) ?_ ?_);(·exact cF))|((with_reducible refine aO (fun _=>cr _) ?_ ?_);(·exact cF))|refine aH ?_|((with_reducible refine aA ?_ ?_)<;>intro hc<;>(try simp only[List.length_map,ne_eq,da] at hc)<;>try(exfalso;omega)))
 all_goals exact rfl
theorem kg (a b:Int):Pure Tryz.prog 220 [i64 a,i64 b] (fun r=>r=i64 (tr (decide (b<a)))):=by
 refine aI zK rfl ?_
 repeat' (first|((with_reducible refine aF ?_);conv=>whnf)|refine aG ?_|exact aC|with_reducible refine aD ?_ ?_|(apply aB;(·exact cR))|((with_reducible refine aQ (cr _) ?_ ?_);(·exact cF))|((with_reducible refine aP (fun _=>cr _) ?_ ?_);(·exact cF))|((with_reducible refine aN (cr _) ?_ ?_);(·exact cF))|((with_reducible refine aO (fun _=>cr _) ?_ ?_);(·exact cF))|refine aH ?_|((with_reducible refine aA ?_ ?_)<;>intro hc<;>(try simp only[List.length_map,ne_eq,da] at hc)<;>try(exfalso;omega)))
 all_goals exact rfl
theorem lF (a b:Int):Pure Tryz.prog 221 [i64 a,i64 b] (fun r=>r=i64 (tr (decide (b≤a)))):=by
 refine aI zL rfl ?_
 repeat' (first|((with_reducible refine aF ?_);conv=>whnf)|refine aG ?_|exact aC|with_reducible refine aD ?_ ?_|(apply aB;(·exact cR))|((with_reducible refine aQ (cr _) ?_ ?_);(·exact cF))|((with_reducible refine aP (fun _=>cr _) ?_ ?_);(·exact cF))|((with_reducible refine aN (cr _) ?_ ?_);(·exact cF))|((with_reducible refine aO (fun _=>cr _) ?_ ?_);(·exact cF))|refine aH ?_|((with_reducible refine aA ?_ ?_)<;>intro hc<;>(try simp only[List.length_map,ne_eq,da] at hc)<;>try(exfalso;omega)))
 all_goals exact rfl
theorem lH (a:Int):Pure Tryz.prog 222 [i64 a] (fun r=>r=i64 (wg (0 - a))):=by
 refine aI zM rfl ?_
 repeat' (first|((with_reducible refine aF ?_);conv=>whnf)|refine aG ?_|exact aC|with_reducible refine aD ?_ ?_|(apply aB;(·exact cR))|refine aH ?_|((with_reducible refine aA ?_ ?_)<;>intro hc<;>(try simp only[List.length_map,ne_eq,da] at hc)<;>try(exfalso;omega)))
 all_goals exact rfl
theorem pC (a:Int):Pure Tryz.prog 223 [i64 a] (fun r=>r=i64 (tr (decide (a=0)))):=by
 refine aI zN rfl ?_
 repeat' (first|((with_reducible refine aF ?_);conv=>whnf)|refine aG ?_|exact aC|with_reducible refine aD ?_ ?_|(apply aB;(·exact cR))|((with_reducible refine aQ (cr _) ?_ ?_);(·exact cF))|((with_reducible refine aP (fun _=>cr _) ?_ ?_);(·exact cF))|((with_reducible refine aN (cr _) ?_ ?_);(·exact cF))|((with_reducible refine aO (fun _=>cr _) ?_ ?_);(·exact cF))|refine aH ?_|((with_reducible refine aA ?_ ?_)<;>intro hc<;>(try simp only[List.length_map,ne_eq,da] at hc)<;>try(exfalso;omega)))
 all_goals exact rfl
def UK:AV:= .agg [.sc .nilFunc, .sc .nilFunc, .fn (.func 206) [] [], .sc .nilFunc, .fn (.func 207) [] [], .sc .nilFunc, .fn (.func 208) [] [], .sc .nilFunc, .fn (.func 209) [] [], .sc .nilFunc, .fn (.func 210) [] [], .sc .nilFunc, .fn (.func 211) [] [], .sc .nilFunc, .fn (.func 212) [] [], .sc .nilFunc, .fn (.func 213) [] [], .sc .nilFunc, .fn (.func 214) [] [], .sc .nilFunc, .fn (.func 215) [] [], .sc .nilFunc, .fn (.func 216) [] [], .sc .nilFunc, .fn (.func 217) [] [], .sc .nilFunc, .fn (.func 218) [] [], .sc .nilFunc, .fn (.func 219) [] [], .sc .nilFunc, .fn (.func 220) [] [], .sc .nilFunc, .fn (.func 221) [] [], .sc .nilFunc, .sc .nilFunc, .fn (.func 222) [] [], .sc .nilFunc, .fn (.func 223) [] []]
theorem mF:Pure Tryz.prog 197 [] (fun r=>r=UK):=kY (by simp[UK,cK,cZ]) (by kernel_rfl)
def TV (op a b:Int):Int:=if op=1 then wg (a+b) else if op=2 then wg (a - b) else if op=3 then wg (a * b) else if op=4 then JX a b else if op=5 then O8 a b else if op=6 then XK a b else if op=7 then Z7 a b else if op=8 then YX a b else if op=9 then YK a b else if op=10 then TF a b else if op=11 then tr (decide (a=b)) else if op=12 then tr (decide (a≠b)) else if op=13 then tr (decide (a<b)) else if op=14 then tr (decide (a≤b)) else if op=15 then tr (decide (b<a)) else tr (decide (b≤a))
def SZ (op a:Int):Int:=if op=17 then wg (0 - a) else tr (decide (a=0))
theorem KJ {op:Int} (h:eB op=true):op=1∨op=2∨op=3∨op=4∨op=5∨op=6∨op=7∨op=8∨op=9∨op=10∨op=11∨op=12∨op=13∨op=14∨op=15∨op=16:=by
 simp only[eB,Bool.and_eq_true,decide_eq_true_eq] at h;omega
theorem UQ (op a b:Int) (h:eB op=true):Pure Tryz.prog 160 [u8 op,i64 a,i64 b] (fun r=>r= .dP [i64 (TV op a b),i64 0]):=by
 refine aI yd rfl ?_
 rcases KJ h with rfl|rfl|rfl|rfl|rfl|rfl|rfl|rfl|rfl|rfl|rfl|rfl|rfl|rfl|rfl|rfl
 all_goals repeat' (first|((with_reducible refine aF ?_);conv=>whnf)|refine aG ?_|exact aC|with_reducible refine aD ?_ ?_|(apply aB;(·exact cR))|((with_reducible refine aQ (fP _ (by omega)) ?_ ?_);(·exact cF))|((with_reducible refine aP (fun _=>fP _ (by omega)) ?_ ?_);(·exact cF))|((with_reducible refine aN (fP _ (by omega)) ?_ ?_);(·exact cF))|((with_reducible refine aO (fun _=>fP _ (by omega)) ?_ ?_);(·exact cF))|refine aK (mF) ?_|((with_reducible refine aQ (oL _ _) ?_ ?_);(·exact cF))|((with_reducible refine aP (fun _=>oL _ _) ?_ ?_);(·exact cF))|((with_reducible refine aN (oL _ _) ?_ ?_);(·exact cF))|((with_reducible refine aO (fun _=>oL _ _) ?_ ?_);(·exact cF))|((with_reducible refine aQ (pS _ _) ?_ ?_);(·exact cF))|((with_reducible refine aP (fun _=>pS _ _) ?_ ?_);(·exact cF))|((with_reducible refine aN (pS _ _) ?_ ?_);(·exact cF))|((with_reducible refine aO (fun _=>pS _ _) ?_ ?_);(·exact cF))|((with_reducible refine aQ (oz _ _) ?_ ?_);(·exact cF))|((with_reducible refine aP (fun _=>oz _ _) ?_ ?_);(·exact cF))|((with_reducible refine aN (oz _ _) ?_ ?_);(·exact cF))|((with_reducible refine aO (fun _=>oz _ _) ?_ ?_);(·exact cF))|((with_reducible refine aQ (iI _ _) ?_ ?_);(·exact cF))|((with_reducible refine aP (fun _=>iI _ _) ?_ ?_);(·exact cF))|((with_reducible refine aN (iI _ _) ?_ ?_);(·exact cF))|((with_reducible refine aO (fun _=>iI _ _) ?_ ?_);(·exact cF))|((with_reducible refine aQ (pK _ _) ?_ ?_);(·exact cF))|((with_reducible refine aP (fun _=>pK _ _) ?_ ?_);(·exact cF))|((with_reducible refine aN (pK _ _) ?_ ?_);(·exact cF))|((with_reducible refine aO (fun _=>pK _ _) ?_ ?_);(·exact cF))|((with_reducible refine aQ (oP _ _) ?_ ?_);(·exact cF))|((with_reducible refine aP (fun _=>oP _ _) ?_ ?_);(·exact cF))|((with_reducible refine aN (oP _ _) ?_ ?_);(·exact cF))|((with_reducible refine aO (fun _=>oP _ _) ?_ ?_);(·exact cF))|((with_reducible refine aQ (pF _ _) ?_ ?_);(·exact cF))|((with_reducible refine aP (fun _=>pF _ _) ?_ ?_);(·exact cF))|((with_reducible refine aN (pF _ _) ?_ ?_);(·exact cF))|((with_reducible refine aO (fun _=>pF _ _) ?_ ?_);(·exact cF))|((with_reducible refine aQ (pW _ _) ?_ ?_);(·exact cF))|((with_reducible refine aP (fun _=>pW _ _) ?_ ?_);(·exact cF))|((with_reducible refine aN (pW _ _) ?_ ?_);(·exact cF))|((with_reducible refine aO (fun _=>pW _ _) ?_ ?_);(·exact cF))|((with_reducible refine aQ (pN _ _) ?_ ?_);(·exact cF))|((with_reducible refine aP (fun _=>pN _ _) ?_ ?_);(·exact cF))|((with_reducible refine aN (pN _ _) ?_ ?_);(·exact cF))|((with_reducible refine aO (fun _=>pN _ _) ?_ ?_);(·exact cF))|((with_reducible refine aQ (pO _ _) ?_ ?_);(·exact cF))|((with_reducible refine aP (fun _=>pO _ _) ?_ ?_);(·exact cF))|((with_reducible refine aN (pO _ _) ?_ ?_);(·exact cF))|((with_reducible refine aO (fun _=>pO _ _) ?_ ?_);(·exact cF))|((with_reducible refine aQ (rB _ _) ?_ ?_);(·exact cF))|((with_reducible refine aP (fun _=>rB _ _) ?_ ?_);(·exact cF))|((with_reducible refine aN (rB _ _) ?_ ?_);(·exact cF))|((with_reducible refine aO (fun _=>rB _ _) ?_ ?_);(·exact cF))|((with_reducible refine aQ (lD _ _) ?_ ?_);(·exact cF))|((with_reducible refine aP (fun _=>lD _ _) ?_ ?_);(·exact cF))|((with_reducible refine aN (lD _ _) ?_ ?_);(·exact cF))|((with_reducible refine aO (fun _=>lD _ _) ?_ ?_);(·exact cF))|((with_reducible refine aQ (mj _ _) ?_ ?_);(·exact cF))|((with_reducible refine aP (fun _=>mj _ _) ?_ ?_);(·exact cF))|((with_reducible refine aN (mj _ _) ?_ ?_);(·exact cF))|((with_reducible refine aO (fun _=>mj _ _) ?_ ?_);(·exact cF))|((with_reducible refine aQ (mq _ _) ?_ ?_);(·exact cF))|((with_reducible refine aP (fun _=>mq _ _) ?_ ?_);(·exact cF))|((with_reducible refine aN (mq _ _) ?_ ?_);(·exact cF))|((with_reducible refine aO (fun _=>mq _ _) ?_ ?_);(·exact cF))|((with_reducible refine aQ (kg _ _) ?_ ?_);(·exact cF))|((with_reducible refine aP (fun _=>kg _ _) ?_ ?_);(·exact cF))|((with_reducible refine aN (kg _ _) ?_ ?_);(·exact cF))|((with_reducible refine aO (fun _=>kg _ _) ?_ ?_);(·exact cF))|((with_reducible refine aQ (lF _ _) ?_ ?_);(·exact cF))|((with_reducible refine aP (fun _=>lF _ _) ?_ ?_);(·exact cF))|((with_reducible refine aN (lF _ _) ?_ ?_);(·exact cF))|((with_reducible refine aO (fun _=>lF _ _) ?_ ?_);(·exact cF))|refine aH ?_|((with_reducible refine aA ?_ ?_)<;>intro hc<;>(try simp only[List.length_map,ne_eq,da] at hc)<;>try(exfalso;omega)))
 all_goals (first|exact rfl|trace_state)
theorem QA (op a:Int) (h:op=17∨op=18):Pure Tryz.prog 161 [u8 op,i64 a] (fun r=>r= .dP [i64 (SZ op a),i64 0]):=by
 refine aI ye rfl ?_
 rcases h with rfl|rfl
 all_goals repeat' (first|((with_reducible refine aF ?_);conv=>whnf)|refine aG ?_|exact aC|with_reducible refine aD ?_ ?_|(apply aB;(·exact cR))|((with_reducible refine aQ (fm _) ?_ ?_);(·exact cF))|((with_reducible refine aP (fun _=>fm _) ?_ ?_);(·exact cF))|((with_reducible refine aN (fm _) ?_ ?_);(·exact cF))|((with_reducible refine aO (fun _=>fm _) ?_ ?_);(·exact cF))|((with_reducible refine aQ (fP _ (by omega)) ?_ ?_);(·exact cF))|((with_reducible refine aP (fun _=>fP _ (by omega)) ?_ ?_);(·exact cF))|((with_reducible refine aN (fP _ (by omega)) ?_ ?_);(·exact cF))|((with_reducible refine aO (fun _=>fP _ (by omega)) ?_ ?_);(·exact cF))|refine aK (mF) ?_|((with_reducible refine aQ (lH _) ?_ ?_);(·exact cF))|((with_reducible refine aP (fun _=>lH _) ?_ ?_);(·exact cF))|((with_reducible refine aN (lH _) ?_ ?_);(·exact cF))|((with_reducible refine aO (fun _=>lH _) ?_ ?_);(·exact cF))|((with_reducible refine aQ (pC _) ?_ ?_);(·exact cF))|((with_reducible refine aP (fun _=>pC _) ?_ ?_);(·exact cF))|((with_reducible refine aN (pC _) ?_ ?_);(·exact cF))|((with_reducible refine aO (fun _=>pC _) ?_ ?_);(·exact cF))|refine aH ?_|((with_reducible refine aA ?_ ?_)<;>intro hc<;>(try simp only[List.length_map,ne_eq,da] at hc)<;>try(exfalso;omega)))
 all_goals (first|exact rfl|trace_state)
end Go.Proofs.YtjopoheligmmoaaGreatDoor
end
section
/- A step in plain data. -/
namespace Go.Proofs.YtjopoheligmmoaaGreatDoor
open Go Go.cY Go.Proofs
set_option linter.unusedSimpArgs false
set_option linter.unusedVariables false
structure gS where
 dW:Int
 node:Int
 kind:Int
 cM:Int
 word:Int
 put:Int
 deriving Inhabited,DecidableEq
def gS.cells (d:gS):List AV:=[i64 d.dW,i64 d.node,u8 d.kind,i64 d.cM,i64 d.word,i64 d.put]
abbrev gS.av (d:gS):AV:= .agg d.cells
def MS.val (m:MS) (t:Nat) (v:lZ):Int:=if v.jK then(m.bz.getD t []).getD v.slot.toNat 0 else v.word
def MS.gZ (m:MS) (t:Nat) (k:Int) (w:Int):MS:={ m with bz:=m.bz.set t ((m.bz.getD t []).set k.toNat w) }
def MS.DH (m:MS) (t:Nat) (n:Node):Int:=if eB n.op then TV n.op (m.val t n.a) (m.val t n.b) else if n.op≠0 then SZ n.op (m.val t n.a) else m.val t n.a
def MS.act (m:MS) (t:Nat) (n:Node):MS×Int×Int×Int×Int:=
 if n.kind=1 then(m.gZ t n.slot (m.DH t n),n.next,0,m.DH t n,0)
 else if n.kind=2 then(m.gZ t n.slot (m.mem.getD n.cM.toNat 0),n.next,n.cM,m.mem.getD n.cM.toNat 0,0)
 else if n.kind=3 then({ m with mem:=m.mem.set n.cM.toNat (m.val t n.a) },n.next,n.cM,m.val t n.a,0)
 else if n.kind=4 then({ m.gZ t n.slot (m.mem.getD n.cM.toNat 0) with mem:=m.mem.set n.cM.toNat (m.val t n.a) },n.next,n.cM,m.mem.getD n.cM.toNat 0,m.val t n.a)
 else if n.kind=5 then({ m with hold:=m.hold.set n.cM.toNat t },n.next,n.cM,0,0)
 else if n.kind=6 then({ m with hold:=m.hold.set n.cM.toNat (-1) },n.next,n.cM,0,0)
 else if n.kind=7 then({ m with cP:=m.cP++[⟨t,m.val t n.a⟩] },n.next,0,m.val t n.a,0)
 else(m,if m.val t n.a=0 then n.sC else n.next,0,m.val t n.a,0)
def MS.step (u:bw) (m:MS) (t:Nat):MS×gS:=
 let n:=m.node u t
 let r:=m.act t n
 ({ r.1 with at_:=m.at_.set t r.2.1 },⟨t,m.at_.getD t 0,n.kind,r.2.2.1,r.2.2.2.1,r.2.2.2.2⟩)
end Go.Proofs.YtjopoheligmmoaaGreatDoor
end
