import Derived.Test.YtjopoheligmmoaaGreatDoorM28
import Derived.Test.YtjopoheligmmoaaGreatDoorM29
import Derived.Test.YtjopoheligmmoaaGreatDoorM30
import Derived.Test.YtjopoheligmmoaaGreatDoorM31
section
/- The source machine in plain data. -/
namespace Go.Proofs.YtjopoheligmmoaaGreatDoor
open Go Go.cY Go.Proofs
set_option linter.unusedSimpArgs false
set_option linter.unusedVariables false
structure dS where
 da:Int
 word:Int
 deriving Inhabited,DecidableEq
def dS.cells (p:dS):List AV:=[i64 p.da,i64 p.word]
abbrev dS.av (p:dS):AV:= .agg p.cells
structure MS where
 at_:List Int
 bz:List (List Int)
 mem:List Int
 hold:List Int
 cN:List dS
 deriving Inhabited,DecidableEq
abbrev cS (l:List Int):AV:= .im 1 .any (l.map i64)
abbrev GK (l:List (List Int)):AV:= .im 1 .any (l.map cS)
abbrev fi (l:List dS):AV:= .im 2 .any (l.map dS.av)
def MS.cells (u:bu) (m:MS):List AV:=[cr u.shared,cr u.cD,dc u.bx,cS m.at_,GK m.bz,cS m.mem,cS m.hold,fi m.cN]
abbrev MS.fz (u:bu) (m:MS):AV:= .ip 8 .any [.agg (m.cells u)] 0 0
@[simp] theorem WG (n:Nat) (p:dS):cX n p.cells:=by simp[dS.cells,cX,cL]
@[simp] theorem Y2 (n:Nat) (u:bu) (m:MS):cX n (m.cells u):=by simp[MS.cells,cX,cL,cC]
theorem nV (n:Nat) (u:bu) (m:MS):cL n (m.fz u):=by simp[cL,cX]
structure eN (u:bu) (m:MS):Prop where
 pW:m.at_.length=u.bx.length
 gR:∀t,t<u.bx.length→0≤m.at_.getD t 0∧m.at_.getD t 0<(u.gr t).nodes.length
 sl:m.bz.length=u.bx.length
 C7:∀t,t<u.bx.length→(m.bz.getD t []).length=(u.gr t).bz.toNat
 C8:∀t,t<u.bx.length→∀w∈m.bz.getD t [],eM w
 ml:m.mem.length=u.shared.length
 mw:∀w∈m.mem,eM w
 hl:m.hold.length=u.cD.length
 hw:∀w∈m.hold,-1≤w∧w<u.bx.length
 pw:∀p∈m.cN,0≤p.da∧p.da<u.bx.length∧eM p.word
abbrev MS.node (u:bu) (m:MS) (t:Nat):Node:=(u.gr t).nd (m.at_.getD t 0).toNat
def MS.mJ (u:bu) (m:MS) (t:Int):Int:=if t<0∨(m.at_.length:Int)≤t then 2 else if(m.node u t.toNat).kind=9 then 70 else if(m.node u t.toNat).kind=5∧0≤m.hold.getD (m.node u t.toNat).cP.toNat 0 then 71 else 0
theorem ints_at {l:List Int} {k:Nat} (h:k<l.length) (d:AV):(l.map i64).getD ((k:Int)).toNat d=i64 (l.getD k 0):=by
 rw[Int.toNat_natCast];exact cz i64 l k d h
theorem oX {l:List Int} {k:Int} (h:k.toNat<l.length) (d:AV):(l.map i64).getD k.toNat d=i64 (l.getD k.toNat 0):=cz i64 l k.toNat d h
theorem eN.node {u:bu} {m:MS} (hr:cZ u) (h:eN u m) {t:Nat} (ht:t<u.bx.length):nJ u (u.gr t) (m.node u t):=by
 have:=h.gR t ht
 exact(hr.gr ht).nodes _ (cR default (by omega))
theorem DY {u:bu} {m:MS} {t:Int} (h:t<0∨(m.at_.length:Int)≤t):m.mJ u t=2:=by unfold MS.mJ;rw[if_pos h]
theorem zr (u:bu) (m:MS) (t:Int):Pure Tryz.prog 68 [m.fz u,i64 t] (fun r=>r=bl (decide (¬(t<0∨(m.at_.length:Int)≤t)))):=by
 refine aI NO rfl ?_
 refine cU ?_
 refine ef ?_
 rw[List.length_map]
 by_cases h1:0≤t<;>by_cases h2:t<m.at_.length<;>simp[h1,h2]<;>omega
set_option maxRecDepth 8000 in
set_option maxHeartbeats 2000000 in
theorem vQ (u:bu) (hr:cZ u) (m:MS) (h:eN u m) (t:Int):Pure Tryz.prog 69 [m.fz u,i64 t] (fun r=>r=i64 (m.mJ u t)):=by
 have c0:=zr u m t
 have hl:=h.pW
 by_cases ht:t<0∨(m.at_.length:Int)≤t
 ·rw[DY ht]
  rw[decide_eq_false (fun e=>e ht)] at c0
  refine aI vv rfl ?_
  refine cU ?_
  first|exact rfl|trivial
 ·rw[decide_eq_true ht] at c0
  obtain⟨k,rfl⟩:∃k:Nat,t=k:=⟨t.toNat,by omega⟩
  have hk:k<u.bx.length:=by omega
  have hbar:m.mJ u k=if(m.node u k).kind=9 then 70 else if(m.node u k).kind=5∧0≤m.hold.getD (m.node u k).cP.toNat 0 then 71 else 0:=by
   unfold MS.mJ;rw[if_neg ht,Int.toNat_natCast]
  rw[hbar]
  have hno:=h.node hr hk
  obtain⟨p0,p1⟩:=h.gR k hk
  have e0:=fun d=>sD (l:=u.bx) hk d
  have e1:=fun d=>ints_at (l:=m.at_) (k:=k) (by omega) d
  obtain⟨j,hj⟩:∃j:Nat,m.at_.getD k 0=j:=⟨(m.at_.getD k 0).toNat,by omega⟩
  rw[hj] at e1 p1
  have hnd:m.node u k=(u.gr k).nd j:=by unfold MS.node;rw[hj,Int.toNat_natCast]
  rw[hnd] at hno ⊢
  have hgr:u.bx.getD k default=u.gr k:=rfl
  rw[hgr] at e0
  generalize u.gr k=g at *
  have e2:=fun d=>j5 (l:=g.nodes) (i:=j) (by omega) d
  rw[show g.nodes.getD j default=g.nd j from rfl] at e2
  generalize g.nd j=n at *
  have a0:(u.bx.map cE.av).length=u.bx.length:=by simp
  have a1:(m.at_.map i64).length=u.bx.length:=by simp[hl]
  have a2:(g.nodes.map Node.av).length=g.nodes.length:=by simp
  have a3:(m.hold.map i64).length=u.cD.length:=by simp[h.hl]
  by_cases h9:n.kind=9
  ·have r0:=h9
   rw[if_pos h9]
   refine aI vv rfl ?_
   refine cU ?_
   first|exact rfl|trivial
  ·rw[if_neg h9]
   by_cases h5:n.kind=5
   ·have hth:=hno.cP.1 (by unfold fq;exact decide_eq_true (by omega))
    rw[if_pos (.inl h5)] at hth
    have hhl:=h.hl
    have e3:=fun d=>oX (l:=m.hold) (k:=n.cP) (by omega) d
    have r0:=h5
    by_cases hh:0≤m.hold.getD n.cP.toNat 0
    ·rw[if_pos ⟨h5,hh⟩]
     have r1:=decide_eq_true hh
     refine aI vv rfl ?_
     refine cU ?_
     first|exact rfl|trivial
    ·rw[if_neg fun e=>hh e.2]
     have r1:=decide_eq_false hh
     refine aI vv rfl ?_
     refine cU ?_
     first|exact rfl|trivial
   ·rw[if_neg fun e=>h5 e.1]
    have r1:=decide_eq_false h5
    refine aI vv rfl ?_
    refine cU ?_
    first|exact rfl|trivial
theorem K4 (u:bu) (hr:cZ u) (m:MS) (h:eN u m) (t:Int):Pure Tryz.prog 32 [m.fz u,i64 t] (fun r=>r=bl (decide (m.mJ u t=0))):=by
 have c0:=vQ u hr m h t
 refine aI M7 rfl ?_
 refine cU ?_
 first|exact rfl|trivial
def MS.ended (u:bu) (m:MS):Bool:=(List.range m.at_.length).all fun t=>decide (m.mJ u t=70)
theorem LM (u:bu) (hr:cZ u) (m:MS) (h:eN u m):Pure Tryz.prog 67 [m.fz u] (fun r=>r=bl (m.ended u)):=by
 have hl:=h.pW
 have hgl:=hr.qO
 refine aI NN rfl ?_
 refine cU ?_
 rw[List.length_map]
 refine aL (fun i:Nat=>[(0,m.fz u),(10,i64 m.at_.length),(11,i64 i)]) (fun i H n=>i≤m.at_.length∧∀j:Nat,j<i→m.mJ u j=70) (fun i=>m.at_.length - i) 0 cG ⟨Nat.zero_le _,fun j hj=>by omega⟩ ?_
 rintro i H n ⟨hi,hall⟩
 by_cases hil:i<m.at_.length
 ·have c0:=vQ u hr m h i
  by_cases hb:m.mJ u i=70
  ·have r0:=hb
   refine cU ?_
   exact⟨i+1,by omega,cG,by omega,fun j hj=>by
    by_cases e:j=i
    ·rw[e];exact hb
    ·exact hall j (by omega)⟩
  ·have r0:=decide_eq_true hb
   refine cU ?_
   refine ef (Eq.symm ?_)
   unfold MS.ended
   rw[List.all_eq_false]
   exact⟨i,List.mem_range.2 hil,by simpa using hb⟩
 ·refine cU ?_
  refine ef (Eq.symm ?_)
  unfold MS.ended
  rw[List.all_eq_true]
  intro j hj
  exact decide_eq_true (hall j (by have:=List.mem_range.1 hj;omega))
end Go.Proofs.YtjopoheligmmoaaGreatDoor
end
section
/- Ends compared: plain data, the small functions of the code. -/
namespace Go.Proofs.YtjopoheligmmoaaGreatDoor
open Go Go.cY Go.Proofs
set_option linter.unusedSimpArgs false
set_option linter.unusedVariables false
structure cm where
 cN:List dS
 mem:List Int
 ended:Bool
 deriving Inhabited,DecidableEq
def cm.cells (e:cm):List AV:=[fi e.cN,cS e.mem,bl e.ended]
abbrev cm.av (e:cm):AV:= .agg e.cells
@[simp] theorem YI (n:Nat) (e:cm):cX n e.cells:=by simp[cm.cells,cX,cL,cC]
def eV (x y:Int):Int:=if x<y then -1 else if y<x then 1 else 0
def sY:List Int→Int
 |[]=>0
 |x::l=>if x=0 then sY l else x
def jD (p q:dS):Int:=sY [eV p.da q.da,eV p.word q.word]
def eY {α:Type} (f:α→α→Int):List α→List α→Int
 |[],[]=>0
 |[],_::_=>-1
 |_::_,[]=>1
 |x::a,y::b=>if f x y=0 then eY f a b else f x y
def vW (a b:Bool):Int:=if a=b then 0 else if b then -1 else 1
def fk (a b:cm):Int:=sY [eY jD a.cN b.cN,eY eV a.mem b.mem,vW a.ended b.ended]
theorem vY {α:Type} (f:α→α→Int) (d:α) {a b:List α} {i:Nat} (h1:i<a.length) (h2:i<b.length):eY f (a.drop i) (b.drop i)=if f (a.getD i d) (b.getD i d)=0 then eY f (a.drop (i+1)) (b.drop (i+1)) else f (a.getD i d) (b.getD i d):=by
 rw[List.drop_eq_getElem_cons h1,List.drop_eq_getElem_cons h2,eY]
 simp[List.getD,List.getElem?_eq_getElem h1,List.getElem?_eq_getElem h2]
theorem rW {α:Type} (f:α→α→Int) {a b:List α} {i:Nat} (h1:i<a.length) (h2:b.length≤i):eY f (a.drop i) (b.drop i)=1:=by
 rw[List.drop_eq_getElem_cons h1,List.drop_of_length_le h2,eY]
theorem rU {α:Type} (f:α→α→Int) {a b:List α} {i:Nat} (h1:a.length≤i) (h2:i≤b.length):eY f (a.drop i) (b.drop i)=if i<b.length then -1 else 0:=by
 rw[List.drop_of_length_le h1]
 split
 ·rename_i h;rw[List.drop_eq_getElem_cons h,eY]
 ·rw[List.drop_of_length_le (by omega),eY]
theorem GB (x:Int):Pure Tryz.prog 104 [i64 x] (fun r=>r=bl false):=by
 refine aI xw rfl ?_
 refine cU ?_
 refine ef ?_
 simp
theorem zQ (x:Int):Pure Tryz.prog 194 [i64 x] (fun r=>r=bl false):=by
 refine aI yc rfl ?_
 refine cU ?_
 refine ef ?_
 simp
theorem rR (x y:Int):Pure Tryz.prog 62 [i64 x,i64 y] (fun r=>r=i64 (eV x y)):=by
 have c0:=GB x
 have c1:=GB y
 unfold eV
 by_cases h:x<y
 ·rw[if_pos h]
  refine aI B0 rfl ?_
  refine cU ?_
  first|exact rfl|trivial
 ·rw[if_neg h]
  by_cases h2:y<x
  ·rw[if_pos h2]
   refine aI B0 rfl ?_
   refine cU ?_
   first|exact rfl|trivial
  ·rw[if_neg h2]
   refine aI B0 rfl ?_
   refine cU ?_
   first|exact rfl|trivial
theorem tq (x y:Int):Pure Tryz.prog 152 [i64 x,i64 y] (fun r=>r=i64 (eV x y)):=by
 have c0:=zQ x
 have c1:=zQ y
 unfold eV
 by_cases h:x<y
 ·rw[if_pos h]
  refine aI sN rfl ?_
  refine cU ?_
  first|exact rfl|trivial
 ·rw[if_neg h]
  by_cases h2:y<x
  ·rw[if_pos h2]
   refine aI sN rfl ?_
   refine cU ?_
   first|exact rfl|trivial
  ·rw[if_neg h2]
   refine aI sN rfl ?_
   refine cU ?_
   first|exact rfl|trivial
theorem OF {l:List Int} {i:Nat} (h:i<l.length):sY (l.drop i)=if l.getD i 0=0 then sY (l.drop (i+1)) else l.getD i 0:=by
 rw[List.drop_eq_getElem_cons h,sY]
 simp[List.getD,List.getElem?_eq_getElem h]
theorem wF (l:List Int) (hl:l.length≤1000):Pure Tryz.prog 61 [cS l] (fun r=>r=i64 (sY l)):=by
 refine aI NL rfl ?_
 refine cU ?_
 rw[List.length_map]
 refine aL (fun i:Nat=>[(3,i64 0),(6,cS l),(7,i64 l.length),(8,i64 i)]) (fun i H n=>i≤l.length∧sY l=sY (l.drop i)) (fun i=>l.length - i) 0 cG ⟨Nat.zero_le _,rfl⟩ ?_
 rintro i H n ⟨hi,ho⟩
 rw[ho]
 by_cases hil:i<l.length
 ·have e0:=fun d=>ints_at (l:=l) hil d
  have a0:(l.map i64).length=l.length:=by simp
  have hd:=OF hil
  by_cases hz:l.getD i 0=0
  ·have r0:=hz
   rw[if_pos hz] at hd
   refine cU ?_
   exact⟨i+1,by omega,cG,by omega,hd⟩
  ·have r0:=decide_eq_true hz
   rw[if_neg hz] at hd
   refine cU ?_
   rw[hd]
 ·rw[List.drop_of_length_le (by omega)]
  refine cU ?_
  first|exact rfl|trivial
end Go.Proofs.YtjopoheligmmoaaGreatDoor
end
section
/- Copies of lists; what a machine shows. -/
namespace Go.Proofs.YtjopoheligmmoaaGreatDoor
open Go Go.cY Go.Proofs
set_option linter.unusedSimpArgs false
set_option linter.unusedVariables false
theorem sn {p:Prop} (h:Go p):p:=h
theorem G2 {es:List AV} (hf:cX 0 es) (hl:es.length * 16≤140737488355328):cJ Tryz.prog 184 [.im 2 .any es] [] 0 (fun r H _=>cY.dV H 6 r= .sc (.slice none 0 0)∧es=[]∨cY.dV H 6 r= .im 2 .any es):=by
 refine aM y9 rfl ?_
 cases es with
 |nil=>
  refine cU ?_
  refine⟨sn ?_,sn ?_⟩
  ·refine cU ?_
   exact⟨.inl ⟨rfl,rfl⟩⟩
  ·refine cU ?_
   exact⟨.inr rfl⟩
 |cons x t=>
  have a0:(x::t).length * 16≤iO:=hl
  simp only[List.length_cons] at hl
  refine cU ?_
  refine⟨.inr ((df (e:=155) (sz:=2) (es:=x::t) bw (Nat.zero_add _).symm).trans ?_)⟩
  rw[cy _ hf]
theorem G3 {es:List AV} (hf:cX 0 es) (hl:es.length * 8≤140737488355328):cJ Tryz.prog 185 [.im 1 .any es] [] 0 (fun r H _=>cY.dV H 6 r= .sc (.slice none 0 0)∧es=[]∨cY.dV H 6 r= .im 1 .any es):=by
 refine aM yb rfl ?_
 cases es with
 |nil=>
  refine cU ?_
  refine⟨sn ?_,sn ?_⟩
  ·refine cU ?_
   exact⟨.inl ⟨rfl,rfl⟩⟩
  ·refine cU ?_
   exact⟨.inr rfl⟩
 |cons x t=>
  have a0:(x::t).length * 8≤iO:=hl
  simp only[List.length_cons] at hl
  refine cU ?_
  refine⟨.inr ((df (e:=2) (sz:=1) (es:=x::t) bw (Nat.zero_add _).symm).trans ?_)⟩
  rw[cy _ hf]
theorem xG (l:List dS) (hl:l.length * 16≤140737488355328):Pure Tryz.prog 184 [fi l] (fun r=>r=fi l):=
 mf (by simp[cL,cC]) (G2 ((cC _ _).2 fun _ _=>by simp[cL]) (by rw[List.length_map];exact hl))
theorem xH (l:List Int) (hl:l.length * 8≤140737488355328):Pure Tryz.prog 185 [cS l] (fun r=>r=cS l):=
 mf (by simp[cL,cC]) (G3 ((cC _ _).2 fun _ _=>by simp[cL]) (by rw[List.length_map];exact hl))
theorem JI (u:bu) (m:MS) (hl:m.cN.length * 16≤140737488355328):Pure Tryz.prog 147 [m.fz u] (fun r=>r=fi m.cN):=by
 have c0:=xG m.cN hl
 refine aI yO rfl ?_
 refine cU ?_
 first|exact rfl|trivial
theorem I5 (u:bu) (m:MS) (hl:m.mem.length * 8≤140737488355328):Pure Tryz.prog 148 [m.fz u] (fun r=>r=cS m.mem):=by
 have c0:=xH m.mem hl
 refine aI yP rfl ?_
 refine cU ?_
 first|exact rfl|trivial
end Go.Proofs.YtjopoheligmmoaaGreatDoor
end
section
/- Whether a situation is an end. -/
namespace Go.Proofs.YtjopoheligmmoaaGreatDoor
open Go Go.cY Go.Proofs
set_option linter.unusedSimpArgs false
set_option linter.unusedVariables false
def MS.stuck (u:bu) (m:MS):Bool:=(List.range m.at_.length).all fun t=>decide (m.mJ u t≠0)
def MS.end_ (u:bu) (m:MS):cm:=⟨m.cN,m.mem,m.ended u⟩
def ky (u:bu) (m:MS):AV:=if m.stuck u then .dQ [(m.end_ u).av,bl true] else .dQ [.agg [.sc (.slice none 0 0), .sc (.slice none 0 0),bl false],bl false]
theorem ua (u:bu) (hr:cZ u) (m:MS) (h:eN u m) (hp:m.cN.length * 16≤140737488355328) (hm:m.mem.length * 8≤140737488355328):Pure Tryz.prog 94 [u.av,m.fz u] (fun r=>r=ky u m):=by
 have hl:=h.pW
 have hgl:=hr.qO
 have c1:=JI u m hp
 have c2:=I5 u m hm
 have c3:=LM u hr m h
 refine aI NX rfl ?_
 refine cU ?_
 rw[List.length_map,←hl]
 refine aL (fun i:Nat=>[(1,m.fz u),(4, .pt 1 1 0 0),(9,i64 m.at_.length),(10,i64 i)]) (fun i H n=>i≤m.at_.length∧2≤n∧bt H 1=some (.row 105 3 (gI true [.slice none 0 0, .slice none 0 0, .bool false]) [gI true [.slice none 0 0, .slice none 0 0, .bool false]])∧∀j:Nat,j<i→m.mJ u j≠0) (fun i=>m.at_.length - i) 0 cG ⟨Nat.zero_le _,c8,bw,fun j hj=>by omega⟩ ?_
 rintro i H n ⟨hi,hn,hx,hall⟩
 by_cases hil:i<m.at_.length
 ·have c0:=K4 u hr m h i
  by_cases hb:m.mJ u i=0
  ·have hs:m.stuck u=false:=by
    unfold MS.stuck
    rw[List.all_eq_false]
    exact⟨i,List.mem_range.2 hil,by simpa using hb⟩
   have r0:=decide_eq_true hb
   rw[ky,hs]
   refine cU ?_
   first|exact rfl|trivial
  ·have r0:=decide_eq_false hb
   refine cU ?_
   exact⟨i+1,by omega,cG,by omega,by omega,bw,fun j hj=>by
    by_cases e:j=i
    ·rw[e];exact hb
    ·exact hall j (by omega)⟩
 ·have hs:m.stuck u=true:=by
   unfold MS.stuck
   rw[List.all_eq_true]
   intro j hj
   exact decide_eq_true (hall j (by have:=List.mem_range.1 hj;omega))
  rw[ky,hs]
  refine cU ?_
  first|exact rfl|trivial
end Go.Proofs.YtjopoheligmmoaaGreatDoor
end
section
/- The machine in rows: Copy. -/
namespace Go.Proofs.YtjopoheligmmoaaGreatDoor
open Go Go.cY Go.Proofs
set_option linter.unusedSimpArgs false
set_option linter.unusedVariables false
def eQ (ids:List Nat) (l:List (List Int)):List AV:=(ids.zip l).map fun p=> .sl p.1 p.2.length
def MS.rows (u:bu) (m:MS) (a s me ho pr:Nat):AV:= .agg [cr u.shared,cr u.cD,dc u.bx, .sl a m.at_.length, .sl s m.bz.length, .sl me m.mem.length, .sl ho m.hold.length, .sl pr m.cN.length]
structure V7 (u:bu) (m:MS) (mr a s me ho pr:Nat) (ids:List Nat) (H:Hp):Prop where
 rM:∃d,bt H mr=some (.row 114 8 d [m.rows u a s me ho pr])
 rA:∃d,bt H a=some (.row 3 1 d (m.at_.map i64))
 rS:∃d,bt H s=some (.row 93 1 d (eQ ids m.bz))
 rL:∀t,t<m.bz.length→∃d,bt H (ids.getD t 0)=some (.row 2 1 d ((m.bz.getD t []).map i64))
 rE:∃d,bt H me=some (.row 2 1 d (m.mem.map i64))
 rH:∃d,bt H ho=some (.row 3 1 d (m.hold.map i64))
 rP:∃d,bt H pr=some (.row 155 2 d (m.cN.map dS.av))
 len:ids.length=m.bz.length
 nodup:(mr::a::s::me::ho::pr::ids).Nodup
theorem uh {ids:List Nat} {l:List (List Int)} (h:ids.length=l.length) (i:Nat) (x:List Int):eQ (ids++[i]) (l++[x])=eQ ids l++[.sl i x.length]:=by
 unfold eQ
 rw[List.zip_append h]
 simp
theorem copied (es:List AV) (z:AV):List.take (es.length.min (es.length:Int).toNat) es++List.drop (es.length.min (es.length:Int).toNat) (List.replicate (es.length:Int).toNat z)=es:=by
 rw[Int.toNat_natCast,show es.length.min es.length=es.length from Nat.min_self _]
 simp
set_option maxHeartbeats 4000000 in
theorem AZ (u:bu) (m:MS) (h1:m.at_.length≤4096) (h2:m.mem.length≤4096) (h3:m.hold.length≤4096) (h4:m.cN.length≤1048576) (h5:m.bz.length≤4096) (h6:∀l∈m.bz,l.length≤1048576) (H0:Hp) (nx:Nat):cJ Tryz.prog 146 [m.fz u] H0 nx (fun r H n=>∃mr a s me ho pr ids,r= .pt mr 1 0 0∧V7 u m mr a s me ho pr ids H∧(∀x∈mr::a::s::me::ho::pr::ids,nx≤x∧x<n)∧nx≤n∧∀y,y<nx→bt H y=bt H0 y):=by
 refine aM yN rfl ?_
 refine cU ?_
 simp only[copied]
 simp only[List.length_map,Int.toNat_natCast]
 refine aU (fun σ:Nat×List Nat=>[(0,m.fz u),(3, .pt (nx+32) 1 0 0),(78,GK m.bz),(79,i64 m.bz.length),(80,i64 σ.1)])
  (fun σ H n=>σ.1≤m.bz.length∧nx+77≤n∧σ.2.length=σ.1∧σ.2.Nodup∧(∀x∈σ.2,nx+77≤x∧x<n)∧(∃d,bt H (nx+32)=some (.row 114 8 d [.agg [cr u.shared,cr u.cD,dc u.bx, .sl (nx+12) m.at_.length, .sl (nx+76) σ.1, .sl (nx+18) m.mem.length, .sl (nx+24) m.hold.length, .sl (nx+30) m.cN.length]]))∧(∃d,bt H (nx+12)=some (.row 3 1 d (m.at_.map i64)))∧(∃d,bt H (nx+18)=some (.row 2 1 d (m.mem.map i64)))∧(∃d,bt H (nx+24)=some (.row 3 1 d (m.hold.map i64)))∧(∃d,bt H (nx+30)=some (.row 155 2 d (m.cN.map dS.av)))∧(∃d,bt H (nx+76)=some (.row 93 1 d (eQ σ.2 (m.bz.take σ.1))))∧(∀t,t<σ.1→∃d,bt H (σ.2.getD t 0)=some (.row 2 1 d ((m.bz.getD t []).map i64)))∧∀y,y<nx→bt H y=bt H0 y) (fun σ=>m.bz.length - σ.1) (0,[])
  ⟨_,_,_,Rt.wk (Wk.oj (b:=nx+32) (e:=93) (sz:=1) (by simp only[List.length_cons,List.length_nil];omega) (by omega) (te:=114) (tz:=8) (cs:=[cr u.shared,cr u.cD,dc u.bx, .sl (nx+12) m.at_.length, .sc (.slice none 0 0), .sl (nx+18) m.mem.length, .sl (nx+24) m.hold.length, .sl (nx+30) m.cN.length]) (j:=4) bw (by show 4<8;omega) rfl),cG,Nat.zero_le _,c8,rfl,List.nodup_nil,fun x hx=>by simp at hx,⟨_,bw⟩,⟨_,bw⟩,⟨_,bw⟩,⟨_,bw⟩,⟨_,bw⟩,⟨_,bw⟩,fun t ht=>absurd ht (Nat.not_lt_zero _),fun y hy=>cB⟩ ?_
 rintro⟨t,ids⟩ H n ⟨ht,hn,hil,hnd,hin,⟨d0,r0⟩,⟨d1,r1⟩,⟨d2,r2⟩,⟨d3,r3⟩,⟨d4,r4⟩,⟨d5,r5⟩,hls,hkp⟩
 dsimp only at ht hil hnd hin r0 r5 hls ⊢
 have htk:(m.bz.take t).length=t:=by rw[List.length_take];omega
 have hrl:(eQ ids (m.bz.take t)).length=t:=by unfold eQ;rw[List.length_map,List.length_zip,htk,hil];omega
 by_cases htl:t<m.bz.length
 ·have e0:∀d,(m.bz.map cS).getD ((t:Int)).toNat d=cS (m.bz.getD t []):=fun d=>by rw[Int.toNat_natCast];exact cz cS m.bz t d htl
  have a0:(m.bz.map cS).length=m.bz.length:=by simp
  have hnx:eQ (ids++[n+6]) (m.bz.take (t+1))=eQ ids (m.bz.take t)++[.sl (n+6) (m.bz.getD t []).length]:=by
   rw[List.take_succ_eq_append_getElem htl,uh (by rw[hil,htk]),show m.bz.getD t []=m.bz[t] by simp[List.getD,htl]]
  have h7:=h6 _ (cR (l:=m.bz) [] htl)
  refine cU ?_
  simp only[copied]
  simp only[List.length_map,Int.toNat_natCast]
  refine⟨(t+1,ids++[n+6]),by dsimp only;omega,_,_,_,Rt.refl _ _ _,cG,by dsimp only;omega,by omega,by simp[hil], ?_, ?_,⟨_,bw⟩,⟨_,bw⟩,⟨_,bw⟩,⟨_,bw⟩,⟨_,bw⟩,⟨_,by dsimp only;rw[hnx];exact bw⟩, ?_,fun y hy=>Eq.trans cB (hkp y hy)⟩
  ·refine List.nodup_append.2 ⟨hnd,by simp,fun a ha b hb=> ?_⟩
   simp only[List.mem_cons,List.not_mem_nil,or_false] at hb
   have:=hin _ ha;omega
  ·intro x hx
   rcases List.mem_append.1 hx with hx|hx
   ·have:=hin _ hx;exact⟨this.1,Nat.lt_of_lt_of_le this.2 c8⟩
   ·simp only[List.mem_cons,List.not_mem_nil,or_false] at hx
    subst hx;exact⟨by omega,c8⟩
  ·intro q hq
   have hq:q<t+1:=hq
   by_cases e:q=t
   ·subst e
    have e2:(ids++[n+6]).getD q 0=n+6:=by rw[List.getD,List.getElem?_append_right (by omega),hil,Nat.sub_self];rfl
    dsimp only
    rw[e2];exact⟨_,bw⟩
   ·obtain⟨d,hd⟩:=hls q (by omega)
    have e2:(ids++[n+6]).getD q 0=ids.getD q 0:=by simp[List.getD,List.getElem?_append,show q<ids.length by omega]
    have:=hin _ (fF (l:=ids) (q:=q) (by omega))
    dsimp only
    rw[e2];exact⟨d,Eq.trans cB hd⟩
 ·have:t=m.bz.length:=by omega
  subst this
  rw[List.take_length] at r5
  refine cU ?_
  refine⟨⟨nx+32,nx+12,nx+76,nx+18,nx+24,nx+30,ids,rfl,⟨⟨_,bw⟩,⟨_,bw⟩,⟨_,bw⟩,fun t ht=> ?_,⟨_,bw⟩,⟨_,bw⟩,⟨_,bw⟩,hil, ?_⟩, ?_,c8,fun y hy=>Eq.trans cB (hkp y hy)⟩⟩
  ·obtain⟨d,hd⟩:=hls t ht
   have:=hin _ (fF (l:=ids) (q:=t) (by omega))
   exact⟨d,Eq.trans cB hd⟩
  ·have hno:∀k,k<nx+77→k∉ids:=fun k hk h=>by have:=hin _ h;omega
   simp only[List.nodup_cons,List.mem_cons,not_or]
   exact⟨⟨by omega,by omega,by omega,by omega,by omega,hno _ (by omega)⟩,⟨by omega,by omega,by omega,by omega,hno _ (by omega)⟩,⟨by omega,by omega,by omega,hno _ (by omega)⟩,⟨by omega,by omega,hno _ (by omega)⟩,⟨by omega,hno _ (by omega)⟩,hno _ (by omega),hnd⟩
  ·intro x hx
   simp only[List.mem_cons] at hx
   rcases hx with rfl|rfl|rfl|rfl|rfl|rfl|hx
   all_goals first
    |exact⟨by omega,by omega⟩
    |(have:=hin _ hx;exact⟨by omega,by omega⟩)
end Go.Proofs.YtjopoheligmmoaaGreatDoor
end
section
/- The machine in rows, frozen. -/
namespace Go.Proofs.YtjopoheligmmoaaGreatDoor
open Go Go.cY Go.Proofs
set_option linter.unusedSimpArgs false
set_option linter.unusedVariables false
theorem vh {H:Hp} {k:Nat} {cs:List AV}:cY.dV H (k+1) (.agg cs)= .agg (cs.map (cY.dV H k)):=by simp only[dV]
theorem V7.dV {u:bu} {m:MS} {mr a s me ho pr:Nat} {ids:List Nat} {H:Hp} (h:V7 u m mr a s me ho pr ids H) (k:Nat):cY.dV H (k+5) (.pt mr 1 0 0)=m.fz u:=by
 obtain⟨d1,h1⟩:=h.rM
 obtain⟨d2,h2⟩:=h.rA
 obtain⟨d3,h3⟩:=h.rS
 obtain⟨d4,h4⟩:=h.rE
 obtain⟨d5,h5⟩:=h.rH
 obtain⟨d6,h6⟩:=h.rP
 have hsl:(eQ ids m.bz).length=m.bz.length:=by unfold eQ;rw[List.length_map,List.length_zip,h.len];simp
 have hs:(eQ ids m.bz).map (cY.dV H (k+2))=m.bz.map cS:=by
  apply List.ext_getElem (by simp[hsl])
  intro t q1 q2
  have ht:t<m.bz.length:=by simpa using q2
  have hti:t<ids.length:=by rw[h.len];exact ht
  obtain⟨d,hd⟩:=h.rL t ht
  rw[show ids.getD t 0=ids[t] by simp[List.getD,hti],show m.bz.getD t []=m.bz[t] by simp[List.getD,ht]] at hd
  rw[List.getElem_map,List.getElem_map]
  simp only[eQ,List.getElem_map,List.getElem_zip]
  rw[df hd (by simp),cy _ ((cC _ _).2 fun _ _=>by simp[cL])]
 simp only[cY.dV,h1]
 simp only[List.length_cons,List.length_nil,if_true,List.map_cons,List.map_nil,MS.rows]
 rw[vh]
 simp only[List.map_cons,List.map_nil]
 rw[df h2 (by simp),df h3 hsl,df h4 (by simp),df h5 (by simp),df h6 (by simp),hs]
 rw[cy _ ((cC _ _).2 fun _ _=>by simp[cL]),cy _ ((cC _ _).2 fun _ _=>by simp[cL]),cy _ ((cC _ _).2 fun _ _=>by simp[cL]),cy _ ((cC _ _).2 fun _ _=>by simp[cL])]
 rw[dv _ (show cL 0 (cr u.shared) by simp[cL,cC]),dv _ (show cL 0 (cr u.cD) by simp[cL,cC]),dv _ (show cL 0 (dc u.bx) by simp[cL,cC])]
 rfl
end Go.Proofs.YtjopoheligmmoaaGreatDoor
end
section
/- The machine that has done nothing. -/
namespace Go.Proofs.YtjopoheligmmoaaGreatDoor
open Go Go.cY Go.Proofs
set_option linter.unusedSimpArgs false
set_option linter.unusedVariables false
def du (u:bu):MS:=⟨u.bx.map fun _=>0,u.bx.map fun g=>List.replicate g.bz.toNat 0,u.shared.map Decl.word,u.cD.map fun _=>-1,[]⟩
theorem GC (u:bu) (hr:cZ u) (hw:∀d∈u.shared,eM d.word) (hn:∀t,t<u.bx.length→0<(u.gr t).nodes.length):eN u (du u) where
 pW:=by simp[du]
 gR:=fun t ht=>by
  have e:(du u).at_.getD t 0=0:=by simp[du,List.getD,ht]
  rw[e]
  exact⟨Int.le_refl _,by have:=hn t ht;omega⟩
 sl:=by simp[du]
 C7:=fun t ht=>by
  have e:(du u).bz.getD t []=List.replicate (u.gr t).bz.toNat 0:=by simp[du,List.getD,bu.gr,ht]
  rw[e,List.length_replicate]
 C8:=fun t ht w hw=>by
  have e:(du u).bz.getD t []=List.replicate (u.gr t).bz.toNat 0:=by simp[du,List.getD,bu.gr,ht]
  rw[e] at hw
  rw[List.eq_of_mem_replicate hw]
  exact⟨by omega,by omega⟩
 ml:=by simp[du]
 mw:=fun w h=>by
  obtain⟨d,hd,rfl⟩:=List.mem_map.1 h
  exact hw d hd
 hl:=by simp[du]
 hw:=fun w h=>by
  obtain⟨d,hd,rfl⟩:=List.mem_map.1 h
  exact⟨by omega,by omega⟩
 pw:=fun p h=>by simp[du] at h
end Go.Proofs.YtjopoheligmmoaaGreatDoor
end
section
/- Operators. -/
namespace Go.Proofs.YtjopoheligmmoaaGreatDoor
open Go Go.cY Go.Proofs
set_option linter.unusedSimpArgs false
set_option linter.unusedVariables false
set_option maxHeartbeats 1000000
abbrev wY (n:Int):Int:=IntKind.i64.wrap n
def JK (a b:Int):Int:=if b=0 then 0 else if b=-1 then wY (0 - a) else wY (a.tdiv b)
def OL (a b:Int):Int:=if b=0 then a else wY (a - wY (JK a b * b))
def W0 (a b:Int):Int:=wY ((BitVec.ofInt 64 a&&& BitVec.ofInt 64 b).toNat:Int)
def ZQ (a b:Int):Int:=wY ((BitVec.ofInt 64 a|||BitVec.ofInt 64 b).toNat:Int)
def YC (a b:Int):Int:=wY ((BitVec.ofInt 64 a^^^BitVec.ofInt 64 b).toNat:Int)
def K8 (b:Int):Int:=IntKind.u64.wrap ((BitVec.ofInt 64 (IntKind.u64.wrap b)&&& BitVec.ofInt 64 63).toNat:Int)
def XZ (a b:Int):Int:=wY (a * 2^(min (K8 b).toNat 64))
def SQ (a b:Int):Int:=a.fdiv (2^(min (K8 b).toNat 64))
def tr (t:Bool):Int:=if t=true then 1 else 0
theorem cq (t:Bool):Pure Tryz.prog 226 [bl t] (fun r=>r=i64 (tr t)):=by
 refine aI zB rfl ?_
 repeat' (first|((with_reducible refine aF ?_);conv=>whnf)|refine aG ?_|exact aC|with_reducible refine aD ?_ ?_|(apply aB;(·exact cO))|refine aH ?_|((with_reducible refine aA ?_ ?_)<;>intro hc<;>(try simp only[List.length_map,ne_eq,dY] at hc)<;>try(exfalso;omega)))
 all_goals simp_all[tr]
theorem oE (a b:Int):Pure Tryz.prog 206 [i64 a,i64 b] (fun r=>r=i64 (wY (a+b))):=by
 refine aI yg rfl ?_
 repeat' (first|((with_reducible refine aF ?_);conv=>whnf)|refine aG ?_|exact aC|with_reducible refine aD ?_ ?_|(apply aB;(·exact cO))|refine aH ?_|((with_reducible refine aA ?_ ?_)<;>intro hc<;>(try simp only[List.length_map,ne_eq,dY] at hc)<;>try(exfalso;omega)))
 all_goals exact rfl
theorem pI (a b:Int):Pure Tryz.prog 207 [i64 a,i64 b] (fun r=>r=i64 (wY (a - b))):=by
 refine aI yh rfl ?_
 repeat' (first|((with_reducible refine aF ?_);conv=>whnf)|refine aG ?_|exact aC|with_reducible refine aD ?_ ?_|(apply aB;(·exact cO))|refine aH ?_|((with_reducible refine aA ?_ ?_)<;>intro hc<;>(try simp only[List.length_map,ne_eq,dY] at hc)<;>try(exfalso;omega)))
 all_goals exact rfl
theorem oh (a b:Int):Pure Tryz.prog 208 [i64 a,i64 b] (fun r=>r=i64 (wY (a * b))):=by
 refine aI yi rfl ?_
 repeat' (first|((with_reducible refine aF ?_);conv=>whnf)|refine aG ?_|exact aC|with_reducible refine aD ?_ ?_|(apply aB;(·exact cO))|refine aH ?_|((with_reducible refine aA ?_ ?_)<;>intro hc<;>(try simp only[List.length_map,ne_eq,dY] at hc)<;>try(exfalso;omega)))
 all_goals exact rfl
theorem iD (a b:Int):Pure Tryz.prog 209 [i64 a,i64 b] (fun r=>r=i64 (JK a b)):=by
 refine aI yj rfl ?_
 repeat' (first|((with_reducible refine aF ?_);conv=>whnf)|refine aG ?_|exact aC|with_reducible refine aD ?_ ?_|(apply aB;(·exact cO))|refine aH ?_|((with_reducible refine aA ?_ ?_)<;>intro hc<;>(try simp only[List.length_map,ne_eq,dY] at hc)<;>try(exfalso;omega)))
 all_goals simp_all[JK]
theorem pA (a b:Int):Pure Tryz.prog 210 [i64 a,i64 b] (fun r=>r=i64 (OL a b)):=by
 refine aI yk rfl ?_
 repeat' (first|((with_reducible refine aF ?_);conv=>whnf)|refine aG ?_|exact aC|with_reducible refine aD ?_ ?_|(apply aB;(·exact cO))|((with_reducible refine aQ (iD _ _) ?_ ?_);(·exact cF))|((with_reducible refine aP (fun _=>iD _ _) ?_ ?_);(·exact cF))|((with_reducible refine aN (iD _ _) ?_ ?_);(·exact cF))|((with_reducible refine aO (fun _=>iD _ _) ?_ ?_);(·exact cF))|refine aH ?_|((with_reducible refine aA ?_ ?_)<;>intro hc<;>(try simp only[List.length_map,ne_eq,dY] at hc)<;>try(exfalso;omega)))
 all_goals simp_all[OL]
theorem oH (a b:Int):Pure Tryz.prog 211 [i64 a,i64 b] (fun r=>r=i64 (W0 a b)):=by
 refine aI yl rfl ?_
 repeat' (first|((with_reducible refine aF ?_);conv=>whnf)|refine aG ?_|exact aC|with_reducible refine aD ?_ ?_|(apply aB;(·exact cO))|refine aH ?_|((with_reducible refine aA ?_ ?_)<;>intro hc<;>(try simp only[List.length_map,ne_eq,dY] at hc)<;>try(exfalso;omega)))
 all_goals exact rfl
theorem ot (a b:Int):Pure Tryz.prog 212 [i64 a,i64 b] (fun r=>r=i64 (ZQ a b)):=by
 refine aI ym rfl ?_
 repeat' (first|((with_reducible refine aF ?_);conv=>whnf)|refine aG ?_|exact aC|with_reducible refine aD ?_ ?_|(apply aB;(·exact cO))|refine aH ?_|((with_reducible refine aA ?_ ?_)<;>intro hc<;>(try simp only[List.length_map,ne_eq,dY] at hc)<;>try(exfalso;omega)))
 all_goals exact rfl
theorem pM (a b:Int):Pure Tryz.prog 213 [i64 a,i64 b] (fun r=>r=i64 (YC a b)):=by
 refine aI yn rfl ?_
 repeat' (first|((with_reducible refine aF ?_);conv=>whnf)|refine aG ?_|exact aC|with_reducible refine aD ?_ ?_|(apply aB;(·exact cO))|refine aH ?_|((with_reducible refine aA ?_ ?_)<;>intro hc<;>(try simp only[List.length_map,ne_eq,dY] at hc)<;>try(exfalso;omega)))
 all_goals exact rfl
theorem pE (a b:Int):Pure Tryz.prog 214 [i64 a,i64 b] (fun r=>r=i64 (XZ a b)):=by
 refine aI yo rfl ?_
 repeat' (first|((with_reducible refine aF ?_);conv=>whnf)|refine aG ?_|exact aC|with_reducible refine aD ?_ ?_|(apply aB;(·exact cO))|refine aH ?_|((with_reducible refine aA ?_ ?_)<;>intro hc<;>(try simp only[List.length_map,ne_eq,dY] at hc)<;>try(exfalso;omega)))
 all_goals exact rfl
theorem pF (a b:Int):Pure Tryz.prog 215 [i64 a,i64 b] (fun r=>r=i64 (SQ a b)):=by
 refine aI yp rfl ?_
 repeat' (first|((with_reducible refine aF ?_);conv=>whnf)|refine aG ?_|exact aC|with_reducible refine aD ?_ ?_|(apply aB;(·exact cO))|refine aH ?_|((with_reducible refine aA ?_ ?_)<;>intro hc<;>(try simp only[List.length_map,ne_eq,dY] at hc)<;>try(exfalso;omega)))
 all_goals exact rfl
theorem qn (a b:Int):Pure Tryz.prog 216 [i64 a,i64 b] (fun r=>r=i64 (tr (decide (a=b)))):=by
 refine aI yq rfl ?_
 repeat' (first|((with_reducible refine aF ?_);conv=>whnf)|refine aG ?_|exact aC|with_reducible refine aD ?_ ?_|(apply aB;(·exact cO))|((with_reducible refine aQ (cq _) ?_ ?_);(·exact cF))|((with_reducible refine aP (fun _=>cq _) ?_ ?_);(·exact cF))|((with_reducible refine aN (cq _) ?_ ?_);(·exact cF))|((with_reducible refine aO (fun _=>cq _) ?_ ?_);(·exact cF))|refine aH ?_|((with_reducible refine aA ?_ ?_)<;>intro hc<;>(try simp only[List.length_map,ne_eq,dY] at hc)<;>try(exfalso;omega)))
 all_goals exact rfl
theorem ko (a b:Int):Pure Tryz.prog 217 [i64 a,i64 b] (fun r=>r=i64 (tr (decide (a≠b)))):=by
 refine aI yr rfl ?_
 repeat' (first|((with_reducible refine aF ?_);conv=>whnf)|refine aG ?_|exact aC|with_reducible refine aD ?_ ?_|(apply aB;(·exact cO))|((with_reducible refine aQ (cq _) ?_ ?_);(·exact cF))|((with_reducible refine aP (fun _=>cq _) ?_ ?_);(·exact cF))|((with_reducible refine aN (cq _) ?_ ?_);(·exact cF))|((with_reducible refine aO (fun _=>cq _) ?_ ?_);(·exact cF))|refine aH ?_|((with_reducible refine aA ?_ ?_)<;>intro hc<;>(try simp only[List.length_map,ne_eq,dY] at hc)<;>try(exfalso;omega)))
 all_goals exact rfl
theorem mX (a b:Int):Pure Tryz.prog 218 [i64 a,i64 b] (fun r=>r=i64 (tr (decide (a<b)))):=by
 refine aI yu rfl ?_
 repeat' (first|((with_reducible refine aF ?_);conv=>whnf)|refine aG ?_|exact aC|with_reducible refine aD ?_ ?_|(apply aB;(·exact cO))|((with_reducible refine aQ (cq _) ?_ ?_);(·exact cF))|((with_reducible refine aP (fun _=>cq _) ?_ ?_);(·exact cF))|((with_reducible refine aN (cq _) ?_ ?_);(·exact cF))|((with_reducible refine aO (fun _=>cq _) ?_ ?_);(·exact cF))|refine aH ?_|((with_reducible refine aA ?_ ?_)<;>intro hc<;>(try simp only[List.length_map,ne_eq,dY] at hc)<;>try(exfalso;omega)))
 all_goals exact rfl
theorem ma (a b:Int):Pure Tryz.prog 219 [i64 a,i64 b] (fun r=>r=i64 (tr (decide (a≤b)))):=by
 refine aI yw rfl ?_
 repeat' (first|((with_reducible refine aF ?_);conv=>whnf)|refine aG ?_|exact aC|with_reducible refine aD ?_ ?_|(apply aB;(·exact cO))|((with_reducible refine aQ (cq _) ?_ ?_);(·exact cF))|((with_reducible refine aP (fun _=>cq _) ?_ ?_);(·exact cF))|((with_reducible refine aN (cq _) ?_ ?_);(·exact cF))|((with_reducible refine aO (fun _=>cq _) ?_ ?_);(·exact cF))|refine aH ?_|((with_reducible refine aA ?_ ?_)<;>intro hc<;>(try simp only[List.length_map,ne_eq,dY] at hc)<;>try(exfalso;omega)))
 all_goals exact rfl
theorem kW (a b:Int):Pure Tryz.prog 220 [i64 a,i64 b] (fun r=>r=i64 (tr (decide (b<a)))):=by
 refine aI yx rfl ?_
 repeat' (first|((with_reducible refine aF ?_);conv=>whnf)|refine aG ?_|exact aC|with_reducible refine aD ?_ ?_|(apply aB;(·exact cO))|((with_reducible refine aQ (cq _) ?_ ?_);(·exact cF))|((with_reducible refine aP (fun _=>cq _) ?_ ?_);(·exact cF))|((with_reducible refine aN (cq _) ?_ ?_);(·exact cF))|((with_reducible refine aO (fun _=>cq _) ?_ ?_);(·exact cF))|refine aH ?_|((with_reducible refine aA ?_ ?_)<;>intro hc<;>(try simp only[List.length_map,ne_eq,dY] at hc)<;>try(exfalso;omega)))
 all_goals exact rfl
theorem kr (a b:Int):Pure Tryz.prog 221 [i64 a,i64 b] (fun r=>r=i64 (tr (decide (b≤a)))):=by
 refine aI yy rfl ?_
 repeat' (first|((with_reducible refine aF ?_);conv=>whnf)|refine aG ?_|exact aC|with_reducible refine aD ?_ ?_|(apply aB;(·exact cO))|((with_reducible refine aQ (cq _) ?_ ?_);(·exact cF))|((with_reducible refine aP (fun _=>cq _) ?_ ?_);(·exact cF))|((with_reducible refine aN (cq _) ?_ ?_);(·exact cF))|((with_reducible refine aO (fun _=>cq _) ?_ ?_);(·exact cF))|refine aH ?_|((with_reducible refine aA ?_ ?_)<;>intro hc<;>(try simp only[List.length_map,ne_eq,dY] at hc)<;>try(exfalso;omega)))
 all_goals exact rfl
theorem kx (a:Int):Pure Tryz.prog 222 [i64 a] (fun r=>r=i64 (wY (0 - a))):=by
 refine aI yz rfl ?_
 repeat' (first|((with_reducible refine aF ?_);conv=>whnf)|refine aG ?_|exact aC|with_reducible refine aD ?_ ?_|(apply aB;(·exact cO))|refine aH ?_|((with_reducible refine aA ?_ ?_)<;>intro hc<;>(try simp only[List.length_map,ne_eq,dY] at hc)<;>try(exfalso;omega)))
 all_goals exact rfl
theorem om (a:Int):Pure Tryz.prog 223 [i64 a] (fun r=>r=i64 (tr (decide (a=0)))):=by
 refine aI zA rfl ?_
 repeat' (first|((with_reducible refine aF ?_);conv=>whnf)|refine aG ?_|exact aC|with_reducible refine aD ?_ ?_|(apply aB;(·exact cO))|((with_reducible refine aQ (cq _) ?_ ?_);(·exact cF))|((with_reducible refine aP (fun _=>cq _) ?_ ?_);(·exact cF))|((with_reducible refine aN (cq _) ?_ ?_);(·exact cF))|((with_reducible refine aO (fun _=>cq _) ?_ ?_);(·exact cF))|refine aH ?_|((with_reducible refine aA ?_ ?_)<;>intro hc<;>(try simp only[List.length_map,ne_eq,dY] at hc)<;>try(exfalso;omega)))
 all_goals exact rfl
def TW:AV:= .agg [.sc .nilFunc, .sc .nilFunc, .fn (.func 206) [] [], .sc .nilFunc, .fn (.func 207) [] [], .sc .nilFunc, .fn (.func 208) [] [], .sc .nilFunc, .fn (.func 209) [] [], .sc .nilFunc, .fn (.func 210) [] [], .sc .nilFunc, .fn (.func 211) [] [], .sc .nilFunc, .fn (.func 212) [] [], .sc .nilFunc, .fn (.func 213) [] [], .sc .nilFunc, .fn (.func 214) [] [], .sc .nilFunc, .fn (.func 215) [] [], .sc .nilFunc, .fn (.func 216) [] [], .sc .nilFunc, .fn (.func 217) [] [], .sc .nilFunc, .fn (.func 218) [] [], .sc .nilFunc, .fn (.func 219) [] [], .sc .nilFunc, .fn (.func 220) [] [], .sc .nilFunc, .fn (.func 221) [] [], .sc .nilFunc, .sc .nilFunc, .fn (.func 222) [] [], .sc .nilFunc, .fn (.func 223) [] []]
theorem lp:Pure Tryz.prog 197 [] (fun r=>r=TW):=kP (by simp[TW,cL,cX]) (by kernel_rfl)
def S8 (op a b:Int):Int:=if op=1 then wY (a+b) else if op=2 then wY (a - b) else if op=3 then wY (a * b) else if op=4 then JK a b else if op=5 then OL a b else if op=6 then W0 a b else if op=7 then ZQ a b else if op=8 then YC a b else if op=9 then XZ a b else if op=10 then SQ a b else if op=11 then tr (decide (a=b)) else if op=12 then tr (decide (a≠b)) else if op=13 then tr (decide (a<b)) else if op=14 then tr (decide (a≤b)) else if op=15 then tr (decide (b<a)) else tr (decide (b≤a))
def SD (op a:Int):Int:=if op=17 then wY (0 - a) else tr (decide (a=0))
theorem J3 {op:Int} (h:dz op=true):op=1∨op=2∨op=3∨op=4∨op=5∨op=6∨op=7∨op=8∨op=9∨op=10∨op=11∨op=12∨op=13∨op=14∨op=15∨op=16:=by
 simp only[dz,Bool.and_eq_true,decide_eq_true_eq] at h;omega
theorem T3 (op a b:Int) (h:dz op=true):Pure Tryz.prog 160 [u8 op,i64 a,i64 b] (fun r=>r= .dQ [i64 (S8 op a b),i64 0]):=by
 refine aI yU rfl ?_
 rcases J3 h with rfl|rfl|rfl|rfl|rfl|rfl|rfl|rfl|rfl|rfl|rfl|rfl|rfl|rfl|rfl|rfl
 all_goals repeat' (first|((with_reducible refine aF ?_);conv=>whnf)|refine aG ?_|exact aC|with_reducible refine aD ?_ ?_|(apply aB;(·exact cO))|((with_reducible refine aQ (fK _ (by omega)) ?_ ?_);(·exact cF))|((with_reducible refine aP (fun _=>fK _ (by omega)) ?_ ?_);(·exact cF))|((with_reducible refine aN (fK _ (by omega)) ?_ ?_);(·exact cF))|((with_reducible refine aO (fun _=>fK _ (by omega)) ?_ ?_);(·exact cF))|refine aK (lp) ?_|((with_reducible refine aQ (oE _ _) ?_ ?_);(·exact cF))|((with_reducible refine aP (fun _=>oE _ _) ?_ ?_);(·exact cF))|((with_reducible refine aN (oE _ _) ?_ ?_);(·exact cF))|((with_reducible refine aO (fun _=>oE _ _) ?_ ?_);(·exact cF))|((with_reducible refine aQ (pI _ _) ?_ ?_);(·exact cF))|((with_reducible refine aP (fun _=>pI _ _) ?_ ?_);(·exact cF))|((with_reducible refine aN (pI _ _) ?_ ?_);(·exact cF))|((with_reducible refine aO (fun _=>pI _ _) ?_ ?_);(·exact cF))|((with_reducible refine aQ (oh _ _) ?_ ?_);(·exact cF))|((with_reducible refine aP (fun _=>oh _ _) ?_ ?_);(·exact cF))|((with_reducible refine aN (oh _ _) ?_ ?_);(·exact cF))|((with_reducible refine aO (fun _=>oh _ _) ?_ ?_);(·exact cF))|((with_reducible refine aQ (iD _ _) ?_ ?_);(·exact cF))|((with_reducible refine aP (fun _=>iD _ _) ?_ ?_);(·exact cF))|((with_reducible refine aN (iD _ _) ?_ ?_);(·exact cF))|((with_reducible refine aO (fun _=>iD _ _) ?_ ?_);(·exact cF))|((with_reducible refine aQ (pA _ _) ?_ ?_);(·exact cF))|((with_reducible refine aP (fun _=>pA _ _) ?_ ?_);(·exact cF))|((with_reducible refine aN (pA _ _) ?_ ?_);(·exact cF))|((with_reducible refine aO (fun _=>pA _ _) ?_ ?_);(·exact cF))|((with_reducible refine aQ (oH _ _) ?_ ?_);(·exact cF))|((with_reducible refine aP (fun _=>oH _ _) ?_ ?_);(·exact cF))|((with_reducible refine aN (oH _ _) ?_ ?_);(·exact cF))|((with_reducible refine aO (fun _=>oH _ _) ?_ ?_);(·exact cF))|((with_reducible refine aQ (ot _ _) ?_ ?_);(·exact cF))|((with_reducible refine aP (fun _=>ot _ _) ?_ ?_);(·exact cF))|((with_reducible refine aN (ot _ _) ?_ ?_);(·exact cF))|((with_reducible refine aO (fun _=>ot _ _) ?_ ?_);(·exact cF))|((with_reducible refine aQ (pM _ _) ?_ ?_);(·exact cF))|((with_reducible refine aP (fun _=>pM _ _) ?_ ?_);(·exact cF))|((with_reducible refine aN (pM _ _) ?_ ?_);(·exact cF))|((with_reducible refine aO (fun _=>pM _ _) ?_ ?_);(·exact cF))|((with_reducible refine aQ (pE _ _) ?_ ?_);(·exact cF))|((with_reducible refine aP (fun _=>pE _ _) ?_ ?_);(·exact cF))|((with_reducible refine aN (pE _ _) ?_ ?_);(·exact cF))|((with_reducible refine aO (fun _=>pE _ _) ?_ ?_);(·exact cF))|((with_reducible refine aQ (pF _ _) ?_ ?_);(·exact cF))|((with_reducible refine aP (fun _=>pF _ _) ?_ ?_);(·exact cF))|((with_reducible refine aN (pF _ _) ?_ ?_);(·exact cF))|((with_reducible refine aO (fun _=>pF _ _) ?_ ?_);(·exact cF))|((with_reducible refine aQ (qn _ _) ?_ ?_);(·exact cF))|((with_reducible refine aP (fun _=>qn _ _) ?_ ?_);(·exact cF))|((with_reducible refine aN (qn _ _) ?_ ?_);(·exact cF))|((with_reducible refine aO (fun _=>qn _ _) ?_ ?_);(·exact cF))|((with_reducible refine aQ (ko _ _) ?_ ?_);(·exact cF))|((with_reducible refine aP (fun _=>ko _ _) ?_ ?_);(·exact cF))|((with_reducible refine aN (ko _ _) ?_ ?_);(·exact cF))|((with_reducible refine aO (fun _=>ko _ _) ?_ ?_);(·exact cF))|((with_reducible refine aQ (mX _ _) ?_ ?_);(·exact cF))|((with_reducible refine aP (fun _=>mX _ _) ?_ ?_);(·exact cF))|((with_reducible refine aN (mX _ _) ?_ ?_);(·exact cF))|((with_reducible refine aO (fun _=>mX _ _) ?_ ?_);(·exact cF))|((with_reducible refine aQ (ma _ _) ?_ ?_);(·exact cF))|((with_reducible refine aP (fun _=>ma _ _) ?_ ?_);(·exact cF))|((with_reducible refine aN (ma _ _) ?_ ?_);(·exact cF))|((with_reducible refine aO (fun _=>ma _ _) ?_ ?_);(·exact cF))|((with_reducible refine aQ (kW _ _) ?_ ?_);(·exact cF))|((with_reducible refine aP (fun _=>kW _ _) ?_ ?_);(·exact cF))|((with_reducible refine aN (kW _ _) ?_ ?_);(·exact cF))|((with_reducible refine aO (fun _=>kW _ _) ?_ ?_);(·exact cF))|((with_reducible refine aQ (kr _ _) ?_ ?_);(·exact cF))|((with_reducible refine aP (fun _=>kr _ _) ?_ ?_);(·exact cF))|((with_reducible refine aN (kr _ _) ?_ ?_);(·exact cF))|((with_reducible refine aO (fun _=>kr _ _) ?_ ?_);(·exact cF))|refine aH ?_|((with_reducible refine aA ?_ ?_)<;>intro hc<;>(try simp only[List.length_map,ne_eq,dY] at hc)<;>try(exfalso;omega)))
 all_goals (first|exact rfl|trace_state)
theorem PN (op a:Int) (h:op=17∨op=18):Pure Tryz.prog 161 [u8 op,i64 a] (fun r=>r= .dQ [i64 (SD op a),i64 0]):=by
 refine aI yV rfl ?_
 rcases h with rfl|rfl
 all_goals repeat' (first|((with_reducible refine aF ?_);conv=>whnf)|refine aG ?_|exact aC|with_reducible refine aD ?_ ?_|(apply aB;(·exact cO))|((with_reducible refine aQ (fg _) ?_ ?_);(·exact cF))|((with_reducible refine aP (fun _=>fg _) ?_ ?_);(·exact cF))|((with_reducible refine aN (fg _) ?_ ?_);(·exact cF))|((with_reducible refine aO (fun _=>fg _) ?_ ?_);(·exact cF))|((with_reducible refine aQ (fK _ (by omega)) ?_ ?_);(·exact cF))|((with_reducible refine aP (fun _=>fK _ (by omega)) ?_ ?_);(·exact cF))|((with_reducible refine aN (fK _ (by omega)) ?_ ?_);(·exact cF))|((with_reducible refine aO (fun _=>fK _ (by omega)) ?_ ?_);(·exact cF))|refine aK (lp) ?_|((with_reducible refine aQ (kx _) ?_ ?_);(·exact cF))|((with_reducible refine aP (fun _=>kx _) ?_ ?_);(·exact cF))|((with_reducible refine aN (kx _) ?_ ?_);(·exact cF))|((with_reducible refine aO (fun _=>kx _) ?_ ?_);(·exact cF))|((with_reducible refine aQ (om _) ?_ ?_);(·exact cF))|((with_reducible refine aP (fun _=>om _) ?_ ?_);(·exact cF))|((with_reducible refine aN (om _) ?_ ?_);(·exact cF))|((with_reducible refine aO (fun _=>om _) ?_ ?_);(·exact cF))|refine aH ?_|((with_reducible refine aA ?_ ?_)<;>intro hc<;>(try simp only[List.length_map,ne_eq,dY] at hc)<;>try(exfalso;omega)))
 all_goals (first|exact rfl|trace_state)
end Go.Proofs.YtjopoheligmmoaaGreatDoor
end
section
/- A step in plain data. -/
namespace Go.Proofs.YtjopoheligmmoaaGreatDoor
open Go Go.cY Go.Proofs
set_option linter.unusedSimpArgs false
set_option linter.unusedVariables false
structure gO where
 da:Int
 node:Int
 kind:Int
 cP:Int
 word:Int
 put:Int
 deriving Inhabited,DecidableEq
def gO.cells (d:gO):List AV:=[i64 d.da,i64 d.node,u8 d.kind,i64 d.cP,i64 d.word,i64 d.put]
abbrev gO.av (d:gO):AV:= .agg d.cells
def MS.val (m:MS) (t:Nat) (v:lM):Int:=if v.jG then(m.bz.getD t []).getD v.slot.toNat 0 else v.word
def MS.gX (m:MS) (t:Nat) (k:Int) (w:Int):MS:={ m with bz:=m.bz.set t ((m.bz.getD t []).set k.toNat w) }
def MS.C2 (m:MS) (t:Nat) (n:Node):Int:=if dz n.op then S8 n.op (m.val t n.a) (m.val t n.b) else if n.op≠0 then SD n.op (m.val t n.a) else m.val t n.a
def MS.act (m:MS) (t:Nat) (n:Node):MS×Int×Int×Int×Int:=
 if n.kind=1 then(m.gX t n.slot (m.C2 t n),n.next,0,m.C2 t n,0)
 else if n.kind=2 then(m.gX t n.slot (m.mem.getD n.cP.toNat 0),n.next,n.cP,m.mem.getD n.cP.toNat 0,0)
 else if n.kind=3 then({ m with mem:=m.mem.set n.cP.toNat (m.val t n.a) },n.next,n.cP,m.val t n.a,0)
 else if n.kind=4 then({ m.gX t n.slot (m.mem.getD n.cP.toNat 0) with mem:=m.mem.set n.cP.toNat (m.val t n.a) },n.next,n.cP,m.mem.getD n.cP.toNat 0,m.val t n.a)
 else if n.kind=5 then({ m with hold:=m.hold.set n.cP.toNat t },n.next,n.cP,0,0)
 else if n.kind=6 then({ m with hold:=m.hold.set n.cP.toNat (-1) },n.next,n.cP,0,0)
 else if n.kind=7 then({ m with cN:=m.cN++[⟨t,m.val t n.a⟩] },n.next,0,m.val t n.a,0)
 else(m,if m.val t n.a=0 then n.ri else n.next,0,m.val t n.a,0)
def MS.step (u:bu) (m:MS) (t:Nat):MS×gO:=
 let n:=m.node u t
 let r:=m.act t n
 ({ r.1 with at_:=m.at_.set t r.2.1 },⟨t,m.at_.getD t 0,n.kind,r.2.2.1,r.2.2.2.1,r.2.2.2.2⟩)
end Go.Proofs.YtjopoheligmmoaaGreatDoor
end
