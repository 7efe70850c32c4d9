import Derived.Test.YtjopoheligmmoaaGreatDoorM28
import Derived.Test.YtjopoheligmmoaaGreatDoorM29
import Derived.Test.YtjopoheligmmoaaGreatDoorM30
import Derived.Test.YtjopoheligmmoaaGreatDoorM31
section
/- The source machine in plain data. -/
namespace Go.Proofs.YtjopoheligmmoaaGreatDoor
open Go Go.cZ Go.Proofs
set_option linter.unusedSimpArgs false
set_option linter.unusedVariables false
structure dW where
 df:Int
 word:Int
 deriving Inhabited,DecidableEq
def dW.cells (p:dW):List AV:=[i64 p.df,i64 p.word]
abbrev dW.av (p:dW):AV:= .agg p.cells
structure MS where
 at_:List Int
 cA:List (List Int)
 mem:List Int
 hold:List Int
 cP:List dW
 deriving Inhabited,DecidableEq
abbrev cM (l:List Int):AV:= .im 1 .any (l.map i64)
abbrev HM (l:List (List Int)):AV:= .im 1 .any (l.map cM)
abbrev fu (l:List dW):AV:= .im 2 .any (l.map dW.av)
def MS.cells (u:bx) (m:MS):List AV:=[ct u.shared,ct u.cE,di u.bz,cM m.at_,HM m.cA,cM m.mem,cM m.hold,fu m.cP]
abbrev MS.fz (u:bx) (m:MS):AV:= .ip 8 .any [.agg (m.cells u)] 0 0
@[simp] theorem XL (n:Nat) (p:dW):cX n p.cells:=by simp[dW.cells,cX,cI]
@[simp] theorem Z7 (n:Nat) (u:bx) (m:MS):cX n (m.cells u):=by simp[MS.cells,cX,cI,cB]
theorem nr (n:Nat) (u:bx) (m:MS):cI n (m.fz u):=by simp[cI,cX]
structure eN (u:bx) (m:MS):Prop where
 pk:m.at_.length=u.bz.length
 gb:∀t,t<u.bz.length→0≤m.at_.getD t 0∧m.at_.getD t 0<(u.gr t).nodes.length
 sl:m.cA.length=u.bz.length
 D4:∀t,t<u.bz.length→(m.cA.getD t []).length=(u.gr t).cA.toNat
 D5:∀t,t<u.bz.length→∀w∈m.cA.getD t [],eQ w
 ml:m.mem.length=u.shared.length
 mw:∀w∈m.mem,eQ w
 hl:m.hold.length=u.cE.length
 hw:∀w∈m.hold,-1≤w∧w<u.bz.length
 pw:∀p∈m.cP,0≤p.df∧p.df<u.bz.length∧eQ p.word
abbrev MS.node (u:bx) (m:MS) (t:Nat):Node:=(u.gr t).nd (m.at_.getD t 0).toNat
def MS.kx (u:bx) (m:MS) (t:Int):Int:=if t<0∨(m.at_.length:Int)≤t then 2 else if(m.node u t.toNat).kind=9 then 70 else if(m.node u t.toNat).kind=5∧0≤m.hold.getD (m.node u t.toNat).cQ.toNat 0 then 71 else 0
theorem ints_at {l:List Int} {k:Nat} (h:k<l.length) (d:AV):(l.map i64).getD ((k:Int)).toNat d=i64 (l.getD k 0):=by
 rw[Int.toNat_natCast];exact dQ i64 l k d h
theorem ox {l:List Int} {k:Int} (h:k.toNat<l.length) (d:AV):(l.map i64).getD k.toNat d=i64 (l.getD k.toNat 0):=dQ i64 l k.toNat d h
theorem eN.node {u:bx} {m:MS} (hr:cT u) (h:eN u m) {t:Nat} (ht:t<u.bz.length):nY u (u.gr t) (m.node u t):=by
 have:=h.gb t ht
 exact(hr.gr ht).nodes _ (cR default (by omega))
theorem EW {u:bx} {m:MS} {t:Int} (h:t<0∨(m.at_.length:Int)≤t):m.kx u t=2:=by unfold MS.kx;rw[if_pos h]
theorem A6 (u:bx) (m:MS) (t:Int):Pure Tryz.prog 68 [m.fz u,i64 t] (fun r=>r=bl (decide (¬(t<0∨(m.at_.length:Int)≤t)))):=by
 refine aJ OM rfl ?_
 refine cV ?_
 refine fA ?_
 rw[List.length_map]
 by_cases h1:0≤t<;>by_cases h2:t<m.at_.length<;>simp[h1,h2]<;>omega
set_option maxRecDepth 8000 in
set_option maxHeartbeats 2000000 in
theorem vu (u:bx) (hr:cT u) (m:MS) (h:eN u m) (t:Int):Pure Tryz.prog 69 [m.fz u,i64 t] (fun r=>r=i64 (m.kx u t)):=by
 have c0:=A6 u m t
 have hl:=h.pk
 by_cases ht:t<0∨(m.at_.length:Int)≤t
 ·rw[EW ht]
  rw[decide_eq_false (fun e=>e ht)] at c0
  refine aJ wZ rfl ?_
  refine cV ?_
  first|exact rfl|trivial
 ·rw[decide_eq_true ht] at c0
  obtain⟨k,rfl⟩:∃k:Nat,t=k:=⟨t.toNat,by omega⟩
  have hk:k<u.bz.length:=by omega
  have hbar:m.kx u k=if(m.node u k).kind=9 then 70 else if(m.node u k).kind=5∧0≤m.hold.getD (m.node u k).cQ.toNat 0 then 71 else 0:=by
   unfold MS.kx;rw[if_neg ht,Int.toNat_natCast]
  rw[hbar]
  have hno:=h.node hr hk
  obtain⟨p0,p1⟩:=h.gb k hk
  have e0:=fun d=>s9 (l:=u.bz) hk d
  have e1:=fun d=>ints_at (l:=m.at_) (k:=k) (by omega) d
  obtain⟨j,hj⟩:∃j:Nat,m.at_.getD k 0=j:=⟨(m.at_.getD k 0).toNat,by omega⟩
  rw[hj] at e1 p1
  have hnd:m.node u k=(u.gr k).nd j:=by unfold MS.node;rw[hj,Int.toNat_natCast]
  rw[hnd] at hno ⊢
  have hgr:u.bz.getD k default=u.gr k:=rfl
  rw[hgr] at e0
  generalize u.gr k=g at *
  have e2:=fun d=>jj (l:=g.nodes) (i:=j) (by omega) d
  rw[show g.nodes.getD j default=g.nd j from rfl] at e2
  generalize g.nd j=n at *
  have a0:(u.bz.map cF.av).length=u.bz.length:=by simp
  have a1:(m.at_.map i64).length=u.bz.length:=by simp[hl]
  have a2:(g.nodes.map Node.av).length=g.nodes.length:=by simp
  have a3:(m.hold.map i64).length=u.cE.length:=by simp[h.hl]
  by_cases h9:n.kind=9
  ·have r0:=h9
   rw[if_pos h9]
   refine aJ wZ rfl ?_
   refine cV ?_
   first|exact rfl|trivial
  ·rw[if_neg h9]
   by_cases h5:n.kind=5
   ·have hth:=hno.cQ.1 (by unfold gA;exact decide_eq_true (by omega))
    rw[if_pos (.inl h5)] at hth
    have hhl:=h.hl
    have e3:=fun d=>ox (l:=m.hold) (k:=n.cQ) (by omega) d
    have r0:=h5
    by_cases hh:0≤m.hold.getD n.cQ.toNat 0
    ·rw[if_pos ⟨h5,hh⟩]
     have r1:=decide_eq_true hh
     refine aJ wZ rfl ?_
     refine cV ?_
     first|exact rfl|trivial
    ·rw[if_neg fun e=>hh e.2]
     have r1:=decide_eq_false hh
     refine aJ wZ rfl ?_
     refine cV ?_
     first|exact rfl|trivial
   ·rw[if_neg fun e=>h5 e.1]
    have r1:=decide_eq_false h5
    refine aJ wZ rfl ?_
    refine cV ?_
    first|exact rfl|trivial
theorem L9 (u:bx) (hr:cT u) (m:MS) (h:eN u m) (t:Int):Pure Tryz.prog 32 [m.fz u,i64 t] (fun r=>r=bl (decide (m.kx u t=0))):=by
 have c0:=vu u hr m h t
 refine aJ N6 rfl ?_
 refine cV ?_
 first|exact rfl|trivial
def MS.ended (u:bx) (m:MS):Bool:=(List.range m.at_.length).all fun t=>decide (m.kx u t=70)
theorem MP (u:bx) (hr:cT u) (m:MS) (h:eN u m):Pure Tryz.prog 67 [m.fz u] (fun r=>r=bl (m.ended u)):=by
 have hl:=h.pk
 have hgl:=hr.pz
 refine aJ OL rfl ?_
 refine cV ?_
 rw[List.length_map]
 refine aN (fun i:Nat=>[(0,m.fz u),(10,i64 m.at_.length),(11,i64 i)]) (fun i H n=>i≤m.at_.length∧∀j:Nat,j<i→m.kx u j=70) (fun i=>m.at_.length - i) 0 cK ⟨Nat.zero_le _,fun j hj=>by omega⟩ ?_
 rintro i H n ⟨hi,hall⟩
 by_cases hil:i<m.at_.length
 ·have c0:=vu u hr m h i
  by_cases hb:m.kx u i=70
  ·have r0:=hb
   refine cV ?_
   exact⟨i+1,by omega,cK,by omega,fun j hj=>by
    by_cases e:j=i
    ·rw[e];exact hb
    ·exact hall j (by omega)⟩
  ·have r0:=decide_eq_true hb
   refine cV ?_
   refine fA (Eq.symm ?_)
   unfold MS.ended
   rw[List.all_eq_false]
   exact⟨i,List.mem_range.2 hil,by simpa using hb⟩
 ·refine cV ?_
  refine fA (Eq.symm ?_)
  unfold MS.ended
  rw[List.all_eq_true]
  intro j hj
  exact decide_eq_true (hall j (by have:=List.mem_range.1 hj;omega))
end Go.Proofs.YtjopoheligmmoaaGreatDoor
end
section
/- Ends compared: plain data, the small functions of the code. -/
namespace Go.Proofs.YtjopoheligmmoaaGreatDoor
open Go Go.cZ Go.Proofs
set_option linter.unusedSimpArgs false
set_option linter.unusedVariables false
structure cn where
 cP:List dW
 mem:List Int
 ended:Bool
 deriving Inhabited,DecidableEq
def cn.cells (e:cn):List AV:=[fu e.cP,cM e.mem,bl e.ended]
abbrev cn.av (e:cn):AV:= .agg e.cells
@[simp] theorem ZM (n:Nat) (e:cn):cX n e.cells:=by simp[cn.cells,cX,cI,cB]
def eX (x y:Int):Int:=if x<y then -1 else if y<x then 1 else 0
def tG:List Int→Int
 |[]=>0
 |x::l=>if x=0 then tG l else x
def jO (p q:dW):Int:=tG [eX p.df q.df,eX p.word q.word]
def e8 {α:Type} (f:α→α→Int):List α→List α→Int
 |[],[]=>0
 |[],_::_=>-1
 |_::_,[]=>1
 |x::a,y::b=>if f x y=0 then e8 f a b else f x y
def wB (a b:Bool):Int:=if a=b then 0 else if b then -1 else 1
def fw (a b:cn):Int:=tG [e8 jO a.cP b.cP,e8 eX a.mem b.mem,wB a.ended b.ended]
theorem wD {α:Type} (f:α→α→Int) (d:α) {a b:List α} {i:Nat} (h1:i<a.length) (h2:i<b.length):e8 f (a.drop i) (b.drop i)=if f (a.getD i d) (b.getD i d)=0 then e8 f (a.drop (i+1)) (b.drop (i+1)) else f (a.getD i d) (b.getD i d):=by
 rw[List.drop_eq_getElem_cons h1,List.drop_eq_getElem_cons h2,e8]
 simp[List.getD,List.getElem?_eq_getElem h1,List.getElem?_eq_getElem h2]
theorem sE {α:Type} (f:α→α→Int) {a b:List α} {i:Nat} (h1:i<a.length) (h2:b.length≤i):e8 f (a.drop i) (b.drop i)=1:=by
 rw[List.drop_eq_getElem_cons h1,List.drop_of_length_le h2,e8]
theorem sC {α:Type} (f:α→α→Int) {a b:List α} {i:Nat} (h1:a.length≤i) (h2:i≤b.length):e8 f (a.drop i) (b.drop i)=if i<b.length then -1 else 0:=by
 rw[List.drop_of_length_le h1]
 split
 ·rename_i h;rw[List.drop_eq_getElem_cons h,e8]
 ·rw[List.drop_of_length_le (by omega),e8]
theorem HA (x:Int):Pure Tryz.prog 104 [i64 x] (fun r=>r=bl false):=by
 refine aJ y9 rfl ?_
 refine cV ?_
 refine fA ?_
 simp
theorem AB (x:Int):Pure Tryz.prog 194 [i64 x] (fun r=>r=bl false):=by
 refine aJ zN rfl ?_
 refine cV ?_
 refine fA ?_
 simp
theorem sA (x y:Int):Pure Tryz.prog 62 [i64 x,i64 y] (fun r=>r=i64 (eX x y)):=by
 have c0:=HA x
 have c1:=HA y
 unfold eX
 by_cases h:x<y
 ·rw[if_pos h]
  refine aJ CY rfl ?_
  refine cV ?_
  first|exact rfl|trivial
 ·rw[if_neg h]
  by_cases h2:y<x
  ·rw[if_pos h2]
   refine aJ CY rfl ?_
   refine cV ?_
   first|exact rfl|trivial
  ·rw[if_neg h2]
   refine aJ CY rfl ?_
   refine cV ?_
   first|exact rfl|trivial
theorem uV (x y:Int):Pure Tryz.prog 152 [i64 x,i64 y] (fun r=>r=i64 (eX x y)):=by
 have c0:=AB x
 have c1:=AB y
 unfold eX
 by_cases h:x<y
 ·rw[if_pos h]
  refine aJ sn rfl ?_
  refine cV ?_
  first|exact rfl|trivial
 ·rw[if_neg h]
  by_cases h2:y<x
  ·rw[if_pos h2]
   refine aJ sn rfl ?_
   refine cV ?_
   first|exact rfl|trivial
  ·rw[if_neg h2]
   refine aJ sn rfl ?_
   refine cV ?_
   first|exact rfl|trivial
theorem PE {l:List Int} {i:Nat} (h:i<l.length):tG (l.drop i)=if l.getD i 0=0 then tG (l.drop (i+1)) else l.getD i 0:=by
 rw[List.drop_eq_getElem_cons h,tG]
 simp[List.getD,List.getElem?_eq_getElem h]
theorem wc (l:List Int) (hl:l.length≤1000):Pure Tryz.prog 61 [cM l] (fun r=>r=i64 (tG l)):=by
 refine aJ OJ rfl ?_
 refine cV ?_
 rw[List.length_map]
 refine aN (fun i:Nat=>[(3,i64 0),(6,cM l),(7,i64 l.length),(8,i64 i)]) (fun i H n=>i≤l.length∧tG l=tG (l.drop i)) (fun i=>l.length - i) 0 cK ⟨Nat.zero_le _,rfl⟩ ?_
 rintro i H n ⟨hi,ho⟩
 rw[ho]
 by_cases hil:i<l.length
 ·have e0:=fun d=>ints_at (l:=l) hil d
  have a0:(l.map i64).length=l.length:=by simp
  have hd:=PE hil
  by_cases hz:l.getD i 0=0
  ·have r0:=hz
   rw[if_pos hz] at hd
   refine cV ?_
   exact⟨i+1,by omega,cK,by omega,hd⟩
  ·have r0:=decide_eq_true hz
   rw[if_neg hz] at hd
   refine cV ?_
   rw[hd]
 ·rw[List.drop_of_length_le (by omega)]
  refine cV ?_
  first|exact rfl|trivial
end Go.Proofs.YtjopoheligmmoaaGreatDoor
end
section
/- Copies of lists; what a machine shows. -/
namespace Go.Proofs.YtjopoheligmmoaaGreatDoor
open Go Go.cZ Go.Proofs
set_option linter.unusedSimpArgs false
set_option linter.unusedVariables false
theorem tU {p:Prop} (h:Go p):p:=h
theorem IC {es:List AV} (hf:cX 0 es) (hl:es.length * 16≤140737488355328):cG Tryz.prog 184 [.im 2 .any es] [] 0 (fun r H _=>cZ.dV H 6 r= .sc (.slice none 0 0)∧es=[]∨cZ.dV H 6 r= .im 2 .any es):=by
 refine aM zL rfl ?_
 cases es with
 |nil=>
  refine cV ?_
  refine⟨tU ?_,tU ?_⟩
  ·refine cV ?_
   exact⟨.inl ⟨rfl,rfl⟩⟩
  ·refine cV ?_
   exact⟨.inr rfl⟩
 |cons x t=>
  have a0:(x::t).length * 16≤iZ:=hl
  simp only[List.length_cons] at hl
  refine cV ?_
  refine⟨.inr ((dc (e:=155) (sz:=2) (es:=x::t) bw (Nat.zero_add _).symm).trans ?_)⟩
  rw[cy _ hf]
theorem ID {es:List AV} (hf:cX 0 es) (hl:es.length * 8≤140737488355328):cG Tryz.prog 185 [.im 1 .any es] [] 0 (fun r H _=>cZ.dV H 6 r= .sc (.slice none 0 0)∧es=[]∨cZ.dV H 6 r= .im 1 .any es):=by
 refine aM zM rfl ?_
 cases es with
 |nil=>
  refine cV ?_
  refine⟨tU ?_,tU ?_⟩
  ·refine cV ?_
   exact⟨.inl ⟨rfl,rfl⟩⟩
  ·refine cV ?_
   exact⟨.inr rfl⟩
 |cons x t=>
  have a0:(x::t).length * 8≤iZ:=hl
  simp only[List.length_cons] at hl
  refine cV ?_
  refine⟨.inr ((dc (e:=2) (sz:=1) (es:=x::t) bw (Nat.zero_add _).symm).trans ?_)⟩
  rw[cy _ hf]
theorem xh (l:List dW) (hl:l.length * 16≤140737488355328):Pure Tryz.prog 184 [fu l] (fun r=>r=fu l):=
 nF (by simp[cI,cB]) (IC ((cB _ _).2 fun _ _=>by simp[cI]) (by rw[List.length_map];exact hl))
theorem xi (l:List Int) (hl:l.length * 8≤140737488355328):Pure Tryz.prog 185 [cM l] (fun r=>r=cM l):=
 nF (by simp[cI,cB]) (ID ((cB _ _).2 fun _ _=>by simp[cI]) (by rw[List.length_map];exact hl))
theorem KG (u:bx) (m:MS) (hl:m.cP.length * 16≤140737488355328):Pure Tryz.prog 147 [m.fz u] (fun r=>r=fu m.cP):=by
 have c0:=xh m.cP hl
 refine aJ yu rfl ?_
 refine cV ?_
 first|exact rfl|trivial
theorem J3 (u:bx) (m:MS) (hl:m.mem.length * 8≤140737488355328):Pure Tryz.prog 148 [m.fz u] (fun r=>r=cM m.mem):=by
 have c0:=xi m.mem hl
 refine aJ yw rfl ?_
 refine cV ?_
 first|exact rfl|trivial
end Go.Proofs.YtjopoheligmmoaaGreatDoor
end
section
/- Whether a situation is an end. -/
namespace Go.Proofs.YtjopoheligmmoaaGreatDoor
open Go Go.cZ Go.Proofs
set_option linter.unusedSimpArgs false
set_option linter.unusedVariables false
def MS.stuck (u:bx) (m:MS):Bool:=(List.range m.at_.length).all fun t=>decide (m.kx u t≠0)
def MS.end_ (u:bx) (m:MS):cn:=⟨m.cP,m.mem,m.ended u⟩
def lR (u:bx) (m:MS):AV:=if m.stuck u then .dK [(m.end_ u).av,bl true] else .dK [.agg [.sc (.slice none 0 0), .sc (.slice none 0 0),bl false],bl false]
theorem vJ (u:bx) (hr:cT u) (m:MS) (h:eN u m) (hp:m.cP.length * 16≤140737488355328) (hm:m.mem.length * 8≤140737488355328):Pure Tryz.prog 94 [u.av,m.fz u] (fun r=>r=lR u m):=by
 have hl:=h.pk
 have hgl:=hr.pz
 have c1:=KG u m hp
 have c2:=J3 u m hm
 have c3:=MP u hr m h
 refine aJ OV rfl ?_
 refine cV ?_
 rw[List.length_map,←hl]
 refine aN (fun i:Nat=>[(1,m.fz u),(4, .pt 1 1 0 0),(9,i64 m.at_.length),(10,i64 i)]) (fun i H n=>i≤m.at_.length∧2≤n∧bu H 1=some (.row 105 3 (gM true [.slice none 0 0, .slice none 0 0, .bool false]) [gM true [.slice none 0 0, .slice none 0 0, .bool false]])∧∀j:Nat,j<i→m.kx u j≠0) (fun i=>m.at_.length - i) 0 cK ⟨Nat.zero_le _,ca,bw,fun j hj=>by omega⟩ ?_
 rintro i H n ⟨hi,hn,hx,hall⟩
 by_cases hil:i<m.at_.length
 ·have c0:=L9 u hr m h i
  by_cases hb:m.kx u i=0
  ·have hs:m.stuck u=false:=by
    unfold MS.stuck
    rw[List.all_eq_false]
    exact⟨i,List.mem_range.2 hil,by simpa using hb⟩
   have r0:=decide_eq_true hb
   rw[lR,hs]
   refine cV ?_
   first|exact rfl|trivial
  ·have r0:=decide_eq_false hb
   refine cV ?_
   exact⟨i+1,by omega,cK,by omega,by omega,bw,fun j hj=>by
    by_cases e:j=i
    ·rw[e];exact hb
    ·exact hall j (by omega)⟩
 ·have hs:m.stuck u=true:=by
   unfold MS.stuck
   rw[List.all_eq_true]
   intro j hj
   exact decide_eq_true (hall j (by have:=List.mem_range.1 hj;omega))
  rw[lR,hs]
  refine cV ?_
  first|exact rfl|trivial
end Go.Proofs.YtjopoheligmmoaaGreatDoor
end
section
/- The machine in rows: Copy. -/
namespace Go.Proofs.YtjopoheligmmoaaGreatDoor
open Go Go.cZ Go.Proofs
set_option linter.unusedSimpArgs false
set_option linter.unusedVariables false
def eT (ids:List Nat) (l:List (List Int)):List AV:=(ids.zip l).map fun p=> .sl p.1 p.2.length
def MS.rows (u:bx) (m:MS) (a s me ho pr:Nat):AV:= .agg [ct u.shared,ct u.cE,di u.bz, .sl a m.at_.length, .sl s m.cA.length, .sl me m.mem.length, .sl ho m.hold.length, .sl pr m.cP.length]
structure XF (u:bx) (m:MS) (mr a s me ho pr:Nat) (ids:List Nat) (H:Hp):Prop where
 rM:∃d,bu H mr=some (.row 114 8 d [m.rows u a s me ho pr])
 rA:∃d,bu H a=some (.row 3 1 d (m.at_.map i64))
 rS:∃d,bu H s=some (.row 93 1 d (eT ids m.cA))
 rL:∀t,t<m.cA.length→∃d,bu H (ids.getD t 0)=some (.row 2 1 d ((m.cA.getD t []).map i64))
 rE:∃d,bu H me=some (.row 2 1 d (m.mem.map i64))
 rH:∃d,bu H ho=some (.row 3 1 d (m.hold.map i64))
 rP:∃d,bu H pr=some (.row 155 2 d (m.cP.map dW.av))
 len:ids.length=m.cA.length
 nodup:(mr::a::s::me::ho::pr::ids).Nodup
theorem vP {ids:List Nat} {l:List (List Int)} (h:ids.length=l.length) (i:Nat) (x:List Int):eT (ids++[i]) (l++[x])=eT ids l++[.sl i x.length]:=by
 unfold eT
 rw[List.zip_append h]
 simp
theorem copied (es:List AV) (z:AV):List.take (es.length.min (es.length:Int).toNat) es++List.drop (es.length.min (es.length:Int).toNat) (List.replicate (es.length:Int).toNat z)=es:=by
 rw[Int.toNat_natCast,show es.length.min es.length=es.length from Nat.min_self _]
 simp
set_option maxHeartbeats 4000000 in
theorem B0 (u:bx) (m:MS) (h1:m.at_.length≤4096) (h2:m.mem.length≤4096) (h3:m.hold.length≤4096) (h4:m.cP.length≤1048576) (h5:m.cA.length≤4096) (h6:∀l∈m.cA,l.length≤1048576) (H0:Hp) (nx:Nat):cG Tryz.prog 146 [m.fz u] H0 nx (fun r H n=>∃mr a s me ho pr ids,r= .pt mr 1 0 0∧XF u m mr a s me ho pr ids H∧(∀x∈mr::a::s::me::ho::pr::ids,nx≤x∧x<n)∧nx≤n∧∀y,y<nx→bu H y=bu H0 y):=by
 refine aM yr rfl ?_
 refine cV ?_
 simp only[copied]
 simp only[List.length_map,Int.toNat_natCast]
 refine aV (fun σ:Nat×List Nat=>[(0,m.fz u),(3, .pt (nx+32) 1 0 0),(78,HM m.cA),(79,i64 m.cA.length),(80,i64 σ.1)])
  (fun σ H n=>σ.1≤m.cA.length∧nx+77≤n∧σ.2.length=σ.1∧σ.2.Nodup∧(∀x∈σ.2,nx+77≤x∧x<n)∧(∃d,bu H (nx+32)=some (.row 114 8 d [.agg [ct u.shared,ct u.cE,di u.bz, .sl (nx+12) m.at_.length, .sl (nx+76) σ.1, .sl (nx+18) m.mem.length, .sl (nx+24) m.hold.length, .sl (nx+30) m.cP.length]]))∧(∃d,bu H (nx+12)=some (.row 3 1 d (m.at_.map i64)))∧(∃d,bu H (nx+18)=some (.row 2 1 d (m.mem.map i64)))∧(∃d,bu H (nx+24)=some (.row 3 1 d (m.hold.map i64)))∧(∃d,bu H (nx+30)=some (.row 155 2 d (m.cP.map dW.av)))∧(∃d,bu H (nx+76)=some (.row 93 1 d (eT σ.2 (m.cA.take σ.1))))∧(∀t,t<σ.1→∃d,bu H (σ.2.getD t 0)=some (.row 2 1 d ((m.cA.getD t []).map i64)))∧∀y,y<nx→bu H y=bu H0 y) (fun σ=>m.cA.length - σ.1) (0,[])
  ⟨_,_,_,Rt.wk (Wk.pH (b:=nx+32) (e:=93) (sz:=1) (by simp only[List.length_cons,List.length_nil];omega) (by omega) (te:=114) (tz:=8) (cs:=[ct u.shared,ct u.cE,di u.bz, .sl (nx+12) m.at_.length, .sc (.slice none 0 0), .sl (nx+18) m.mem.length, .sl (nx+24) m.hold.length, .sl (nx+30) m.cP.length]) (j:=4) bw (by show 4<8;omega) rfl),cK,Nat.zero_le _,ca,rfl,List.nodup_nil,fun x hx=>by simp at hx,⟨_,bw⟩,⟨_,bw⟩,⟨_,bw⟩,⟨_,bw⟩,⟨_,bw⟩,⟨_,bw⟩,fun t ht=>absurd ht (Nat.not_lt_zero _),fun y hy=>cD⟩ ?_
 rintro⟨t,ids⟩ H n ⟨ht,hn,hil,hnd,hin,⟨d0,r0⟩,⟨d1,r1⟩,⟨d2,r2⟩,⟨d3,r3⟩,⟨d4,r4⟩,⟨d5,r5⟩,hls,hkp⟩
 dsimp only at ht hil hnd hin r0 r5 hls ⊢
 have htk:(m.cA.take t).length=t:=by rw[List.length_take];omega
 have hrl:(eT ids (m.cA.take t)).length=t:=by unfold eT;rw[List.length_map,List.length_zip,htk,hil];omega
 by_cases htl:t<m.cA.length
 ·have e0:∀d,(m.cA.map cM).getD ((t:Int)).toNat d=cM (m.cA.getD t []):=fun d=>by rw[Int.toNat_natCast];exact dQ cM m.cA t d htl
  have a0:(m.cA.map cM).length=m.cA.length:=by simp
  have hnx:eT (ids++[n+6]) (m.cA.take (t+1))=eT ids (m.cA.take t)++[.sl (n+6) (m.cA.getD t []).length]:=by
   rw[List.take_succ_eq_append_getElem htl,vP (by rw[hil,htk]),show m.cA.getD t []=m.cA[t] by simp[List.getD,htl]]
  have h7:=h6 _ (cR (l:=m.cA) [] htl)
  refine cV ?_
  simp only[copied]
  simp only[List.length_map,Int.toNat_natCast]
  refine⟨(t+1,ids++[n+6]),by dsimp only;omega,_,_,_,Rt.refl _ _ _,cK,by dsimp only;omega,by omega,by simp[hil], ?_, ?_,⟨_,bw⟩,⟨_,bw⟩,⟨_,bw⟩,⟨_,bw⟩,⟨_,bw⟩,⟨_,by dsimp only;rw[hnx];exact bw⟩, ?_,fun y hy=>Eq.trans cD (hkp y hy)⟩
  ·refine List.nodup_append.2 ⟨hnd,by simp,fun a ha b hb=> ?_⟩
   simp only[List.mem_cons,List.not_mem_nil,or_false] at hb
   have:=hin _ ha;omega
  ·intro x hx
   rcases List.mem_append.1 hx with hx|hx
   ·have:=hin _ hx;exact⟨this.1,Nat.lt_of_lt_of_le this.2 ca⟩
   ·simp only[List.mem_cons,List.not_mem_nil,or_false] at hx
    subst hx;exact⟨by omega,ca⟩
  ·intro q hq
   have hq:q<t+1:=hq
   by_cases e:q=t
   ·subst e
    have e2:(ids++[n+6]).getD q 0=n+6:=by rw[List.getD,List.getElem?_append_right (by omega),hil,Nat.sub_self];rfl
    dsimp only
    rw[e2];exact⟨_,bw⟩
   ·obtain⟨d,hd⟩:=hls q (by omega)
    have e2:(ids++[n+6]).getD q 0=ids.getD q 0:=by simp[List.getD,List.getElem?_append,show q<ids.length by omega]
    have:=hin _ (fJ (l:=ids) (q:=q) (by omega))
    dsimp only
    rw[e2];exact⟨d,Eq.trans cD hd⟩
 ·have:t=m.cA.length:=by omega
  subst this
  rw[List.take_length] at r5
  refine cV ?_
  refine⟨⟨nx+32,nx+12,nx+76,nx+18,nx+24,nx+30,ids,rfl,⟨⟨_,bw⟩,⟨_,bw⟩,⟨_,bw⟩,fun t ht=> ?_,⟨_,bw⟩,⟨_,bw⟩,⟨_,bw⟩,hil, ?_⟩, ?_,ca,fun y hy=>Eq.trans cD (hkp y hy)⟩⟩
  ·obtain⟨d,hd⟩:=hls t ht
   have:=hin _ (fJ (l:=ids) (q:=t) (by omega))
   exact⟨d,Eq.trans cD hd⟩
  ·have hno:∀k,k<nx+77→k∉ids:=fun k hk h=>by have:=hin _ h;omega
   simp only[List.nodup_cons,List.mem_cons,not_or]
   exact⟨⟨by omega,by omega,by omega,by omega,by omega,hno _ (by omega)⟩,⟨by omega,by omega,by omega,by omega,hno _ (by omega)⟩,⟨by omega,by omega,by omega,hno _ (by omega)⟩,⟨by omega,by omega,hno _ (by omega)⟩,⟨by omega,hno _ (by omega)⟩,hno _ (by omega),hnd⟩
  ·intro x hx
   simp only[List.mem_cons] at hx
   rcases hx with rfl|rfl|rfl|rfl|rfl|rfl|hx
   all_goals first
    |exact⟨by omega,by omega⟩
    |(have:=hin _ hx;exact⟨by omega,by omega⟩)
end Go.Proofs.YtjopoheligmmoaaGreatDoor
end
section
/- The machine in rows, frozen. -/
namespace Go.Proofs.YtjopoheligmmoaaGreatDoor
open Go Go.cZ Go.Proofs
set_option linter.unusedSimpArgs false
set_option linter.unusedVariables false
theorem wM {H:Hp} {k:Nat} {cs:List AV}:cZ.dV H (k+1) (.agg cs)= .agg (cs.map (cZ.dV H k)):=by simp only[dV]
theorem XF.dV {u:bx} {m:MS} {mr a s me ho pr:Nat} {ids:List Nat} {H:Hp} (h:XF u m mr a s me ho pr ids H) (k:Nat):cZ.dV H (k+5) (.pt mr 1 0 0)=m.fz u:=by
 obtain⟨d1,h1⟩:=h.rM
 obtain⟨d2,h2⟩:=h.rA
 obtain⟨d3,h3⟩:=h.rS
 obtain⟨d4,h4⟩:=h.rE
 obtain⟨d5,h5⟩:=h.rH
 obtain⟨d6,h6⟩:=h.rP
 have hsl:(eT ids m.cA).length=m.cA.length:=by unfold eT;rw[List.length_map,List.length_zip,h.len];simp
 have hs:(eT ids m.cA).map (cZ.dV H (k+2))=m.cA.map cM:=by
  apply List.ext_getElem (by simp[hsl])
  intro t q1 q2
  have ht:t<m.cA.length:=by simpa using q2
  have hti:t<ids.length:=by rw[h.len];exact ht
  obtain⟨d,hd⟩:=h.rL t ht
  rw[show ids.getD t 0=ids[t] by simp[List.getD,hti],show m.cA.getD t []=m.cA[t] by simp[List.getD,ht]] at hd
  rw[List.getElem_map,List.getElem_map]
  simp only[eT,List.getElem_map,List.getElem_zip]
  rw[dc hd (by simp),cy _ ((cB _ _).2 fun _ _=>by simp[cI])]
 simp only[cZ.dV,h1]
 simp only[List.length_cons,List.length_nil,if_true,List.map_cons,List.map_nil,MS.rows]
 rw[wM]
 simp only[List.map_cons,List.map_nil]
 rw[dc h2 (by simp),dc h3 hsl,dc h4 (by simp),dc h5 (by simp),dc h6 (by simp),hs]
 rw[cy _ ((cB _ _).2 fun _ _=>by simp[cI]),cy _ ((cB _ _).2 fun _ _=>by simp[cI]),cy _ ((cB _ _).2 fun _ _=>by simp[cI]),cy _ ((cB _ _).2 fun _ _=>by simp[cI])]
 rw[du _ (show cI 0 (ct u.shared) by simp[cI,cB]),du _ (show cI 0 (ct u.cE) by simp[cI,cB]),du _ (show cI 0 (di u.bz) by simp[cI,cB])]
 rfl
end Go.Proofs.YtjopoheligmmoaaGreatDoor
end
section
/- The machine that has done nothing. -/
namespace Go.Proofs.YtjopoheligmmoaaGreatDoor
open Go Go.cZ Go.Proofs
set_option linter.unusedSimpArgs false
set_option linter.unusedVariables false
def dY (u:bx):MS:=⟨u.bz.map fun _=>0,u.bz.map fun g=>List.replicate g.cA.toNat 0,u.shared.map Decl.word,u.cE.map fun _=>-1,[]⟩
theorem HB (u:bx) (hr:cT u) (hw:∀d∈u.shared,eQ d.word) (hn:∀t,t<u.bz.length→0<(u.gr t).nodes.length):eN u (dY u) where
 pk:=by simp[dY]
 gb:=fun t ht=>by
  have e:(dY u).at_.getD t 0=0:=by simp[dY,List.getD,ht]
  rw[e]
  exact⟨Int.le_refl _,by have:=hn t ht;omega⟩
 sl:=by simp[dY]
 D4:=fun t ht=>by
  have e:(dY u).cA.getD t []=List.replicate (u.gr t).cA.toNat 0:=by simp[dY,List.getD,bx.gr,ht]
  rw[e,List.length_replicate]
 D5:=fun t ht w hw=>by
  have e:(dY u).cA.getD t []=List.replicate (u.gr t).cA.toNat 0:=by simp[dY,List.getD,bx.gr,ht]
  rw[e] at hw
  rw[List.eq_of_mem_replicate hw]
  exact⟨by omega,by omega⟩
 ml:=by simp[dY]
 mw:=fun w h=>by
  obtain⟨d,hd,rfl⟩:=List.mem_map.1 h
  exact hw d hd
 hl:=by simp[dY]
 hw:=fun w h=>by
  obtain⟨d,hd,rfl⟩:=List.mem_map.1 h
  exact⟨by omega,by omega⟩
 pw:=fun p h=>by simp[dY] at h
end Go.Proofs.YtjopoheligmmoaaGreatDoor
end
section
/- Operators. -/
namespace Go.Proofs.YtjopoheligmmoaaGreatDoor
open Go Go.cZ Go.Proofs
set_option linter.unusedSimpArgs false
set_option linter.unusedVariables false
set_option maxHeartbeats 1000000
abbrev xG (n:Int):Int:=IntKind.i64.wrap n
def KI (a b:Int):Int:=if b=0 then 0 else if b=-1 then xG (0 - a) else xG (a.tdiv b)
def PK (a b:Int):Int:=if b=0 then a else xG (a - xG (KI a b * b))
def X2 (a b:Int):Int:=xG ((BitVec.ofInt 64 a&&& BitVec.ofInt 64 b).toNat:Int)
def orW (a b:Int):Int:=xG ((BitVec.ofInt 64 a|||BitVec.ofInt 64 b).toNat:Int)
def ZG (a b:Int):Int:=xG ((BitVec.ofInt 64 a^^^BitVec.ofInt 64 b).toNat:Int)
def MD (b:Int):Int:=IntKind.u64.wrap ((BitVec.ofInt 64 (IntKind.u64.wrap b)&&& BitVec.ofInt 64 63).toNat:Int)
def Y3 (a b:Int):Int:=xG (a * 2^(min (MD b).toNat 64))
def TS (a b:Int):Int:=a.fdiv (2^(min (MD b).toNat 64))
def tr (t:Bool):Int:=if t=true then 1 else 0
theorem cr (t:Bool):Pure Tryz.prog 226 [bl t] (fun r=>r=i64 (tr t)):=by
 refine aJ zk rfl ?_
 repeat' (first|((with_reducible refine aI ?_);conv=>whnf)|refine aG ?_|exact aC|with_reducible refine aD ?_ ?_|(apply aB;(·exact cS))|refine aH ?_|((with_reducible refine aA ?_ ?_)<;>intro hc<;>(try simp only[List.length_map,ne_eq,db] at hc)<;>try(exfalso;omega)))
 all_goals simp_all[tr]
theorem oT (a b:Int):Pure Tryz.prog 206 [i64 a,i64 b] (fun r=>r=i64 (xG (a+b))):=by
 refine aJ zR rfl ?_
 repeat' (first|((with_reducible refine aI ?_);conv=>whnf)|refine aG ?_|exact aC|with_reducible refine aD ?_ ?_|(apply aB;(·exact cS))|refine aH ?_|((with_reducible refine aA ?_ ?_)<;>intro hc<;>(try simp only[List.length_map,ne_eq,db] at hc)<;>try(exfalso;omega)))
 all_goals exact rfl
theorem pY (a b:Int):Pure Tryz.prog 207 [i64 a,i64 b] (fun r=>r=i64 (xG (a - b))):=by
 refine aJ zV rfl ?_
 repeat' (first|((with_reducible refine aI ?_);conv=>whnf)|refine aG ?_|exact aC|with_reducible refine aD ?_ ?_|(apply aB;(·exact cS))|refine aH ?_|((with_reducible refine aA ?_ ?_)<;>intro hc<;>(try simp only[List.length_map,ne_eq,db] at hc)<;>try(exfalso;omega)))
 all_goals exact rfl
theorem pE (a b:Int):Pure Tryz.prog 208 [i64 a,i64 b] (fun r=>r=i64 (xG (a * b))):=by
 refine aJ zW rfl ?_
 repeat' (first|((with_reducible refine aI ?_);conv=>whnf)|refine aG ?_|exact aC|with_reducible refine aD ?_ ?_|(apply aB;(·exact cS))|refine aH ?_|((with_reducible refine aA ?_ ?_)<;>intro hc<;>(try simp only[List.length_map,ne_eq,db] at hc)<;>try(exfalso;omega)))
 all_goals exact rfl
theorem iO (a b:Int):Pure Tryz.prog 209 [i64 a,i64 b] (fun r=>r=i64 (KI a b)):=by
 refine aJ zX rfl ?_
 repeat' (first|((with_reducible refine aI ?_);conv=>whnf)|refine aG ?_|exact aC|with_reducible refine aD ?_ ?_|(apply aB;(·exact cS))|refine aH ?_|((with_reducible refine aA ?_ ?_)<;>intro hc<;>(try simp only[List.length_map,ne_eq,db] at hc)<;>try(exfalso;omega)))
 all_goals simp_all[KI]
theorem pQ (a b:Int):Pure Tryz.prog 210 [i64 a,i64 b] (fun r=>r=i64 (PK a b)):=by
 refine aJ zY rfl ?_
 repeat' (first|((with_reducible refine aI ?_);conv=>whnf)|refine aG ?_|exact aC|with_reducible refine aD ?_ ?_|(apply aB;(·exact cS))|((with_reducible refine aR (iO _ _) ?_ ?_);(·exact cH))|((with_reducible refine aQ (fun _=>iO _ _) ?_ ?_);(·exact cH))|((with_reducible refine aO (iO _ _) ?_ ?_);(·exact cH))|((with_reducible refine aP (fun _=>iO _ _) ?_ ?_);(·exact cH))|refine aH ?_|((with_reducible refine aA ?_ ?_)<;>intro hc<;>(try simp only[List.length_map,ne_eq,db] at hc)<;>try(exfalso;omega)))
 all_goals simp_all[PK]
theorem oW (a b:Int):Pure Tryz.prog 211 [i64 a,i64 b] (fun r=>r=i64 (X2 a b)):=by
 refine aJ zZ rfl ?_
 repeat' (first|((with_reducible refine aI ?_);conv=>whnf)|refine aG ?_|exact aC|with_reducible refine aD ?_ ?_|(apply aB;(·exact cS))|refine aH ?_|((with_reducible refine aA ?_ ?_)<;>intro hc<;>(try simp only[List.length_map,ne_eq,db] at hc)<;>try(exfalso;omega)))
 all_goals exact rfl
theorem pL (a b:Int):Pure Tryz.prog 212 [i64 a,i64 b] (fun r=>r=i64 (orW a b)):=by
 refine aJ z6 rfl ?_
 repeat' (first|((with_reducible refine aI ?_);conv=>whnf)|refine aG ?_|exact aC|with_reducible refine aD ?_ ?_|(apply aB;(·exact cS))|refine aH ?_|((with_reducible refine aA ?_ ?_)<;>intro hc<;>(try simp only[List.length_map,ne_eq,db] at hc)<;>try(exfalso;omega)))
 all_goals exact rfl
theorem p9 (a b:Int):Pure Tryz.prog 213 [i64 a,i64 b] (fun r=>r=i64 (ZG a b)):=by
 refine aJ z7 rfl ?_
 repeat' (first|((with_reducible refine aI ?_);conv=>whnf)|refine aG ?_|exact aC|with_reducible refine aD ?_ ?_|(apply aB;(·exact cS))|refine aH ?_|((with_reducible refine aA ?_ ?_)<;>intro hc<;>(try simp only[List.length_map,ne_eq,db] at hc)<;>try(exfalso;omega)))
 all_goals exact rfl
theorem pU (a b:Int):Pure Tryz.prog 214 [i64 a,i64 b] (fun r=>r=i64 (Y3 a b)):=by
 refine aJ z8 rfl ?_
 repeat' (first|((with_reducible refine aI ?_);conv=>whnf)|refine aG ?_|exact aC|with_reducible refine aD ?_ ?_|(apply aB;(·exact cS))|refine aH ?_|((with_reducible refine aA ?_ ?_)<;>intro hc<;>(try simp only[List.length_map,ne_eq,db] at hc)<;>try(exfalso;omega)))
 all_goals exact rfl
theorem pV (a b:Int):Pure Tryz.prog 215 [i64 a,i64 b] (fun r=>r=i64 (TS a b)):=by
 refine aJ za rfl ?_
 repeat' (first|((with_reducible refine aI ?_);conv=>whnf)|refine aG ?_|exact aC|with_reducible refine aD ?_ ?_|(apply aB;(·exact cS))|refine aH ?_|((with_reducible refine aA ?_ ?_)<;>intro hc<;>(try simp only[List.length_map,ne_eq,db] at hc)<;>try(exfalso;omega)))
 all_goals exact rfl
theorem rN (a b:Int):Pure Tryz.prog 216 [i64 a,i64 b] (fun r=>r=i64 (tr (decide (a=b)))):=by
 refine aJ zb rfl ?_
 repeat' (first|((with_reducible refine aI ?_);conv=>whnf)|refine aG ?_|exact aC|with_reducible refine aD ?_ ?_|(apply aB;(·exact cS))|((with_reducible refine aR (cr _) ?_ ?_);(·exact cH))|((with_reducible refine aQ (fun _=>cr _) ?_ ?_);(·exact cH))|((with_reducible refine aO (cr _) ?_ ?_);(·exact cH))|((with_reducible refine aP (fun _=>cr _) ?_ ?_);(·exact cH))|refine aH ?_|((with_reducible refine aA ?_ ?_)<;>intro hc<;>(try simp only[List.length_map,ne_eq,db] at hc)<;>try(exfalso;omega)))
 all_goals exact rfl
theorem lM (a b:Int):Pure Tryz.prog 217 [i64 a,i64 b] (fun r=>r=i64 (tr (decide (a≠b)))):=by
 refine aJ zd rfl ?_
 repeat' (first|((with_reducible refine aI ?_);conv=>whnf)|refine aG ?_|exact aC|with_reducible refine aD ?_ ?_|(apply aB;(·exact cS))|((with_reducible refine aR (cr _) ?_ ?_);(·exact cH))|((with_reducible refine aQ (fun _=>cr _) ?_ ?_);(·exact cH))|((with_reducible refine aO (cr _) ?_ ?_);(·exact cH))|((with_reducible refine aP (fun _=>cr _) ?_ ?_);(·exact cH))|refine aH ?_|((with_reducible refine aA ?_ ?_)<;>intro hc<;>(try simp only[List.length_map,ne_eq,db] at hc)<;>try(exfalso;omega)))
 all_goals exact rfl
theorem nA (a b:Int):Pure Tryz.prog 218 [i64 a,i64 b] (fun r=>r=i64 (tr (decide (a<b)))):=by
 refine aJ ze rfl ?_
 repeat' (first|((with_reducible refine aI ?_);conv=>whnf)|refine aG ?_|exact aC|with_reducible refine aD ?_ ?_|(apply aB;(·exact cS))|((with_reducible refine aR (cr _) ?_ ?_);(·exact cH))|((with_reducible refine aQ (fun _=>cr _) ?_ ?_);(·exact cH))|((with_reducible refine aO (cr _) ?_ ?_);(·exact cH))|((with_reducible refine aP (fun _=>cr _) ?_ ?_);(·exact cH))|refine aH ?_|((with_reducible refine aA ?_ ?_)<;>intro hc<;>(try simp only[List.length_map,ne_eq,db] at hc)<;>try(exfalso;omega)))
 all_goals exact rfl
theorem nD (a b:Int):Pure Tryz.prog 219 [i64 a,i64 b] (fun r=>r=i64 (tr (decide (a≤b)))):=by
 refine aJ zf rfl ?_
 repeat' (first|((with_reducible refine aI ?_);conv=>whnf)|refine aG ?_|exact aC|with_reducible refine aD ?_ ?_|(apply aB;(·exact cS))|((with_reducible refine aR (cr _) ?_ ?_);(·exact cH))|((with_reducible refine aQ (fun _=>cr _) ?_ ?_);(·exact cH))|((with_reducible refine aO (cr _) ?_ ?_);(·exact cH))|((with_reducible refine aP (fun _=>cr _) ?_ ?_);(·exact cH))|refine aH ?_|((with_reducible refine aA ?_ ?_)<;>intro hc<;>(try simp only[List.length_map,ne_eq,db] at hc)<;>try(exfalso;omega)))
 all_goals exact rfl
theorem lA (a b:Int):Pure Tryz.prog 220 [i64 a,i64 b] (fun r=>r=i64 (tr (decide (b<a)))):=by
 refine aJ zg rfl ?_
 repeat' (first|((with_reducible refine aI ?_);conv=>whnf)|refine aG ?_|exact aC|with_reducible refine aD ?_ ?_|(apply aB;(·exact cS))|((with_reducible refine aR (cr _) ?_ ?_);(·exact cH))|((with_reducible refine aQ (fun _=>cr _) ?_ ?_);(·exact cH))|((with_reducible refine aO (cr _) ?_ ?_);(·exact cH))|((with_reducible refine aP (fun _=>cr _) ?_ ?_);(·exact cH))|refine aH ?_|((with_reducible refine aA ?_ ?_)<;>intro hc<;>(try simp only[List.length_map,ne_eq,db] at hc)<;>try(exfalso;omega)))
 all_goals exact rfl
theorem lO (a b:Int):Pure Tryz.prog 221 [i64 a,i64 b] (fun r=>r=i64 (tr (decide (b≤a)))):=by
 refine aJ zh rfl ?_
 repeat' (first|((with_reducible refine aI ?_);conv=>whnf)|refine aG ?_|exact aC|with_reducible refine aD ?_ ?_|(apply aB;(·exact cS))|((with_reducible refine aR (cr _) ?_ ?_);(·exact cH))|((with_reducible refine aQ (fun _=>cr _) ?_ ?_);(·exact cH))|((with_reducible refine aO (cr _) ?_ ?_);(·exact cH))|((with_reducible refine aP (fun _=>cr _) ?_ ?_);(·exact cH))|refine aH ?_|((with_reducible refine aA ?_ ?_)<;>intro hc<;>(try simp only[List.length_map,ne_eq,db] at hc)<;>try(exfalso;omega)))
 all_goals exact rfl
theorem lQ (a:Int):Pure Tryz.prog 222 [i64 a] (fun r=>r=i64 (xG (0 - a))):=by
 refine aJ zi rfl ?_
 repeat' (first|((with_reducible refine aI ?_);conv=>whnf)|refine aG ?_|exact aC|with_reducible refine aD ?_ ?_|(apply aB;(·exact cS))|refine aH ?_|((with_reducible refine aA ?_ ?_)<;>intro hc<;>(try simp only[List.length_map,ne_eq,db] at hc)<;>try(exfalso;omega)))
 all_goals exact rfl
theorem pI (a:Int):Pure Tryz.prog 223 [i64 a] (fun r=>r=i64 (tr (decide (a=0)))):=by
 refine aJ zj rfl ?_
 repeat' (first|((with_reducible refine aI ?_);conv=>whnf)|refine aG ?_|exact aC|with_reducible refine aD ?_ ?_|(apply aB;(·exact cS))|((with_reducible refine aR (cr _) ?_ ?_);(·exact cH))|((with_reducible refine aQ (fun _=>cr _) ?_ ?_);(·exact cH))|((with_reducible refine aO (cr _) ?_ ?_);(·exact cH))|((with_reducible refine aP (fun _=>cr _) ?_ ?_);(·exact cH))|refine aH ?_|((with_reducible refine aA ?_ ?_)<;>intro hc<;>(try simp only[List.length_map,ne_eq,db] at hc)<;>try(exfalso;omega)))
 all_goals exact rfl
def UX:AV:= .agg [.sc .nilFunc, .sc .nilFunc, .fn (.func 206) [] [], .sc .nilFunc, .fn (.func 207) [] [], .sc .nilFunc, .fn (.func 208) [] [], .sc .nilFunc, .fn (.func 209) [] [], .sc .nilFunc, .fn (.func 210) [] [], .sc .nilFunc, .fn (.func 211) [] [], .sc .nilFunc, .fn (.func 212) [] [], .sc .nilFunc, .fn (.func 213) [] [], .sc .nilFunc, .fn (.func 214) [] [], .sc .nilFunc, .fn (.func 215) [] [], .sc .nilFunc, .fn (.func 216) [] [], .sc .nilFunc, .fn (.func 217) [] [], .sc .nilFunc, .fn (.func 218) [] [], .sc .nilFunc, .fn (.func 219) [] [], .sc .nilFunc, .fn (.func 220) [] [], .sc .nilFunc, .fn (.func 221) [] [], .sc .nilFunc, .sc .nilFunc, .fn (.func 222) [] [], .sc .nilFunc, .fn (.func 223) [] []]
theorem mM:Pure Tryz.prog 197 [] (fun r=>r=UX):=ko (by simp[UX,cI,cX]) (by kernel_rfl)
def T9 (op a b:Int):Int:=if op=1 then xG (a+b) else if op=2 then xG (a - b) else if op=3 then xG (a * b) else if op=4 then KI a b else if op=5 then PK a b else if op=6 then X2 a b else if op=7 then orW a b else if op=8 then ZG a b else if op=9 then Y3 a b else if op=10 then TS a b else if op=11 then tr (decide (a=b)) else if op=12 then tr (decide (a≠b)) else if op=13 then tr (decide (a<b)) else if op=14 then tr (decide (a≤b)) else if op=15 then tr (decide (b<a)) else tr (decide (b≤a))
def TF (op a:Int):Int:=if op=17 then xG (0 - a) else tr (decide (a=0))
theorem K1 {op:Int} (h:eB op=true):op=1∨op=2∨op=3∨op=4∨op=5∨op=6∨op=7∨op=8∨op=9∨op=10∨op=11∨op=12∨op=13∨op=14∨op=15∨op=16:=by
 simp only[eB,Bool.and_eq_true,decide_eq_true_eq] at h;omega
theorem U8 (op a b:Int) (h:eB op=true):Pure Tryz.prog 160 [u8 op,i64 a,i64 b] (fun r=>r= .dK [i64 (T9 op a b),i64 0]):=by
 refine aJ zB rfl ?_
 rcases K1 h with rfl|rfl|rfl|rfl|rfl|rfl|rfl|rfl|rfl|rfl|rfl|rfl|rfl|rfl|rfl|rfl
 all_goals repeat' (first|((with_reducible refine aI ?_);conv=>whnf)|refine aG ?_|exact aC|with_reducible refine aD ?_ ?_|(apply aB;(·exact cS))|((with_reducible refine aR (fQ _ (by omega)) ?_ ?_);(·exact cH))|((with_reducible refine aQ (fun _=>fQ _ (by omega)) ?_ ?_);(·exact cH))|((with_reducible refine aO (fQ _ (by omega)) ?_ ?_);(·exact cH))|((with_reducible refine aP (fun _=>fQ _ (by omega)) ?_ ?_);(·exact cH))|refine aK (mM) ?_|((with_reducible refine aR (oT _ _) ?_ ?_);(·exact cH))|((with_reducible refine aQ (fun _=>oT _ _) ?_ ?_);(·exact cH))|((with_reducible refine aO (oT _ _) ?_ ?_);(·exact cH))|((with_reducible refine aP (fun _=>oT _ _) ?_ ?_);(·exact cH))|((with_reducible refine aR (pY _ _) ?_ ?_);(·exact cH))|((with_reducible refine aQ (fun _=>pY _ _) ?_ ?_);(·exact cH))|((with_reducible refine aO (pY _ _) ?_ ?_);(·exact cH))|((with_reducible refine aP (fun _=>pY _ _) ?_ ?_);(·exact cH))|((with_reducible refine aR (pE _ _) ?_ ?_);(·exact cH))|((with_reducible refine aQ (fun _=>pE _ _) ?_ ?_);(·exact cH))|((with_reducible refine aO (pE _ _) ?_ ?_);(·exact cH))|((with_reducible refine aP (fun _=>pE _ _) ?_ ?_);(·exact cH))|((with_reducible refine aR (iO _ _) ?_ ?_);(·exact cH))|((with_reducible refine aQ (fun _=>iO _ _) ?_ ?_);(·exact cH))|((with_reducible refine aO (iO _ _) ?_ ?_);(·exact cH))|((with_reducible refine aP (fun _=>iO _ _) ?_ ?_);(·exact cH))|((with_reducible refine aR (pQ _ _) ?_ ?_);(·exact cH))|((with_reducible refine aQ (fun _=>pQ _ _) ?_ ?_);(·exact cH))|((with_reducible refine aO (pQ _ _) ?_ ?_);(·exact cH))|((with_reducible refine aP (fun _=>pQ _ _) ?_ ?_);(·exact cH))|((with_reducible refine aR (oW _ _) ?_ ?_);(·exact cH))|((with_reducible refine aQ (fun _=>oW _ _) ?_ ?_);(·exact cH))|((with_reducible refine aO (oW _ _) ?_ ?_);(·exact cH))|((with_reducible refine aP (fun _=>oW _ _) ?_ ?_);(·exact cH))|((with_reducible refine aR (pL _ _) ?_ ?_);(·exact cH))|((with_reducible refine aQ (fun _=>pL _ _) ?_ ?_);(·exact cH))|((with_reducible refine aO (pL _ _) ?_ ?_);(·exact cH))|((with_reducible refine aP (fun _=>pL _ _) ?_ ?_);(·exact cH))|((with_reducible refine aR (p9 _ _) ?_ ?_);(·exact cH))|((with_reducible refine aQ (fun _=>p9 _ _) ?_ ?_);(·exact cH))|((with_reducible refine aO (p9 _ _) ?_ ?_);(·exact cH))|((with_reducible refine aP (fun _=>p9 _ _) ?_ ?_);(·exact cH))|((with_reducible refine aR (pU _ _) ?_ ?_);(·exact cH))|((with_reducible refine aQ (fun _=>pU _ _) ?_ ?_);(·exact cH))|((with_reducible refine aO (pU _ _) ?_ ?_);(·exact cH))|((with_reducible refine aP (fun _=>pU _ _) ?_ ?_);(·exact cH))|((with_reducible refine aR (pV _ _) ?_ ?_);(·exact cH))|((with_reducible refine aQ (fun _=>pV _ _) ?_ ?_);(·exact cH))|((with_reducible refine aO (pV _ _) ?_ ?_);(·exact cH))|((with_reducible refine aP (fun _=>pV _ _) ?_ ?_);(·exact cH))|((with_reducible refine aR (rN _ _) ?_ ?_);(·exact cH))|((with_reducible refine aQ (fun _=>rN _ _) ?_ ?_);(·exact cH))|((with_reducible refine aO (rN _ _) ?_ ?_);(·exact cH))|((with_reducible refine aP (fun _=>rN _ _) ?_ ?_);(·exact cH))|((with_reducible refine aR (lM _ _) ?_ ?_);(·exact cH))|((with_reducible refine aQ (fun _=>lM _ _) ?_ ?_);(·exact cH))|((with_reducible refine aO (lM _ _) ?_ ?_);(·exact cH))|((with_reducible refine aP (fun _=>lM _ _) ?_ ?_);(·exact cH))|((with_reducible refine aR (nA _ _) ?_ ?_);(·exact cH))|((with_reducible refine aQ (fun _=>nA _ _) ?_ ?_);(·exact cH))|((with_reducible refine aO (nA _ _) ?_ ?_);(·exact cH))|((with_reducible refine aP (fun _=>nA _ _) ?_ ?_);(·exact cH))|((with_reducible refine aR (nD _ _) ?_ ?_);(·exact cH))|((with_reducible refine aQ (fun _=>nD _ _) ?_ ?_);(·exact cH))|((with_reducible refine aO (nD _ _) ?_ ?_);(·exact cH))|((with_reducible refine aP (fun _=>nD _ _) ?_ ?_);(·exact cH))|((with_reducible refine aR (lA _ _) ?_ ?_);(·exact cH))|((with_reducible refine aQ (fun _=>lA _ _) ?_ ?_);(·exact cH))|((with_reducible refine aO (lA _ _) ?_ ?_);(·exact cH))|((with_reducible refine aP (fun _=>lA _ _) ?_ ?_);(·exact cH))|((with_reducible refine aR (lO _ _) ?_ ?_);(·exact cH))|((with_reducible refine aQ (fun _=>lO _ _) ?_ ?_);(·exact cH))|((with_reducible refine aO (lO _ _) ?_ ?_);(·exact cH))|((with_reducible refine aP (fun _=>lO _ _) ?_ ?_);(·exact cH))|refine aH ?_|((with_reducible refine aA ?_ ?_)<;>intro hc<;>(try simp only[List.length_map,ne_eq,db] at hc)<;>try(exfalso;omega)))
 all_goals (first|exact rfl|trace_state)
theorem QO (op a:Int) (h:op=17∨op=18):Pure Tryz.prog 161 [u8 op,i64 a] (fun r=>r= .dK [i64 (TF op a),i64 0]):=by
 refine aJ zC rfl ?_
 rcases h with rfl|rfl
 all_goals repeat' (first|((with_reducible refine aI ?_);conv=>whnf)|refine aG ?_|exact aC|with_reducible refine aD ?_ ?_|(apply aB;(·exact cS))|((with_reducible refine aR (fq _) ?_ ?_);(·exact cH))|((with_reducible refine aQ (fun _=>fq _) ?_ ?_);(·exact cH))|((with_reducible refine aO (fq _) ?_ ?_);(·exact cH))|((with_reducible refine aP (fun _=>fq _) ?_ ?_);(·exact cH))|((with_reducible refine aR (fQ _ (by omega)) ?_ ?_);(·exact cH))|((with_reducible refine aQ (fun _=>fQ _ (by omega)) ?_ ?_);(·exact cH))|((with_reducible refine aO (fQ _ (by omega)) ?_ ?_);(·exact cH))|((with_reducible refine aP (fun _=>fQ _ (by omega)) ?_ ?_);(·exact cH))|refine aK (mM) ?_|((with_reducible refine aR (lQ _) ?_ ?_);(·exact cH))|((with_reducible refine aQ (fun _=>lQ _) ?_ ?_);(·exact cH))|((with_reducible refine aO (lQ _) ?_ ?_);(·exact cH))|((with_reducible refine aP (fun _=>lQ _) ?_ ?_);(·exact cH))|((with_reducible refine aR (pI _) ?_ ?_);(·exact cH))|((with_reducible refine aQ (fun _=>pI _) ?_ ?_);(·exact cH))|((with_reducible refine aO (pI _) ?_ ?_);(·exact cH))|((with_reducible refine aP (fun _=>pI _) ?_ ?_);(·exact cH))|refine aH ?_|((with_reducible refine aA ?_ ?_)<;>intro hc<;>(try simp only[List.length_map,ne_eq,db] at hc)<;>try(exfalso;omega)))
 all_goals (first|exact rfl|trace_state)
end Go.Proofs.YtjopoheligmmoaaGreatDoor
end
section
/- A step in plain data. -/
namespace Go.Proofs.YtjopoheligmmoaaGreatDoor
open Go Go.cZ Go.Proofs
set_option linter.unusedSimpArgs false
set_option linter.unusedVariables false
structure gX where
 df:Int
 node:Int
 kind:Int
 cQ:Int
 word:Int
 put:Int
 deriving Inhabited,DecidableEq
def gX.cells (d:gX):List AV:=[i64 d.df,i64 d.node,u8 d.kind,i64 d.cQ,i64 d.word,i64 d.put]
abbrev gX.av (d:gX):AV:= .agg d.cells
def MS.val (m:MS) (t:Nat) (v:l8):Int:=if v.jR then(m.cA.getD t []).getD v.slot.toNat 0 else v.word
def MS.gn (m:MS) (t:Nat) (k:Int) (w:Int):MS:={ m with cA:=m.cA.set t ((m.cA.getD t []).set k.toNat w) }
def MS.DZ (m:MS) (t:Nat) (n:Node):Int:=if eB n.op then T9 n.op (m.val t n.a) (m.val t n.b) else if n.op≠0 then TF n.op (m.val t n.a) else m.val t n.a
def MS.act (m:MS) (t:Nat) (n:Node):MS×Int×Int×Int×Int:=
 if n.kind=1 then(m.gn t n.slot (m.DZ t n),n.next,0,m.DZ t n,0)
 else if n.kind=2 then(m.gn t n.slot (m.mem.getD n.cQ.toNat 0),n.next,n.cQ,m.mem.getD n.cQ.toNat 0,0)
 else if n.kind=3 then({ m with mem:=m.mem.set n.cQ.toNat (m.val t n.a) },n.next,n.cQ,m.val t n.a,0)
 else if n.kind=4 then({ m.gn t n.slot (m.mem.getD n.cQ.toNat 0) with mem:=m.mem.set n.cQ.toNat (m.val t n.a) },n.next,n.cQ,m.mem.getD n.cQ.toNat 0,m.val t n.a)
 else if n.kind=5 then({ m with hold:=m.hold.set n.cQ.toNat t },n.next,n.cQ,0,0)
 else if n.kind=6 then({ m with hold:=m.hold.set n.cQ.toNat (-1) },n.next,n.cQ,0,0)
 else if n.kind=7 then({ m with cP:=m.cP++[⟨t,m.val t n.a⟩] },n.next,0,m.val t n.a,0)
 else(m,if m.val t n.a=0 then n.sO else n.next,0,m.val t n.a,0)
def MS.step (u:bx) (m:MS) (t:Nat):MS×gX:=
 let n:=m.node u t
 let r:=m.act t n
 ({ r.1 with at_:=m.at_.set t r.2.1 },⟨t,m.at_.getD t 0,n.kind,r.2.2.1,r.2.2.2.1,r.2.2.2.2⟩)
end Go.Proofs.YtjopoheligmmoaaGreatDoor
end
