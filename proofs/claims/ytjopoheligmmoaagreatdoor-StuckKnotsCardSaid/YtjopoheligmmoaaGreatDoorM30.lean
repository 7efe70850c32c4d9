import Derived.Test.YtjopoheligmmoaaGreatDoorM27
import Derived.Test.YtjopoheligmmoaaGreatDoorM24
import Derived.Test.YtjopoheligmmoaaGreatDoorM28
import Derived.Test.YtjopoheligmmoaaGreatDoorM29
namespace Go.Proofs.YtjopoheligmmoaaGreatDoor
open Go Go.cu Go.Proofs
set_option linter.unusedSimpArgs false
set_option linter.unusedVariables false
set_option maxHeartbeats 1000000
set_option maxRecDepth 8000
structure dP where
 dy:Int
 word:Int
 deriving Inhabited,DecidableEq
def dP.cells (p:dP):List AV:=[i64 p.dy,i64 p.word]
abbrev dP.av (p:dP):AV:= .agg p.cells
structure MS where
 at_:List Int
 cA:List (List Int)
 mem:List Int
 hold:List Int
 cJ:List dP
 deriving Inhabited,DecidableEq
abbrev cR (l:List Int):AV:= .im 1 .any (l.map i64)
abbrev xT (l:List (List Int)):AV:= .im 1 .any (l.map cR)
abbrev gV (l:List dP):AV:= .im 2 .any (l.map dP.av)
def MS.cells (u:bz) (m:MS):List AV:=[cE u.shared,cE u.cB,cW u.bw,cR m.at_,xT m.cA,cR m.mem,cR m.hold,gV m.cJ]
abbrev MS.fz (u:bz) (m:MS):AV:= .ip 8 .any [.agg (m.cells u)] 0 0
@[simp] theorem SS (n:Nat) (p:dP):cX n p.cells:=by simp[dP.cells,cX,cK]
@[simp] theorem XQ (n:Nat) (u:bz) (m:MS):cX n (m.cells u):=by simp[MS.cells,cX,cK,cD]
theorem oX (n:Nat) (u:bz) (m:MS):cK n (m.fz u):=by simp[cK,cX]
structure eH (u:bz) (m:MS):Prop where
 oM:m.at_.length=u.bw.length
 iC:∀t,t<u.bw.length->0<=m.at_.getD t 0/\m.at_.getD t 0<(u.gr t).nodes.length
 sl:m.cA.length=u.bw.length
 AD:∀t,t<u.bw.length->(m.cA.getD t []).length=(u.gr t).cA.toNat
 DA:∀t,t<u.bw.length->∀w∈m.cA.getD t [],eT w
 ml:m.mem.length=u.shared.length
 mw:∀w∈m.mem,eT w
 hl:m.hold.length=u.cB.length
 hw:∀w∈m.hold,-1<=w/\w<u.bw.length
 pw:∀p∈m.cJ,0<=p.dy/\p.dy<u.bw.length/\eT p.word
abbrev MS.node (u:bz) (m:MS) (t:Nat):Node:=(u.gr t).nd (m.at_.getD t 0).toNat
def MS.ja (u:bz) (m:MS) (t:Int):Int:=if t<0\/(m.at_.length:Int)<=t then 2 else if(m.node u t.toNat).kind=9 then 70 else if(m.node u t.toNat).kind=5/\0<=m.hold.getD (m.node u t.toNat).cG.toNat 0 then 71 else 0
theorem ints_at {l:List Int} {k:Nat} (h:k<l.length) (d:AV):(l.map i64).getD ((k:Int)).toNat d=i64 (l.getD k 0):=by
 rw[Int.toNat_natCast];exact dN i64 l k d h
theorem jH {l:List Int} {k:Int} (h:k.toNat<l.length) (d:AV):(l.map i64).getD k.toNat d=i64 (l.getD k.toNat 0):=dN i64 l k.toNat d h
theorem eH.node {u:bz} {m:MS} (hr:ca u) (h:eH u m) {t:Nat} (ht:t<u.bw.length):oJ u (u.gr t) (m.node u t):=by
 have:=h.iC t ht
 exact(hr.gr ht).nodes _ (cT default (by omega))
theorem wV {u:bz} {m:MS} {t:Int} (h:t<0\/(m.at_.length:Int)<=t):m.ja u t=2:=by unfold MS.ja;rw[if_pos h]
theorem zr (u:bz) (m:MS) (t:Int):Pure Tryz.prog 68 [m.fz u,i64 t] (fun r=>r=bl (decide (¬(t<0\/(m.at_.length:Int)<=t)))):=by
 refine aD YJ rfl ?_
 refine cV ?_
 refine eK ?_
 rw[List.length_map]
 by_cases h1:0<=t<;>by_cases h2:t<m.at_.length<;>simp[h1,h2]<;>omega
set_option maxRecDepth 8000 in
set_option maxHeartbeats 2000000 in
theorem wU (u:bz) (hr:ca u) (m:MS) (h:eH u m) (t:Int):Pure Tryz.prog 69 [m.fz u,i64 t] (fun r=>r=i64 (m.ja u t)):=by
 have c0:=zr u m t
 have hl:=h.oM
 by_cases ht:t<0\/(m.at_.length:Int)<=t
 ·rw[wV ht]
  rw[decide_eq_false (fun e=>e ht)] at c0
  refine aD K1 rfl ?_
  refine cV ?_
  first|exact rfl|trivial
 ·rw[decide_eq_true ht] at c0
  obtain⟨k,rfl⟩:∃k:Nat,t=k:=⟨t.toNat,by omega⟩
  have hk:k<u.bw.length:=by omega
  have hbar:m.ja u k=if(m.node u k).kind=9 then 70 else if(m.node u k).kind=5/\0<=m.hold.getD (m.node u k).cG.toNat 0 then 71 else 0:=by
   unfold MS.ja;rw[if_neg ht,Int.toNat_natCast]
  rw[hbar]
  have hno:=h.node hr hk
  obtain⟨p0,p1⟩:=h.iC k hk
  have e0:=fun d=>mi (l:=u.bw) hk d
  have e1:=fun d=>ints_at (l:=m.at_) (k:=k) (by omega) d
  obtain⟨j,hj⟩:∃j:Nat,m.at_.getD k 0=j:=⟨(m.at_.getD k 0).toNat,by omega⟩
  rw[hj] at e1 p1
  have hnd:m.node u k=(u.gr k).nd j:=by unfold MS.node;rw[hj,Int.toNat_natCast]
  rw[hnd] at hno ⊢
  have hgr:u.bw.getD k default=u.gr k:=rfl
  rw[hgr] at e0
  generalize u.gr k=g at *
  have e2:=fun d=>gU (l:=g.nodes) (i:=j) (by omega) d
  rw[show g.nodes.getD j default=g.nd j from rfl] at e2
  generalize g.nd j=n at *
  have a0:(u.bw.map cF.av).length=u.bw.length:=by simp
  have a1:(m.at_.map i64).length=u.bw.length:=by simp[hl]
  have a2:(g.nodes.map Node.av).length=g.nodes.length:=by simp
  have a3:(m.hold.map i64).length=u.cB.length:=by simp[h.hl]
  by_cases h9:n.kind=9
  ·have r0:=h9
   rw[if_pos h9]
   refine aD K1 rfl ?_
   refine cV ?_
   first|exact rfl|trivial
  ·rw[if_neg h9]
   by_cases h5:n.kind=5
   ·have hth:=hno.cG.1 (by unfold eZ;exact decide_eq_true (by omega))
    rw[if_pos (.inl h5)] at hth
    have hhl:=h.hl
    have e3:=fun d=>jH (l:=m.hold) (k:=n.cG) (by omega) d
    have r0:=h5
    by_cases hh:0<=m.hold.getD n.cG.toNat 0
    ·rw[if_pos ⟨h5,hh⟩]
     have r1:=decide_eq_true hh
     refine aD K1 rfl ?_
     refine cV ?_
     first|exact rfl|trivial
    ·rw[if_neg fun e=>hh e.2]
     have r1:=decide_eq_false hh
     refine aD K1 rfl ?_
     refine cV ?_
     first|exact rfl|trivial
   ·rw[if_neg fun e=>h5 e.1]
    have r1:=decide_eq_false h5
    refine aD K1 rfl ?_
    refine cV ?_
    first|exact rfl|trivial
theorem JG (u:bz) (hr:ca u) (m:MS) (h:eH u m) (t:Int):Pure Tryz.prog 32 [m.fz u,i64 t] (fun r=>r=bl (decide (m.ja u t=0))):=by
 have c0:=wU u hr m h t
 refine aD X1 rfl ?_
 refine cV ?_
 first|exact rfl|trivial
def MS.ended (u:bz) (m:MS):Bool:=(List.range m.at_.length).all fun t=>decide (m.ja u t=70)
theorem JR (u:bz) (hr:ca u) (m:MS) (h:eH u m):Pure Tryz.prog 67 [m.fz u] (fun r=>r=bl (m.ended u)):=by
 have hl:=h.oM
 have hgl:=hr.oW
 refine aD YI rfl ?_
 refine cV ?_
 rw[List.length_map]
 refine aN (fun i:Nat=>[(0,m.fz u),(10,i64 m.at_.length),(11,i64 i)]) (fun i H n=>i<=m.at_.length/\∀j:Nat,j<i->m.ja u j=70) (fun i=>m.at_.length - i) 0 cH ⟨Nat.zero_le _,fun j hj=>by omega⟩ ?_
 rintro i H n ⟨hi,hall⟩
 by_cases hil:i<m.at_.length
 ·have c0:=wU u hr m h i
  by_cases hb:m.ja u i=70
  ·have r0:=hb
   refine cV ?_
   exact⟨i+1,by omega,cH,by omega,fun j hj=>by
    by_cases e:j=i
    ·rw[e];exact hb
    ·exact hall j (by omega)⟩
  ·have r0:=decide_eq_true hb
   refine cV ?_
   refine eK (Eq.symm ?_)
   unfold MS.ended
   rw[List.all_eq_false]
   exact⟨i,List.mem_range.2 hil,by simpa using hb⟩
 ·refine cV ?_
  refine eK (Eq.symm ?_)
  unfold MS.ended
  rw[List.all_eq_true]
  intro j hj
  exact decide_eq_true (hall j (by have:=List.mem_range.1 hj;omega))
structure cx where
 cJ:List dP
 mem:List Int
 ended:Bool
 deriving Inhabited,DecidableEq
def cx.cells (e:cx):List AV:=[gV e.cJ,cR e.mem,bl e.ended]
abbrev cx.av (e:cx):AV:= .agg e.cells
@[simp] theorem XD (n:Nat) (e:cx):cX n e.cells:=by simp[cx.cells,cX,cK,cD]
def ew (x y:Int):Int:=if x<y then -1 else if y<x then 1 else 0
def tn:List Int->Int
 |[]=>0
 |x::l=>if x=0 then tn l else x
def jl (p q:dP):Int:=tn [ew p.dy q.dy,ew p.word q.word]
def fD {α:Type} (f:α->α->Int):List α->List α->Int
 |[],[]=>0
 |[],_::_=>-1
 |_::_,[]=>1
 |x::a,y::b=>if f x y=0 then fD f a b else f x y
def wY (a b:Bool):Int:=if a=b then 0 else if b then -1 else 1
def gY (a b:cx):Int:=tn [fD jl a.cJ b.cJ,fD ew a.mem b.mem,wY a.ended b.ended]
theorem w3 {α:Type} (f:α->α->Int) (d:α) {a b:List α} {i:Nat} (h1:i<a.length) (h2:i<b.length):fD f (a.drop i) (b.drop i)=if f (a.getD i d) (b.getD i d)=0 then fD f (a.drop (i+1)) (b.drop (i+1)) else f (a.getD i d) (b.getD i d):=by
 rw[List.drop_eq_getElem_cons h1,List.drop_eq_getElem_cons h2,fD]
 simp[List.getD,List.getElem?_eq_getElem h1,List.getElem?_eq_getElem h2]
theorem sh {α:Type} (f:α->α->Int) {a b:List α} {i:Nat} (h1:i<a.length) (h2:b.length<=i):fD f (a.drop i) (b.drop i)=1:=by
 rw[List.drop_eq_getElem_cons h1,List.drop_of_length_le h2,fD]
theorem sf {α:Type} (f:α->α->Int) {a b:List α} {i:Nat} (h1:a.length<=i) (h2:i<=b.length):fD f (a.drop i) (b.drop i)=if i<b.length then -1 else 0:=by
 rw[List.drop_of_length_le h1]
 split
 ·rename_i h;rw[List.drop_eq_getElem_cons h,fD]
 ·rw[List.drop_of_length_le (by omega),fD]
theorem EL (x:Int):Pure Tryz.prog 104 [i64 x] (fun r=>r=bl false):=by
 refine aD TX rfl ?_
 refine cV ?_
 refine eK ?_
 simp
theorem zO (x:Int):Pure Tryz.prog 194 [i64 x] (fun r=>r=bl false):=by
 refine aD VC rfl ?_
 refine cV ?_
 refine eK ?_
 simp
theorem sd (x y:Int):Pure Tryz.prog 62 [i64 x,i64 y] (fun r=>r=i64 (ew x y)):=by
 have c0:=EL x
 have c1:=EL y
 unfold ew
 by_cases h:x<y
 ·rw[if_pos h]
  refine aD RO rfl ?_
  refine cV ?_
  first|exact rfl|trivial
 ·rw[if_neg h]
  by_cases h2:y<x
  ·rw[if_pos h2]
   refine aD RO rfl ?_
   refine cV ?_
   first|exact rfl|trivial
  ·rw[if_neg h2]
   refine aD RO rfl ?_
   refine cV ?_
   first|exact rfl|trivial
theorem vD (x y:Int):Pure Tryz.prog 152 [i64 x,i64 y] (fun r=>r=i64 (ew x y)):=by
 have c0:=zO x
 have c1:=zO y
 unfold ew
 by_cases h:x<y
 ·rw[if_pos h]
  refine aD KZ rfl ?_
  refine cV ?_
  first|exact rfl|trivial
 ·rw[if_neg h]
  by_cases h2:y<x
  ·rw[if_pos h2]
   refine aD KZ rfl ?_
   refine cV ?_
   first|exact rfl|trivial
  ·rw[if_neg h2]
   refine aD KZ rfl ?_
   refine cV ?_
   first|exact rfl|trivial
theorem LO {l:List Int} {i:Nat} (h:i<l.length):tn (l.drop i)=if l.getD i 0=0 then tn (l.drop (i+1)) else l.getD i 0:=by
 rw[List.drop_eq_getElem_cons h,tn]
 simp[List.getD,List.getElem?_eq_getElem h]
theorem xG (l:List Int) (hl:l.length<=1000):Pure Tryz.prog 61 [cR l] (fun r=>r=i64 (tn l)):=by
 refine aD YG rfl ?_
 refine cV ?_
 rw[List.length_map]
 refine aN (fun i:Nat=>[(3,i64 0),(6,cR l),(7,i64 l.length),(8,i64 i)]) (fun i H n=>i<=l.length/\tn l=tn (l.drop i)) (fun i=>l.length - i) 0 cH ⟨Nat.zero_le _,rfl⟩ ?_
 rintro i H n ⟨hi,ho⟩
 rw[ho]
 by_cases hil:i<l.length
 ·have e0:=fun d=>ints_at (l:=l) hil d
  have a0:(l.map i64).length=l.length:=by simp
  have hd:=LO hil
  by_cases hz:l.getD i 0=0
  ·have r0:=hz
   rw[if_pos hz] at hd
   refine cV ?_
   exact⟨i+1,by omega,cH,by omega,hd⟩
  ·have r0:=decide_eq_true hz
   rw[if_neg hz] at hd
   refine cV ?_
   rw[hd]
 ·rw[List.drop_of_length_le (by omega)]
  refine cV ?_
  first|exact rfl|trivial
theorem uJ {p:Prop} (h:Go p):p:=h
theorem FE {es:List AV} (hf:cX 0 es) (hl:es.length * 16<=140737488355328):cS Tryz.prog 184 [.im 2 .any es] [] 0 (fun r H _=>cu.dX H 6 r= .sc (.slice none 0 0)/\es=[]\/cu.dX H 6 r= .im 2 .any es):=by
 refine aI VA rfl ?_
 cases es with
 |nil=>
  refine cV ?_
  refine⟨uJ ?_,uJ ?_⟩
  ·refine cV ?_
   exact⟨.inl ⟨rfl,rfl⟩⟩
  ·refine cV ?_
   exact⟨.inr rfl⟩
 |cons x t=>
  have a0:(x::t).length * 16<=gp:=Nat.le_trans hl (by unfold gp;omega)
  simp only[List.length_cons] at hl
  refine cV ?_
  refine⟨.inr ((dI (e:=155) (sz:=2) (es:=x::t) bx (Nat.zero_add _).symm).trans ?_)⟩
  rw[cn _ hf]
theorem FF {es:List AV} (hf:cX 0 es) (hl:es.length * 8<=140737488355328):cS Tryz.prog 185 [.im 1 .any es] [] 0 (fun r H _=>cu.dX H 6 r= .sc (.slice none 0 0)/\es=[]\/cu.dX H 6 r= .im 1 .any es):=by
 refine aI VB rfl ?_
 cases es with
 |nil=>
  refine cV ?_
  refine⟨uJ ?_,uJ ?_⟩
  ·refine cV ?_
   exact⟨.inl ⟨rfl,rfl⟩⟩
  ·refine cV ?_
   exact⟨.inr rfl⟩
 |cons x t=>
  have a0:(x::t).length * 8<=gp:=Nat.le_trans hl (by unfold gp;omega)
  simp only[List.length_cons] at hl
  refine cV ?_
  refine⟨.inr ((dI (e:=2) (sz:=1) (es:=x::t) bx (Nat.zero_add _).symm).trans ?_)⟩
  rw[cn _ hf]
theorem yE (l:List dP) (hl:l.length * 16<=140737488355328):Pure Tryz.prog 184 [gV l] (fun r=>r=gV l):=
 lq (by simp[cK,cD]) (FE ((cD _ _).2 fun _ _=>by simp[cK]) (by rw[List.length_map];exact hl))
theorem yF (l:List Int) (hl:l.length * 8<=140737488355328):Pure Tryz.prog 185 [cR l] (fun r=>r=cR l):=
 lq (by simp[cK,cD]) (FF ((cD _ _).2 fun _ _=>by simp[cK]) (by rw[List.length_map];exact hl))
theorem HC (u:bz) (m:MS) (hl:m.cJ.length * 16<=140737488355328):Pure Tryz.prog 147 [m.fz u] (fun r=>r=gV m.cJ):=by
 have c0:=yE m.cJ hl
 refine aD UM rfl ?_
 refine cV ?_
 first|exact rfl|trivial
theorem G0 (u:bz) (m:MS) (hl:m.mem.length * 8<=140737488355328):Pure Tryz.prog 148 [m.fz u] (fun r=>r=cR m.mem):=by
 have c0:=yF m.mem hl
 refine aD UN rfl ?_
 refine cV ?_
 first|exact rfl|trivial
def MS.stuck (u:bz) (m:MS):Bool:=(List.range m.at_.length).all fun t=>decide (m.ja u t≠0)
def MS.end_ (u:bz) (m:MS):cx:=⟨m.cJ,m.mem,m.ended u⟩
def lp (u:bz) (m:MS):AV:=if m.stuck u then .dD [(m.end_ u).av,bl true] else .dD [.agg [.sc (.slice none 0 0), .sc (.slice none 0 0),bl false],bl false]
theorem vq (u:bz) (hr:ca u) (m:MS) (h:eH u m) (hp:m.cJ.length * 16<=140737488355328) (hm:m.mem.length * 8<=140737488355328):Pure Tryz.prog 94 [u.av,m.fz u] (fun r=>r=lp u m):=by
 have hl:=h.oM
 have hgl:=hr.oW
 have c1:=HC u m hp
 have c2:=G0 u m hm
 have c3:=JR u hr m h
 refine aD YY rfl ?_
 refine cV ?_
 rw[List.length_map,<-hl]
 refine aN (fun i:Nat=>[(1,m.fz u),(4, .pt 1 1 0 0),(9,i64 m.at_.length),(10,i64 i)]) (fun i H n=>i<=m.at_.length/\2<=n/\bu H 1=some (.row 105 3 (gC true [.slice none 0 0, .slice none 0 0, .bool false]) [gC true [.slice none 0 0, .slice none 0 0, .bool false]])/\∀j:Nat,j<i->m.ja u j≠0) (fun i=>m.at_.length - i) 0 cH ⟨Nat.zero_le _,cZ,bx,fun j hj=>by omega⟩ ?_
 rintro i H n ⟨hi,hn,hx,hall⟩
 by_cases hil:i<m.at_.length
 ·have c0:=JG u hr m h i
  by_cases hb:m.ja u i=0
  ·have hs:m.stuck u=false:=by
    unfold MS.stuck
    rw[List.all_eq_false]
    exact⟨i,List.mem_range.2 hil,by simpa using hb⟩
   have r0:=decide_eq_true hb
   rw[lp,hs]
   refine cV ?_
   first|exact rfl|trivial
  ·have r0:=decide_eq_false hb
   refine cV ?_
   exact⟨i+1,by omega,cH,by omega,by omega,bx,fun j hj=>by
    by_cases e:j=i
    ·rw[e];exact hb
    ·exact hall j (by omega)⟩
 ·have hs:m.stuck u=true:=by
   unfold MS.stuck
   rw[List.all_eq_true]
   intro j hj
   exact decide_eq_true (hall j (by have:=List.mem_range.1 hj;omega))
  rw[lp,hs]
  refine cV ?_
  first|exact rfl|trivial
def dR (ids:List Nat) (l:List (List Int)):List AV:=(ids.zip l).map fun p=> .sl p.1 p.2.length
def MS.rows (u:bz) (m:MS) (a s me ho pr:Nat):AV:= .agg [cE u.shared,cE u.cB,cW u.bw, .sl a m.at_.length, .sl s m.cA.length, .sl me m.mem.length, .sl ho m.hold.length, .sl pr m.cJ.length]
structure SM (u:bz) (m:MS) (mr a s me ho pr:Nat) (ids:List Nat) (H:Hp):Prop where
 rM:∃d,bu H mr=some (.row 114 8 d [m.rows u a s me ho pr])
 rA:∃d,bu H a=some (.row 3 1 d (m.at_.map i64))
 rS:∃d,bu H s=some (.row 93 1 d (dR ids m.cA))
 rL:∀t,t<m.cA.length->∃d,bu H (ids.getD t 0)=some (.row 2 1 d ((m.cA.getD t []).map i64))
 rE:∃d,bu H me=some (.row 2 1 d (m.mem.map i64))
 rH:∃d,bu H ho=some (.row 3 1 d (m.hold.map i64))
 rP:∃d,bu H pr=some (.row 155 2 d (m.cJ.map dP.av))
 len:ids.length=m.cA.length
 nodup:(mr::a::s::me::ho::pr::ids).Nodup
theorem nq {ids:List Nat} {l:List (List Int)} (h:ids.length=l.length) (i:Nat) (x:List Int):dR (ids++[i]) (l++[x])=dR ids l++[.sl i x.length]:=by
 unfold dR
 rw[List.zip_append h]
 simp
theorem copied (es:List AV) (z:AV):List.take (es.length.min (es.length:Int).toNat) es++List.drop (es.length.min (es.length:Int).toNat) (List.replicate (es.length:Int).toNat z)=es:=by
 rw[Int.toNat_natCast,show es.length.min es.length=es.length from Nat.min_self _]
 simp
set_option maxHeartbeats 4000000 in
theorem A0 (u:bz) (m:MS) (h1:m.at_.length<=4096) (h2:m.mem.length<=4096) (h3:m.hold.length<=4096) (h4:m.cJ.length<=1048576) (h5:m.cA.length<=4096) (h6:∀l∈m.cA,l.length<=1048576) (H0:Hp) (nx:Nat):cS Tryz.prog 146 [m.fz u] H0 nx (fun r H n=>∃mr a s me ho pr ids,r= .pt mr 1 0 0/\SM u m mr a s me ho pr ids H/\(∀x∈mr::a::s::me::ho::pr::ids,nx<=x/\x<n)/\nx<=n/\∀y,y<nx->bu H y=bu H0 y):=by
 refine aI UL rfl ?_
 refine cV ?_
 simp only[copied]
 simp only[List.length_map,Int.toNat_natCast]
 refine aS (fun σ:Nat×List Nat=>[(0,m.fz u),(3, .pt (nx+32) 1 0 0),(78,xT m.cA),(79,i64 m.cA.length),(80,i64 σ.1)])
  (fun σ H n=>σ.1<=m.cA.length/\nx+77<=n/\σ.2.length=σ.1/\σ.2.Nodup/\(∀x∈σ.2,nx+77<=x/\x<n)/\(∃d,bu H (nx+32)=some (.row 114 8 d [.agg [cE u.shared,cE u.cB,cW u.bw, .sl (nx+12) m.at_.length, .sl (nx+76) σ.1, .sl (nx+18) m.mem.length, .sl (nx+24) m.hold.length, .sl (nx+30) m.cJ.length]]))/\(∃d,bu H (nx+12)=some (.row 3 1 d (m.at_.map i64)))/\(∃d,bu H (nx+18)=some (.row 2 1 d (m.mem.map i64)))/\(∃d,bu H (nx+24)=some (.row 3 1 d (m.hold.map i64)))/\(∃d,bu H (nx+30)=some (.row 155 2 d (m.cJ.map dP.av)))/\(∃d,bu H (nx+76)=some (.row 93 1 d (dR σ.2 (m.cA.take σ.1))))/\(∀t,t<σ.1->∃d,bu H (σ.2.getD t 0)=some (.row 2 1 d ((m.cA.getD t []).map i64)))/\∀y,y<nx->bu H y=bu H0 y) (fun σ=>m.cA.length - σ.1) (0,[])
  ⟨_,_,_,Rt.wk (Wk.gH (b:=nx+32) (e:=93) (sz:=1) (by simp only[List.length_cons,List.length_nil];omega) (by omega) (te:=114) (tz:=8) (cs:=[cE u.shared,cE u.cB,cW u.bw, .sl (nx+12) m.at_.length, .sc (.slice none 0 0), .sl (nx+18) m.mem.length, .sl (nx+24) m.hold.length, .sl (nx+30) m.cJ.length]) (j:=4) bx (by show 4<8;omega) rfl),cH,Nat.zero_le _,cZ,rfl,List.nodup_nil,fun x hx=>by simp at hx,⟨_,bx⟩,⟨_,bx⟩,⟨_,bx⟩,⟨_,bx⟩,⟨_,bx⟩,⟨_,bx⟩,fun t ht=>absurd ht (Nat.not_lt_zero _),fun y hy=>cC⟩ ?_
 rintro⟨t,ids⟩ H n ⟨ht,hn,hil,hnd,hin,⟨d0,r0⟩,⟨d1,r1⟩,⟨d2,r2⟩,⟨d3,r3⟩,⟨d4,r4⟩,⟨d5,r5⟩,hls,hkp⟩
 dsimp only at ht hil hnd hin r0 r5 hls ⊢
 have htk:(m.cA.take t).length=t:=by rw[List.length_take];omega
 have hrl:(dR ids (m.cA.take t)).length=t:=by unfold dR;rw[List.length_map,List.length_zip,htk,hil];omega
 by_cases htl:t<m.cA.length
 ·have e0:∀d,(m.cA.map cR).getD ((t:Int)).toNat d=cR (m.cA.getD t []):=fun d=>by rw[Int.toNat_natCast];exact dN cR m.cA t d htl
  have a0:(m.cA.map cR).length=m.cA.length:=by simp
  have hnx:dR (ids++[n+6]) (m.cA.take (t+1))=dR ids (m.cA.take t)++[.sl (n+6) (m.cA.getD t []).length]:=by
   rw[List.take_succ_eq_append_getElem htl,nq (by rw[hil,htk]),show m.cA.getD t []=m.cA[t] by simp[List.getD,htl]]
  have h7:=h6 _ (cT (l:=m.cA) [] htl)
  refine cV ?_
  simp only[copied]
  simp only[List.length_map,Int.toNat_natCast]
  refine⟨(t+1,ids++[n+6]),by dsimp only;omega,_,_,_,Rt.refl _ _ _,cH,by dsimp only;omega,by omega,by simp[hil], ?_, ?_,⟨_,bx⟩,⟨_,bx⟩,⟨_,bx⟩,⟨_,bx⟩,⟨_,bx⟩,⟨_,by dsimp only;rw[hnx];exact bx⟩, ?_,fun y hy=>Eq.trans cC (hkp y hy)⟩
  ·refine List.nodup_append.2 ⟨hnd,by simp,fun a ha b hb=> ?_⟩
   simp only[List.mem_cons,List.not_mem_nil,or_false] at hb
   have:=hin _ ha;omega
  ·intro x hx
   rcases List.mem_append.1 hx with hx|hx
   ·have:=hin _ hx;exact⟨this.1,Nat.lt_of_lt_of_le this.2 cZ⟩
   ·simp only[List.mem_cons,List.not_mem_nil,or_false] at hx
    subst hx;exact⟨by omega,cZ⟩
  ·intro q hq
   have hq:q<t+1:=hq
   by_cases e:q=t
   ·subst e
    have e2:(ids++[n+6]).getD q 0=n+6:=by rw[List.getD,List.getElem?_append_right (by omega),hil,Nat.sub_self];rfl
    dsimp only
    rw[e2];exact⟨_,bx⟩
   ·obtain⟨d,hd⟩:=hls q (by omega)
    have e2:(ids++[n+6]).getD q 0=ids.getD q 0:=by simp[List.getD,List.getElem?_append,show q<ids.length by omega]
    have:=hin _ (eA (l:=ids) (q:=q) (by omega))
    dsimp only
    rw[e2];exact⟨d,Eq.trans cC hd⟩
 ·have:t=m.cA.length:=by omega
  subst this
  rw[List.take_length] at r5
  refine cV ?_
  refine⟨⟨nx+32,nx+12,nx+76,nx+18,nx+24,nx+30,ids,rfl,⟨⟨_,bx⟩,⟨_,bx⟩,⟨_,bx⟩,fun t ht=> ?_,⟨_,bx⟩,⟨_,bx⟩,⟨_,bx⟩,hil, ?_⟩, ?_,cZ,fun y hy=>Eq.trans cC (hkp y hy)⟩⟩
  ·obtain⟨d,hd⟩:=hls t ht
   have:=hin _ (eA (l:=ids) (q:=t) (by omega))
   exact⟨d,Eq.trans cC hd⟩
  ·have hno:∀k,k<nx+77->k∉ids:=fun k hk h=>by have:=hin _ h;omega
   simp only[List.nodup_cons,List.mem_cons,not_or]
   exact⟨⟨by omega,by omega,by omega,by omega,by omega,hno _ (by omega)⟩,⟨by omega,by omega,by omega,by omega,hno _ (by omega)⟩,⟨by omega,by omega,by omega,hno _ (by omega)⟩,⟨by omega,by omega,hno _ (by omega)⟩,⟨by omega,hno _ (by omega)⟩,hno _ (by omega),hnd⟩
  ·intro x hx
   simp only[List.mem_cons] at hx
   rcases hx with rfl|rfl|rfl|rfl|rfl|rfl|hx
   all_goals first
    |exact⟨by omega,by omega⟩
    |(have:=hin _ hx;exact⟨by omega,by omega⟩)
theorem pS {H:Hp} {k:Nat} {cs:List AV}:cu.dX H (k+1) (.agg cs)= .agg (cs.map (cu.dX H k)):=by simp only[dX]
theorem SM.dX {u:bz} {m:MS} {mr a s me ho pr:Nat} {ids:List Nat} {H:Hp} (h:SM u m mr a s me ho pr ids H) (k:Nat):cu.dX H (k+5) (.pt mr 1 0 0)=m.fz u:=by
 obtain⟨d1,h1⟩:=h.rM
 obtain⟨d2,h2⟩:=h.rA
 obtain⟨d3,h3⟩:=h.rS
 obtain⟨d4,h4⟩:=h.rE
 obtain⟨d5,h5⟩:=h.rH
 obtain⟨d6,h6⟩:=h.rP
 have hsl:(dR ids m.cA).length=m.cA.length:=by unfold dR;rw[List.length_map,List.length_zip,h.len];simp
 have hs:(dR ids m.cA).map (cu.dX H (k+2))=m.cA.map cR:=by
  apply List.ext_getElem (by simp[hsl])
  intro t q1 q2
  have ht:t<m.cA.length:=by simpa using q2
  have hti:t<ids.length:=by rw[h.len];exact ht
  obtain⟨d,hd⟩:=h.rL t ht
  rw[show ids.getD t 0=ids[t] by simp[List.getD,hti],show m.cA.getD t []=m.cA[t] by simp[List.getD,ht]] at hd
  rw[List.getElem_map,List.getElem_map]
  simp only[dR,List.getElem_map,List.getElem_zip]
  rw[dI hd (by simp),cn _ ((cD _ _).2 fun _ _=>by simp[cK])]
 simp only[cu.dX,h1]
 simp only[List.length_cons,List.length_nil,if_true,List.map_cons,List.map_nil,MS.rows]
 rw[pS]
 simp only[List.map_cons,List.map_nil]
 rw[dI h2 (by simp),dI h3 hsl,dI h4 (by simp),dI h5 (by simp),dI h6 (by simp),hs]
 rw[cn _ ((cD _ _).2 fun _ _=>by simp[cK]),cn _ ((cD _ _).2 fun _ _=>by simp[cK]),cn _ ((cD _ _).2 fun _ _=>by simp[cK]),cn _ ((cD _ _).2 fun _ _=>by simp[cK])]
 rw[dM _ (show cK 0 (cE u.shared) by simp[cK,cD]),dM _ (show cK 0 (cE u.cB) by simp[cK,cD]),dM _ (show cK 0 (cW u.bw) by simp[cK,cD])]
 rfl
def cr (u:bz):MS:=⟨u.bw.map fun _=>0,u.bw.map fun g=>List.replicate g.cA.toNat 0,u.shared.map Decl.word,u.cB.map fun _=>-1,[]⟩
theorem EM (u:bz) (hr:ca u) (hw:∀d∈u.shared,eT d.word) (hn:∀t,t<u.bw.length->0<(u.gr t).nodes.length):eH u (cr u) where
 oM:=by simp[cr]
 iC:=fun t ht=>by
  have e:(cr u).at_.getD t 0=0:=by simp[cr,List.getD,ht]
  rw[e]
  exact⟨Int.le_refl _,by have:=hn t ht;omega⟩
 sl:=by simp[cr]
 AD:=fun t ht=>by
  have e:(cr u).cA.getD t []=List.replicate (u.gr t).cA.toNat 0:=by simp[cr,List.getD,bz.gr,ht]
  rw[e,List.length_replicate]
 DA:=fun t ht w hw=>by
  have e:(cr u).cA.getD t []=List.replicate (u.gr t).cA.toNat 0:=by simp[cr,List.getD,bz.gr,ht]
  rw[e] at hw
  rw[List.eq_of_mem_replicate hw]
  exact⟨by omega,by omega⟩
 ml:=by simp[cr]
 mw:=fun w h=>by
  obtain⟨d,hd,rfl⟩:=List.mem_map.1 h
  exact hw d hd
 hl:=by simp[cr]
 hw:=fun w h=>by
  obtain⟨d,hd,rfl⟩:=List.mem_map.1 h
  exact⟨by omega,by omega⟩
 pw:=fun p h=>by simp[cr] at h
abbrev x7 (n:Int):Int:=IntKind.i64.wrap n
def zY (a b:Int):Int:=if b=0 then 0 else if b=-1 then x7 (0 - a) else x7 (a.tdiv b)
def xK (a b:Int):Int:=if b=0 then a else x7 (a - x7 (zY a b * b))
def S8 (a b:Int):Int:=x7 ((BitVec.ofInt 64 a&&& BitVec.ofInt 64 b).toNat:Int)
def ZH (a b:Int):Int:=x7 ((BitVec.ofInt 64 a|||BitVec.ofInt 64 b).toNat:Int)
def W9 (a b:Int):Int:=x7 ((BitVec.ofInt 64 a^^^BitVec.ofInt 64 b).toNat:Int)
def w5 (b:Int):Int:=IntKind.u64.wrap ((BitVec.ofInt 64 (IntKind.u64.wrap b)&&& BitVec.ofInt 64 63).toNat:Int)
def OY (a b:Int):Int:=x7 (a * 2^(min (w5 b).toNat 64))
def HU (a b:Int):Int:=a.fdiv (2^(min (w5 b).toNat 64))
def tr (t:Bool):Int:=if t=true then 1 else 0
theorem dF (t:Bool):Pure Tryz.prog 226 [bl t] (fun r=>r=i64 (tr t)):=by
 refine aD V0 rfl ?_
 repeat' (first|refine aQ ?_|exact aC|with_reducible refine aB ?_ ?_|(apply aA;(·exact cL))|refine aH ?_|((with_reducible refine aE ?_ ?_)<;>intro hc<;>try(exfalso;omega)))
 all_goals simp_all[tr]
theorem pF (a b:Int):Pure Tryz.prog 206 [i64 a,i64 b] (fun r=>r=i64 (x7 (a+b))):=by
 refine aD VH rfl ?_
 repeat' (first|refine aQ ?_|exact aC|with_reducible refine aB ?_ ?_|(apply aA;(·exact cL))|refine aH ?_|((with_reducible refine aE ?_ ?_)<;>intro hc<;>try(exfalso;omega)))
 all_goals exact rfl
theorem qJ (a b:Int):Pure Tryz.prog 207 [i64 a,i64 b] (fun r=>r=i64 (x7 (a - b))):=by
 refine aD VI rfl ?_
 repeat' (first|refine aQ ?_|exact aC|with_reducible refine aB ?_ ?_|(apply aA;(·exact cL))|refine aH ?_|((with_reducible refine aE ?_ ?_)<;>intro hc<;>try(exfalso;omega)))
 all_goals exact rfl
theorem pd (a b:Int):Pure Tryz.prog 208 [i64 a,i64 b] (fun r=>r=i64 (x7 (a * b))):=by
 refine aD VJ rfl ?_
 repeat' (first|refine aQ ?_|exact aC|with_reducible refine aB ?_ ?_|(apply aA;(·exact cL))|refine aH ?_|((with_reducible refine aE ?_ ?_)<;>intro hc<;>try(exfalso;omega)))
 all_goals exact rfl
theorem jE (a b:Int):Pure Tryz.prog 209 [i64 a,i64 b] (fun r=>r=i64 (zY a b)):=by
 refine aD VK rfl ?_
 repeat' (first|refine aQ ?_|exact aC|with_reducible refine aB ?_ ?_|(apply aA;(·exact cL))|refine aH ?_|((with_reducible refine aE ?_ ?_)<;>intro hc<;>try(exfalso;omega)))
 all_goals simp_all[zY]
theorem qA (a b:Int):Pure Tryz.prog 210 [i64 a,i64 b] (fun r=>r=i64 (xK a b)):=by
 refine aD VL rfl ?_
 repeat' (first|refine aQ ?_|exact aC|with_reducible refine aB ?_ ?_|(apply aA;(·exact cL))|((with_reducible refine aM (jE _ _) ?_ ?_);(·exact cI))|((with_reducible refine aG (fun _=>jE _ _) ?_ ?_);(·exact cI))|((with_reducible refine aJ (jE _ _) ?_ ?_);(·exact cI))|((with_reducible refine aL (fun _=>jE _ _) ?_ ?_);(·exact cI))|refine aH ?_|((with_reducible refine aE ?_ ?_)<;>intro hc<;>try(exfalso;omega)))
 all_goals simp_all[xK]
theorem pI (a b:Int):Pure Tryz.prog 211 [i64 a,i64 b] (fun r=>r=i64 (S8 a b)):=by
 refine aD VM rfl ?_
 repeat' (first|refine aQ ?_|exact aC|with_reducible refine aB ?_ ?_|(apply aA;(·exact cL))|refine aH ?_|((with_reducible refine aE ?_ ?_)<;>intro hc<;>try(exfalso;omega)))
 all_goals exact rfl
theorem po (a b:Int):Pure Tryz.prog 212 [i64 a,i64 b] (fun r=>r=i64 (ZH a b)):=by
 refine aD VN rfl ?_
 repeat' (first|refine aQ ?_|exact aC|with_reducible refine aB ?_ ?_|(apply aA;(·exact cL))|refine aH ?_|((with_reducible refine aE ?_ ?_)<;>intro hc<;>try(exfalso;omega)))
 all_goals exact rfl
theorem qN (a b:Int):Pure Tryz.prog 213 [i64 a,i64 b] (fun r=>r=i64 (W9 a b)):=by
 refine aD VO rfl ?_
 repeat' (first|refine aQ ?_|exact aC|with_reducible refine aB ?_ ?_|(apply aA;(·exact cL))|refine aH ?_|((with_reducible refine aE ?_ ?_)<;>intro hc<;>try(exfalso;omega)))
 all_goals exact rfl
theorem qD (a b:Int):Pure Tryz.prog 214 [i64 a,i64 b] (fun r=>r=i64 (OY a b)):=by
 refine aD VP rfl ?_
 repeat' (first|refine aQ ?_|exact aC|with_reducible refine aB ?_ ?_|(apply aA;(·exact cL))|refine aH ?_|((with_reducible refine aE ?_ ?_)<;>intro hc<;>try(exfalso;omega)))
 all_goals exact rfl
theorem qE (a b:Int):Pure Tryz.prog 215 [i64 a,i64 b] (fun r=>r=i64 (HU a b)):=by
 refine aD VQ rfl ?_
 repeat' (first|refine aQ ?_|exact aC|with_reducible refine aB ?_ ?_|(apply aA;(·exact cL))|refine aH ?_|((with_reducible refine aE ?_ ?_)<;>intro hc<;>try(exfalso;omega)))
 all_goals exact rfl
theorem sD (a b:Int):Pure Tryz.prog 216 [i64 a,i64 b] (fun r=>r=i64 (tr (decide (a=b)))):=by
 refine aD VS rfl ?_
 repeat' (first|refine aQ ?_|exact aC|with_reducible refine aB ?_ ?_|(apply aA;(·exact cL))|((with_reducible refine aM (dF _) ?_ ?_);(·exact cI))|((with_reducible refine aG (fun _=>dF _) ?_ ?_);(·exact cI))|((with_reducible refine aJ (dF _) ?_ ?_);(·exact cI))|((with_reducible refine aL (fun _=>dF _) ?_ ?_);(·exact cI))|refine aH ?_|((with_reducible refine aE ?_ ?_)<;>intro hc<;>try(exfalso;omega)))
 all_goals exact rfl
theorem lg (a b:Int):Pure Tryz.prog 217 [i64 a,i64 b] (fun r=>r=i64 (tr (decide (a≠b)))):=by
 refine aD VT rfl ?_
 repeat' (first|refine aQ ?_|exact aC|with_reducible refine aB ?_ ?_|(apply aA;(·exact cL))|((with_reducible refine aM (dF _) ?_ ?_);(·exact cI))|((with_reducible refine aG (fun _=>dF _) ?_ ?_);(·exact cI))|((with_reducible refine aJ (dF _) ?_ ?_);(·exact cI))|((with_reducible refine aL (fun _=>dF _) ?_ ?_);(·exact cI))|refine aH ?_|((with_reducible refine aE ?_ ?_)<;>intro hc<;>try(exfalso;omega)))
 all_goals exact rfl
theorem na (a b:Int):Pure Tryz.prog 218 [i64 a,i64 b] (fun r=>r=i64 (tr (decide (a<b)))):=by
 refine aD VU rfl ?_
 repeat' (first|refine aQ ?_|exact aC|with_reducible refine aB ?_ ?_|(apply aA;(·exact cL))|((with_reducible refine aM (dF _) ?_ ?_);(·exact cI))|((with_reducible refine aG (fun _=>dF _) ?_ ?_);(·exact cI))|((with_reducible refine aJ (dF _) ?_ ?_);(·exact cI))|((with_reducible refine aL (fun _=>dF _) ?_ ?_);(·exact cI))|refine aH ?_|((with_reducible refine aE ?_ ?_)<;>intro hc<;>try(exfalso;omega)))
 all_goals exact rfl
theorem nc (a b:Int):Pure Tryz.prog 219 [i64 a,i64 b] (fun r=>r=i64 (tr (decide (a<=b)))):=by
 refine aD VV rfl ?_
 repeat' (first|refine aQ ?_|exact aC|with_reducible refine aB ?_ ?_|(apply aA;(·exact cL))|((with_reducible refine aM (dF _) ?_ ?_);(·exact cI))|((with_reducible refine aG (fun _=>dF _) ?_ ?_);(·exact cI))|((with_reducible refine aJ (dF _) ?_ ?_);(·exact cI))|((with_reducible refine aL (fun _=>dF _) ?_ ?_);(·exact cI))|refine aH ?_|((with_reducible refine aE ?_ ?_)<;>intro hc<;>try(exfalso;omega)))
 all_goals exact rfl
theorem lS (a b:Int):Pure Tryz.prog 220 [i64 a,i64 b] (fun r=>r=i64 (tr (decide (b<a)))):=by
 refine aD VW rfl ?_
 repeat' (first|refine aQ ?_|exact aC|with_reducible refine aB ?_ ?_|(apply aA;(·exact cL))|((with_reducible refine aM (dF _) ?_ ?_);(·exact cI))|((with_reducible refine aG (fun _=>dF _) ?_ ?_);(·exact cI))|((with_reducible refine aJ (dF _) ?_ ?_);(·exact cI))|((with_reducible refine aL (fun _=>dF _) ?_ ?_);(·exact cI))|refine aH ?_|((with_reducible refine aE ?_ ?_)<;>intro hc<;>try(exfalso;omega)))
 all_goals exact rfl
theorem lj (a b:Int):Pure Tryz.prog 221 [i64 a,i64 b] (fun r=>r=i64 (tr (decide (b<=a)))):=by
 refine aD VX rfl ?_
 repeat' (first|refine aQ ?_|exact aC|with_reducible refine aB ?_ ?_|(apply aA;(·exact cL))|((with_reducible refine aM (dF _) ?_ ?_);(·exact cI))|((with_reducible refine aG (fun _=>dF _) ?_ ?_);(·exact cI))|((with_reducible refine aJ (dF _) ?_ ?_);(·exact cI))|((with_reducible refine aL (fun _=>dF _) ?_ ?_);(·exact cI))|refine aH ?_|((with_reducible refine aE ?_ ?_)<;>intro hc<;>try(exfalso;omega)))
 all_goals exact rfl
theorem ln (a:Int):Pure Tryz.prog 222 [i64 a] (fun r=>r=i64 (x7 (0 - a))):=by
 refine aD VY rfl ?_
 repeat' (first|refine aQ ?_|exact aC|with_reducible refine aB ?_ ?_|(apply aA;(·exact cL))|refine aH ?_|((with_reducible refine aE ?_ ?_)<;>intro hc<;>try(exfalso;omega)))
 all_goals exact rfl
theorem ph (a:Int):Pure Tryz.prog 223 [i64 a] (fun r=>r=i64 (tr (decide (a=0)))):=by
 refine aD VZ rfl ?_
 repeat' (first|refine aQ ?_|exact aC|with_reducible refine aB ?_ ?_|(apply aA;(·exact cL))|((with_reducible refine aM (dF _) ?_ ?_);(·exact cI))|((with_reducible refine aG (fun _=>dF _) ?_ ?_);(·exact cI))|((with_reducible refine aJ (dF _) ?_ ?_);(·exact cI))|((with_reducible refine aL (fun _=>dF _) ?_ ?_);(·exact cI))|refine aH ?_|((with_reducible refine aE ?_ ?_)<;>intro hc<;>try(exfalso;omega)))
 all_goals exact rfl
def QA:AV:= .agg [.sc .nilFunc, .sc .nilFunc, .fn (.func 206) [] [], .sc .nilFunc, .fn (.func 207) [] [], .sc .nilFunc, .fn (.func 208) [] [], .sc .nilFunc, .fn (.func 209) [] [], .sc .nilFunc, .fn (.func 210) [] [], .sc .nilFunc, .fn (.func 211) [] [], .sc .nilFunc, .fn (.func 212) [] [], .sc .nilFunc, .fn (.func 213) [] [], .sc .nilFunc, .fn (.func 214) [] [], .sc .nilFunc, .fn (.func 215) [] [], .sc .nilFunc, .fn (.func 216) [] [], .sc .nilFunc, .fn (.func 217) [] [], .sc .nilFunc, .fn (.func 218) [] [], .sc .nilFunc, .fn (.func 219) [] [], .sc .nilFunc, .fn (.func 220) [] [], .sc .nilFunc, .fn (.func 221) [] [], .sc .nilFunc, .sc .nilFunc, .fn (.func 222) [] [], .sc .nilFunc, .fn (.func 223) [] []]
theorem mz:Pure Tryz.prog 197 [] (fun r=>r=QA):=by
 refine cm ?_ (by simp[QA,cK,cX])
 refine aI VE rfl ?_
 refine cV ?_
 exact⟨rfl⟩
def MJ (op a b:Int):Int:=if op=1 then x7 (a+b) else if op=2 then x7 (a - b) else if op=3 then x7 (a * b) else if op=4 then zY a b else if op=5 then xK a b else if op=6 then S8 a b else if op=7 then ZH a b else if op=8 then W9 a b else if op=9 then OY a b else if op=10 then HU a b else if op=11 then tr (decide (a=b)) else if op=12 then tr (decide (a≠b)) else if op=13 then tr (decide (a<b)) else if op=14 then tr (decide (a<=b)) else if op=15 then tr (decide (b<a)) else tr (decide (b<=a))
def LL (op a:Int):Int:=if op=17 then x7 (0 - a) else tr (decide (a=0))
theorem wA {op:Int} (h:dn op=true):op=1\/op=2\/op=3\/op=4\/op=5\/op=6\/op=7\/op=8\/op=9\/op=10\/op=11\/op=12\/op=13\/op=14\/op=15\/op=16:=by
 simp only[dn,Bool.and_eq_true,decide_eq_true_eq] at h;omega
theorem QF (op a b:Int) (h:dn op=true):Pure Tryz.prog 160 [u8 op,i64 a,i64 b] (fun r=>r= .dD [i64 (MJ op a b),i64 0]):=by
 refine aD US rfl ?_
 rcases wA h with rfl|rfl|rfl|rfl|rfl|rfl|rfl|rfl|rfl|rfl|rfl|rfl|rfl|rfl|rfl|rfl
 all_goals repeat' (first|refine aQ ?_|exact aC|with_reducible refine aB ?_ ?_|(apply aA;(·exact cL))|((with_reducible refine aM (fj _ (by omega)) ?_ ?_);(·exact cI))|((with_reducible refine aG (fun _=>fj _ (by omega)) ?_ ?_);(·exact cI))|((with_reducible refine aJ (fj _ (by omega)) ?_ ?_);(·exact cI))|((with_reducible refine aL (fun _=>fj _ (by omega)) ?_ ?_);(·exact cI))|refine aK (mz) ?_|((with_reducible refine aM (pF _ _) ?_ ?_);(·exact cI))|((with_reducible refine aG (fun _=>pF _ _) ?_ ?_);(·exact cI))|((with_reducible refine aJ (pF _ _) ?_ ?_);(·exact cI))|((with_reducible refine aL (fun _=>pF _ _) ?_ ?_);(·exact cI))|((with_reducible refine aM (qJ _ _) ?_ ?_);(·exact cI))|((with_reducible refine aG (fun _=>qJ _ _) ?_ ?_);(·exact cI))|((with_reducible refine aJ (qJ _ _) ?_ ?_);(·exact cI))|((with_reducible refine aL (fun _=>qJ _ _) ?_ ?_);(·exact cI))|((with_reducible refine aM (pd _ _) ?_ ?_);(·exact cI))|((with_reducible refine aG (fun _=>pd _ _) ?_ ?_);(·exact cI))|((with_reducible refine aJ (pd _ _) ?_ ?_);(·exact cI))|((with_reducible refine aL (fun _=>pd _ _) ?_ ?_);(·exact cI))|((with_reducible refine aM (jE _ _) ?_ ?_);(·exact cI))|((with_reducible refine aG (fun _=>jE _ _) ?_ ?_);(·exact cI))|((with_reducible refine aJ (jE _ _) ?_ ?_);(·exact cI))|((with_reducible refine aL (fun _=>jE _ _) ?_ ?_);(·exact cI))|((with_reducible refine aM (qA _ _) ?_ ?_);(·exact cI))|((with_reducible refine aG (fun _=>qA _ _) ?_ ?_);(·exact cI))|((with_reducible refine aJ (qA _ _) ?_ ?_);(·exact cI))|((with_reducible refine aL (fun _=>qA _ _) ?_ ?_);(·exact cI))|((with_reducible refine aM (pI _ _) ?_ ?_);(·exact cI))|((with_reducible refine aG (fun _=>pI _ _) ?_ ?_);(·exact cI))|((with_reducible refine aJ (pI _ _) ?_ ?_);(·exact cI))|((with_reducible refine aL (fun _=>pI _ _) ?_ ?_);(·exact cI))|((with_reducible refine aM (po _ _) ?_ ?_);(·exact cI))|((with_reducible refine aG (fun _=>po _ _) ?_ ?_);(·exact cI))|((with_reducible refine aJ (po _ _) ?_ ?_);(·exact cI))|((with_reducible refine aL (fun _=>po _ _) ?_ ?_);(·exact cI))|((with_reducible refine aM (qN _ _) ?_ ?_);(·exact cI))|((with_reducible refine aG (fun _=>qN _ _) ?_ ?_);(·exact cI))|((with_reducible refine aJ (qN _ _) ?_ ?_);(·exact cI))|((with_reducible refine aL (fun _=>qN _ _) ?_ ?_);(·exact cI))|((with_reducible refine aM (qD _ _) ?_ ?_);(·exact cI))|((with_reducible refine aG (fun _=>qD _ _) ?_ ?_);(·exact cI))|((with_reducible refine aJ (qD _ _) ?_ ?_);(·exact cI))|((with_reducible refine aL (fun _=>qD _ _) ?_ ?_);(·exact cI))|((with_reducible refine aM (qE _ _) ?_ ?_);(·exact cI))|((with_reducible refine aG (fun _=>qE _ _) ?_ ?_);(·exact cI))|((with_reducible refine aJ (qE _ _) ?_ ?_);(·exact cI))|((with_reducible refine aL (fun _=>qE _ _) ?_ ?_);(·exact cI))|((with_reducible refine aM (sD _ _) ?_ ?_);(·exact cI))|((with_reducible refine aG (fun _=>sD _ _) ?_ ?_);(·exact cI))|((with_reducible refine aJ (sD _ _) ?_ ?_);(·exact cI))|((with_reducible refine aL (fun _=>sD _ _) ?_ ?_);(·exact cI))|((with_reducible refine aM (lg _ _) ?_ ?_);(·exact cI))|((with_reducible refine aG (fun _=>lg _ _) ?_ ?_);(·exact cI))|((with_reducible refine aJ (lg _ _) ?_ ?_);(·exact cI))|((with_reducible refine aL (fun _=>lg _ _) ?_ ?_);(·exact cI))|((with_reducible refine aM (na _ _) ?_ ?_);(·exact cI))|((with_reducible refine aG (fun _=>na _ _) ?_ ?_);(·exact cI))|((with_reducible refine aJ (na _ _) ?_ ?_);(·exact cI))|((with_reducible refine aL (fun _=>na _ _) ?_ ?_);(·exact cI))|((with_reducible refine aM (nc _ _) ?_ ?_);(·exact cI))|((with_reducible refine aG (fun _=>nc _ _) ?_ ?_);(·exact cI))|((with_reducible refine aJ (nc _ _) ?_ ?_);(·exact cI))|((with_reducible refine aL (fun _=>nc _ _) ?_ ?_);(·exact cI))|((with_reducible refine aM (lS _ _) ?_ ?_);(·exact cI))|((with_reducible refine aG (fun _=>lS _ _) ?_ ?_);(·exact cI))|((with_reducible refine aJ (lS _ _) ?_ ?_);(·exact cI))|((with_reducible refine aL (fun _=>lS _ _) ?_ ?_);(·exact cI))|((with_reducible refine aM (lj _ _) ?_ ?_);(·exact cI))|((with_reducible refine aG (fun _=>lj _ _) ?_ ?_);(·exact cI))|((with_reducible refine aJ (lj _ _) ?_ ?_);(·exact cI))|((with_reducible refine aL (fun _=>lj _ _) ?_ ?_);(·exact cI))|refine aH ?_|((with_reducible refine aE ?_ ?_)<;>intro hc<;>try(exfalso;omega)))
 all_goals (first|exact rfl|trace_state)
theorem M1 (op a:Int) (h:op=17\/op=18):Pure Tryz.prog 161 [u8 op,i64 a] (fun r=>r= .dD [i64 (LL op a),i64 0]):=by
 refine aD UT rfl ?_
 rcases h with rfl|rfl
 all_goals repeat' (first|refine aQ ?_|exact aC|with_reducible refine aB ?_ ?_|(apply aA;(·exact cL))|((with_reducible refine aM (gT _) ?_ ?_);(·exact cI))|((with_reducible refine aG (fun _=>gT _) ?_ ?_);(·exact cI))|((with_reducible refine aJ (gT _) ?_ ?_);(·exact cI))|((with_reducible refine aL (fun _=>gT _) ?_ ?_);(·exact cI))|((with_reducible refine aM (fj _ (by omega)) ?_ ?_);(·exact cI))|((with_reducible refine aG (fun _=>fj _ (by omega)) ?_ ?_);(·exact cI))|((with_reducible refine aJ (fj _ (by omega)) ?_ ?_);(·exact cI))|((with_reducible refine aL (fun _=>fj _ (by omega)) ?_ ?_);(·exact cI))|refine aK (mz) ?_|((with_reducible refine aM (ln _) ?_ ?_);(·exact cI))|((with_reducible refine aG (fun _=>ln _) ?_ ?_);(·exact cI))|((with_reducible refine aJ (ln _) ?_ ?_);(·exact cI))|((with_reducible refine aL (fun _=>ln _) ?_ ?_);(·exact cI))|((with_reducible refine aM (ph _) ?_ ?_);(·exact cI))|((with_reducible refine aG (fun _=>ph _) ?_ ?_);(·exact cI))|((with_reducible refine aJ (ph _) ?_ ?_);(·exact cI))|((with_reducible refine aL (fun _=>ph _) ?_ ?_);(·exact cI))|refine aH ?_|((with_reducible refine aE ?_ ?_)<;>intro hc<;>try(exfalso;omega)))
 all_goals (first|exact rfl|trace_state)
structure fb where
 dy:Int
 node:Int
 kind:Int
 cG:Int
 word:Int
 put:Int
 deriving Inhabited,DecidableEq
def fb.cells (d:fb):List AV:=[i64 d.dy,i64 d.node,u8 d.kind,i64 d.cG,i64 d.word,i64 d.put]
abbrev fb.av (d:fb):AV:= .agg d.cells
def MS.val (m:MS) (t:Nat) (v:jh):Int:=if v.iM then(m.cA.getD t []).getD v.slot.toNat 0 else v.word
def MS.dw (m:MS) (t:Nat) (k:Int) (w:Int):MS:={ m with cA:=m.cA.set t ((m.cA.getD t []).set k.toNat w) }
def MS.nF (m:MS) (t:Nat) (n:Node):Int:=if dn n.op then MJ n.op (m.val t n.a) (m.val t n.b) else if n.op≠0 then LL n.op (m.val t n.a) else m.val t n.a
def MS.act (m:MS) (t:Nat) (n:Node):MS×Int×Int×Int×Int:=
 if n.kind=1 then(m.dw t n.slot (m.nF t n),n.next,0,m.nF t n,0)
 else if n.kind=2 then(m.dw t n.slot (m.mem.getD n.cG.toNat 0),n.next,n.cG,m.mem.getD n.cG.toNat 0,0)
 else if n.kind=3 then({ m with mem:=m.mem.set n.cG.toNat (m.val t n.a) },n.next,n.cG,m.val t n.a,0)
 else if n.kind=4 then({ m.dw t n.slot (m.mem.getD n.cG.toNat 0) with mem:=m.mem.set n.cG.toNat (m.val t n.a) },n.next,n.cG,m.mem.getD n.cG.toNat 0,m.val t n.a)
 else if n.kind=5 then({ m with hold:=m.hold.set n.cG.toNat t },n.next,n.cG,0,0)
 else if n.kind=6 then({ m with hold:=m.hold.set n.cG.toNat (-1) },n.next,n.cG,0,0)
 else if n.kind=7 then({ m with cJ:=m.cJ++[⟨t,m.val t n.a⟩] },n.next,0,m.val t n.a,0)
 else(m,if m.val t n.a=0 then n.qa else n.next,0,m.val t n.a,0)
def MS.step (u:bz) (m:MS) (t:Nat):MS×fb:=
 let n:=m.node u t
 let r:=m.act t n
 ({ r.1 with at_:=m.at_.set t r.2.1 },⟨t,m.at_.getD t 0,n.kind,r.2.2.1,r.2.2.2.1,r.2.2.2.2⟩)
section
theorem uL (n:Int):eT (x7 n):=by unfold eT x7;rw[IntKind.wrap_i64];omega
theorem RF {p:Prop} [Decidable p] {a b:Int} (h1:eT a) (h2:eT b):eT (if p then a else b):=by
 split
 ·exact h1
 ·exact h2
theorem QD (t:Bool):eT (tr t):=by unfold tr eT;split<;>omega
theorem OZ {a:Int} (h:eT a) (b:Int):eT (HU a b):=by
 unfold HU
 have hd:(1:Int)<=2^(min (w5 b).toNat 64):=Int.le_of_lt_add_one (by have:(0:Int)<2^(min (w5 b).toNat 64):=Int.pow_pos (by omega);omega)
 generalize (2:Int)^(min (w5 b).toNat 64)=d at *
 rw[Int.fdiv_eq_ediv_of_nonneg _ (by omega)]
 have h1:=Int.mul_ediv_add_emod a d
 have h2:=Int.emod_nonneg a (b:=d) (by omega)
 have h3:=Int.emod_lt_of_pos a (b:=d) (by omega)
 obtain⟨h4,h5⟩:=h
 generalize a /d=q at *
 generalize a%d=r at *
 constructor
 ·apply Int.not_lt.1
  intro hq
  have:d * (q+1)<=1 * (q+1):=Int.mul_le_mul_of_nonpos_right hd (by omega)
  rw[Int.mul_add] at this
  omega
 ·apply Int.not_le.1
  intro hq
  have:1 * q<=d * q:=Int.mul_le_mul_of_nonneg_right hd (by omega)
  omega
theorem PE {a b:Int} (ha:eT a) (op:Int):eT (MJ op a b):=by
 have hq:eT (zY a b):=by
  unfold zY
  split
  ·exact⟨by omega,by omega⟩
  ·split
   ·exact uL _
   ·exact uL _
 have hm:eT (xK a b):=by
  unfold xK
  split
  ·exact ha
  ·exact uL _
 unfold MJ
 repeat' (with_reducible refine RF ?_ ?_)
 all_goals first
  |exact QD _
  |exact OZ ha _
  |exact hq
  |exact hm
  |exact uL _
theorem OL (op a:Int):eT (LL op a):=by
 unfold LL
 split
 ·exact uL _
 ·exact QD _
theorem getD_none {α:Type} {l:List α} {k:Nat} {d:α} (h:l.length<=k):l.getD k d=d:=by simp[List.getD,List.getElem?_eq_none h]
section
variable {u:bz} {m:MS} {t:Nat}
theorem O1 (h:eH u m) (ht:t<u.bw.length) (k:Nat):eT ((m.cA.getD t []).getD k 0):=by
 by_cases hk:k<(m.cA.getD t []).length
 ·exact h.DA t ht _ (cT 0 hk)
 ·rw[getD_none (Nat.le_of_not_lt hk)]
  exact⟨by omega,by omega⟩
theorem DN (h:eH u m) (ht:t<u.bw.length) {v:jh} (hv:v.Wf):eT (m.val t v):=by
 unfold MS.val
 split
 ·exact O1 h ht _
 ·exact hv.word
theorem OX (h:eH u m) (ht:t<u.bw.length) {n:Node} (hn:n.Wf):eT (m.nF t n):=by
 unfold MS.nF
 split
 ·exact PE (DN h ht hn.a) _
 ·split
  ·exact OL _ _
  ·exact DN h ht hn.a
theorem oi {α:Type} {l:List α} {i:Nat} {a x:α} (h:x∈l.set i a):x∈l\/x=a:=by
 rcases List.mem_or_eq_of_mem_set h with h|h
 ·exact .inl h
 ·exact .inr h
theorem getD_set_ne {α:Type} {l:List α} {i j:Nat} {v d:α} (h:i≠j):(l.set i v).getD j d=l.getD j d:=by simp[List.getD,List.getElem?_set_ne h]
theorem eH.dw (h:eH u m) (k w:Int) (hw:eT w):eH u (m.dw t k w) where
 oM:=h.oM
 iC:=h.iC
 sl:=by simp only[MS.dw,List.length_set];exact h.sl
 AD:=fun s hs=>by
  simp only[MS.dw]
  by_cases e:t=s
  ·subst e
   rw[ec (by rw[h.sl];exact hs),List.length_set]
   exact h.AD t hs
  ·rw[getD_set_ne e];exact h.AD s hs
 DA:=fun s hs x hx=>by
  simp only[MS.dw] at hx
  by_cases e:t=s
  ·subst e
   rw[ec (by rw[h.sl];exact hs)] at hx
   rcases oi hx with hx|rfl
   ·exact h.DA t hs x hx
   ·exact hw
  ·rw[getD_set_ne e] at hx;exact h.DA s hs x hx
 ml:=h.ml
 mw:=h.mw
 hl:=h.hl
 hw:=h.hw
 pw:=h.pw
theorem eH.mem (h:eH u m) (k:Nat) (w:Int) (hw:eT w):eH u { m with mem:=m.mem.set k w } where
 oM:=h.oM
 iC:=h.iC
 sl:=h.sl
 AD:=h.AD
 DA:=h.DA
 ml:=by simp only[List.length_set];exact h.ml
 mw:=fun x hx=>by
  rcases oi hx with hx|rfl
  ·exact h.mw x hx
  ·exact hw
 hl:=h.hl
 hw:=h.hw
 pw:=h.pw
theorem eH.hold (h:eH u m) (k:Nat) (w:Int) (hw:-1<=w/\w<u.bw.length):eH u { m with hold:=m.hold.set k w } where
 oM:=h.oM
 iC:=h.iC
 sl:=h.sl
 AD:=h.AD
 DA:=h.DA
 ml:=h.ml
 mw:=h.mw
 hl:=by simp only[List.length_set];exact h.hl
 hw:=fun x hx=>by
  rcases oi hx with hx|rfl
  ·exact h.hw x hx
  ·exact hw
 pw:=h.pw
theorem eH.print (h:eH u m) (p:dP) (hp:0<=p.dy/\p.dy<u.bw.length/\eT p.word):eH u { m with cJ:=m.cJ++[p] } where
 oM:=h.oM
 iC:=h.iC
 sl:=h.sl
 AD:=h.AD
 DA:=h.DA
 ml:=h.ml
 mw:=h.mw
 hl:=h.hl
 hw:=h.hw
 pw:=fun x hx=>by
  rcases List.mem_append.1 hx with hx|hx
  ·exact h.pw x hx
  ·simp only[List.mem_cons,List.not_mem_nil,or_false] at hx
   subst hx;exact hp
theorem eH.FA (h:eH u m) (k:Int) (hk:t<u.bw.length->0<=k/\k<(u.gr t).nodes.length):eH u { m with at_:=m.at_.set t k } where
 oM:=by simp only[List.length_set];exact h.oM
 iC:=fun s hs=>by
  by_cases e:t=s
  ·subst e
   dsimp only
   rw[ec (by rw[h.oM];exact hs)]
   exact hk hs
  ·dsimp only
   rw[getD_set_ne e];exact h.iC s hs
 sl:=h.sl
 AD:=h.AD
 DA:=h.DA
 ml:=h.ml
 mw:=h.mw
 hl:=h.hl
 hw:=h.hw
 pw:=h.pw
theorem jj (h:eH u m) (ht:t<u.bw.length) (hb:m.ja u t=0):(m.node u t).kind≠9/\¬((m.node u t).kind=5/\0<=m.hold.getD (m.node u t).cG.toNat 0):=by
 unfold MS.ja at hb
 rw[if_neg (by have:=h.oM;omega),Int.toNat_natCast] at hb
 refine⟨fun e=> ?_,fun e=> ?_⟩
 ·rw[if_pos e] at hb;cases hb
 ·rw[if_neg (by omega)] at hb
  rw[if_pos e] at hb
  cases hb
theorem EO (hu:u.Wf) (h:eH u m) (ht:t<u.bw.length):(m.node u t).Wf:=by
 have h1:=h.iC t ht
 exact(hu.bw _ (cT default ht)).nodes _ (cT default (show(m.at_.getD t 0).toNat<(u.gr t).nodes.length by omega))
theorem QM (hu:u.Wf) (hr:ca u) (h:eH u m) (ht:t<u.bw.length):eH u (m.act t (m.node u t)).1:=by
 have hn:=h.node hr ht
 have hw:=EO hu h ht
 have hst:=OX h ht hw
 have hva:=DN h ht hw.a
 have hmw:eT (m.mem.getD (m.node u t).cG.toNat 0):=by
  by_cases hk:(m.node u t).cG.toNat<m.mem.length
  ·exact h.mw _ (cT 0 hk)
  ·rw[getD_none (Nat.le_of_not_lt hk)];exact⟨by omega,by omega⟩
 generalize m.node u t=n at *
 unfold MS.act
 split
 ·exact h.dw _ _ hst
 split
 ·exact h.dw _ _ hmw
 split
 ·exact h.mem _ _ hva
 split
 ·exact(h.dw (t:=t) n.slot _ hmw).mem _ _ hva
 split
 ·exact h.hold _ _ ⟨by omega,by omega⟩
 split
 ·exact h.hold _ _ ⟨by omega,by omega⟩
 split
 ·exact h.print _ ⟨by dsimp only;omega,by dsimp only;omega,hva⟩
 ·exact h
theorem I1 (hr:ca u) (h:eH u m) (ht:t<u.bw.length) (hk:(m.node u t).kind≠9):0<=(m.act t (m.node u t)).2.1/\(m.act t (m.node u t)).2.1<(u.gr t).nodes.length:=by
 have hn:=h.node hr ht
 generalize m.node u t=n at *
 have hkd:=hn.kind
 have hnx:=hn.next.1 (by unfold iS;exact decide_eq_true (by omega))
 unfold MS.act
 repeat' split
 all_goals first
  |exact hnx
  |exact hn.qa.1 (by omega)
theorem xV (hu:u.Wf) (hr:ca u) (h:eH u m) (ht:t<u.bw.length) (hk:(m.node u t).kind≠9):eH u (m.step u t).1:=by
 have h1:=QM hu hr h ht
 have h2:=I1 hr h ht hk
 have h3:(m.step u t).1={ (m.act t (m.node u t)).1 with at_:=m.at_.set t (m.act t (m.node u t)).2.1 }:=rfl
 have h4:(m.act t (m.node u t)).1.at_=m.at_:=by
  unfold MS.act
  repeat' split
  all_goals rfl
 rw[h3,<-h4]
 exact h1.FA _ fun _=>h2
end
end
section
structure ML where
 mr:Nat
 a:Nat
 s:Nat
 me:Nat
 ho:Nat
 pr:Nat
 ids:List Nat
abbrev ML.all (L:ML):List Nat:=L.mr::L.a::L.s::L.me::L.ho::L.pr::L.ids
abbrev ML.it (L:ML) (t:Nat):Nat:=L.ids.getD t 0
abbrev ML.At (L:ML) (u:bz) (m:MS) (H:Hp):Prop:=SM u m L.mr L.a L.s L.me L.ho L.pr L.ids H
theorem SM.BK {u:bz} {m:MS} {mr a s me ho pr:Nat} {ids:List Nat} {H:Hp} (h:SM u m mr a s me ho pr ids H) (k:Nat):cu.dX H (k+4) (.pt mr 1 0 0)=m.fz u:=by
 obtain⟨d1,h1⟩:=h.rM
 obtain⟨d2,h2⟩:=h.rA
 obtain⟨d3,h3⟩:=h.rS
 obtain⟨d4,h4⟩:=h.rE
 obtain⟨d5,h5⟩:=h.rH
 obtain⟨d6,h6⟩:=h.rP
 have hsl:(dR ids m.cA).length=m.cA.length:=by unfold dR;rw[List.length_map,List.length_zip,h.len];simp
 have hs:(dR ids m.cA).map (cu.dX H (k+1))=m.cA.map cR:=by
  apply List.ext_getElem (by simp[hsl])
  intro t q1 q2
  have ht:t<m.cA.length:=by simpa using q2
  have hti:t<ids.length:=by rw[h.len];exact ht
  obtain⟨d,hd⟩:=h.rL t ht
  rw[show ids.getD t 0=ids[t] by simp[List.getD,hti],show m.cA.getD t []=m.cA[t] by simp[List.getD,ht]] at hd
  rw[List.getElem_map,List.getElem_map]
  simp only[dR,List.getElem_map,List.getElem_zip]
  rw[dI hd (by simp),cn _ ((cD _ _).2 fun _ _=>by simp[cK])]
 simp only[cu.dX,h1]
 simp only[List.length_cons,List.length_nil,if_true,List.map_cons,List.map_nil,MS.rows]
 rw[pS]
 simp only[List.map_cons,List.map_nil]
 rw[dI h2 (by simp),dI h3 hsl,dI h4 (by simp),dI h5 (by simp),dI h6 (by simp),hs]
 rw[cn _ ((cD _ _).2 fun _ _=>by simp[cK]),cn _ ((cD _ _).2 fun _ _=>by simp[cK]),cn _ ((cD _ _).2 fun _ _=>by simp[cK]),cn _ ((cD _ _).2 fun _ _=>by simp[cK])]
 rw[dM _ (show cK 0 (cE u.shared) by simp[cK,cD]),dM _ (show cK 0 (cE u.cB) by simp[cK,cD]),dM _ (show cK 0 (cW u.bw) by simp[cK,cD])]
 rfl
section
variable {u:bz} {m:MS} {L:ML} {H H':Hp}
theorem gl {p:Prop} (h:p:=by first|assumption|(refine Ne.symm ?_;assumption)):p:=h
theorem ML.At.mem (h:L.At u m H):(∀x∈[L.a,L.s,L.me,L.ho,L.pr],x∈L.all):=by
 intro x hx
 simp only[List.mem_cons,List.not_mem_nil,or_false] at hx
 simp only[ML.all,List.mem_cons]
 omega
theorem lh (h:L.At u m H) {t:Nat} (ht:t<m.cA.length):L.it t∈L.all:=by
 have:L.it t∈L.ids:=eA (by rw[h.len];exact ht)
 simp only[ML.all,List.mem_cons]
 exact .inr (.inr (.inr (.inr (.inr (.inr this)))))
theorem TS (h:L.At u m H) {t s:Nat} (ht:t<m.cA.length) (hs:s<m.cA.length) (e:s≠t):L.it s≠L.it t:=by
 have h1:=(List.nodup_cons.1 (List.nodup_cons.1 (List.nodup_cons.1 (List.nodup_cons.1 (List.nodup_cons.1 (List.nodup_cons.1 h.nodup).2).2).2).2).2).2
 have hl:=h.len
 intro he
 have ht':t<L.ids.length:=by omega
 have hs':s<L.ids.length:=by omega
 have:L.ids[s]=L.ids[t]:=by simpa[ML.it,List.getD,ht',hs'] using he
 exact e ((List.getElem_inj h1).1 this)
structure ML.PJ (L:ML) (t:Nat):Prop where
 ne:L.mr≠L.a/\L.mr≠L.s/\L.mr≠L.me/\L.mr≠L.ho/\L.mr≠L.pr/\L.a≠L.s/\L.a≠L.me/\L.a≠L.ho/\L.a≠L.pr/\L.s≠L.me/\L.s≠L.ho/\L.s≠L.pr/\L.me≠L.ho/\L.me≠L.pr/\L.ho≠L.pr
 it:L.it t≠L.mr/\L.it t≠L.a/\L.it t≠L.s/\L.it t≠L.me/\L.it t≠L.ho/\L.it t≠L.pr
theorem apart (h:L.At u m H) {t:Nat} (ht:t<m.cA.length):L.PJ t:=by
 have hn:=h.nodup
 have hi:L.it t∈L.ids:=eA (by rw[h.len];exact ht)
 have hne:∀x,x∉L.ids->L.it t≠x:=fun x hx e=>hx (e▸hi)
 simp only[List.nodup_cons,List.mem_cons,not_or] at hn
 obtain⟨⟨a1,a2,a3,a4,a5,a6⟩,⟨b1,b2,b3,b4,b5⟩,⟨c1,c2,c3,c4⟩,⟨d1,d2,d3⟩,⟨e1,e2⟩,f1,_⟩:=hn
 exact⟨⟨a1,a2,a3,a4,a5,b1,b2,b3,b4,c1,c2,c3,d1,d2,e1⟩,hne _ a6,hne _ b5,hne _ c4,hne _ d3,hne _ e2,hne _ f1⟩
theorem ML.At.c8 (h:L.At u m H) (hk:∀y∈L.all,bu H' y=bu H y):L.At u m H':=by
 have hm:=h.mem
 obtain⟨d1,h1⟩:=h.rM
 obtain⟨d2,h2⟩:=h.rA
 obtain⟨d3,h3⟩:=h.rS
 obtain⟨d4,h4⟩:=h.rE
 obtain⟨d5,h5⟩:=h.rH
 obtain⟨d6,h6⟩:=h.rP
 refine⟨⟨d1,(hk _ (by simp)).trans h1⟩,⟨d2,(hk _ (hm _ (by simp))).trans h2⟩,⟨d3,(hk _ (hm _ (by simp))).trans h3⟩,fun t ht=> ?_,⟨d4,(hk _ (hm _ (by simp))).trans h4⟩,⟨d5,(hk _ (hm _ (by simp))).trans h5⟩,⟨d6,(hk _ (hm _ (by simp))).trans h6⟩,h.len,h.nodup⟩
 obtain⟨d,hd⟩:=h.rL t ht
 exact⟨d,(hk _ (lh h ht)).trans hd⟩
theorem ML.At.dw (h:L.At u m H) {t:Nat} (ht:t<m.cA.length) (k w:Int) (hit:∃d,bu H' (L.it t)=some (.row 2 1 d (((m.cA.getD t []).map i64).set k.toNat (i64 w)))) (hk:∀y∈L.all,y≠L.it t->bu H' y=bu H y):L.At u (m.dw t k w) H':=by
 obtain⟨-,n1,n2,n3,n4,n5,n6⟩:=apart h ht
 have hm:=h.mem
 obtain⟨d1,h1⟩:=h.rM
 obtain⟨d2,h2⟩:=h.rA
 obtain⟨d3,h3⟩:=h.rS
 obtain⟨d4,h4⟩:=h.rE
 obtain⟨d5,h5⟩:=h.rH
 obtain⟨d6,h6⟩:=h.rP
 have hl:(m.dw t k w).cA.length=m.cA.length:=by simp[MS.dw]
 have hrow:dR L.ids (m.dw t k w).cA=dR L.ids m.cA:=by
  unfold dR MS.dw
  apply List.ext_getElem (by simp)
  intro i q1 q2
  simp only[List.getElem_map,List.getElem_zip,AV.sl.injEq,true_and]
  rw[List.getElem_set]
  have hi:i<m.cA.length:=by simp at q2;omega
  split
  ·rename_i e;subst e;rw[List.length_set];simp[List.getD,hi]
  ·rfl
 refine⟨⟨d1, ?_⟩,⟨d2,(hk _ (hm _ (by simp)) gl).trans h2⟩,⟨d3,by rw[hrow];exact(hk _ (hm _ (by simp)) gl).trans h3⟩,fun s hs=> ?_,⟨d4,(hk _ (hm _ (by simp)) gl).trans h4⟩,⟨d5,(hk _ (hm _ (by simp)) gl).trans h5⟩,⟨d6,(hk _ (hm _ (by simp)) gl).trans h6⟩,by rw[hl];exact h.len,h.nodup⟩
 ·rw[show(m.dw t k w).rows u L.a L.s L.me L.ho L.pr=m.rows u L.a L.s L.me L.ho L.pr by simp[MS.rows,MS.dw]]
  exact(hk _ (by simp) gl).trans h1
 ·rw[hl] at hs
  by_cases e:s=t
  ·subst e
   obtain⟨d,hd⟩:=hit
   refine⟨d,hd.trans ?_⟩
   rw[show(m.dw s k w).cA.getD s []=(m.cA.getD s []).set k.toNat w from ec hs,List.map_set]
  ·obtain⟨d,hd⟩:=h.rL s hs
   refine⟨d, ?_⟩
   rw[show(m.dw t k w).cA.getD s []=m.cA.getD s [] from getD_set_ne (Ne.symm e)]
   exact(hk _ (lh h hs) (TS h ht hs e)).trans hd
theorem ML.At.ft (h:L.At u m H) {t:Nat} (ht:t<m.cA.length) (k w:Int) (hme:∃d,bu H' L.me=some (.row 2 1 d ((m.mem.map i64).set k.toNat (i64 w)))) (hk:∀y∈L.all,y≠L.me->bu H' y=bu H y):L.At u { m with mem:=m.mem.set k.toNat w } H':=by
 obtain⟨⟨a1,a2,a3,a4,a5,b1,b2,b3,b4,c1,c2,c3,e1,e2,f1⟩,n1,n2,n3,n4,n5,n6⟩:=apart h ht
 have hm:=h.mem
 obtain⟨d1,h1⟩:=h.rM
 obtain⟨d2,h2⟩:=h.rA
 obtain⟨d3,h3⟩:=h.rS
 obtain⟨d4,h4⟩:=hme
 obtain⟨d5,h5⟩:=h.rH
 obtain⟨d6,h6⟩:=h.rP
 refine⟨⟨d1, ?_⟩,⟨d2,(hk _ (hm _ (by simp)) gl).trans h2⟩,⟨d3,(hk _ (hm _ (by simp)) gl).trans h3⟩,fun s hs=> ?_,⟨d4,by rw[List.map_set];exact h4⟩,⟨d5,(hk _ (hm _ (by simp)) gl).trans h5⟩,⟨d6,(hk _ (hm _ (by simp)) gl).trans h6⟩,h.len,h.nodup⟩
 ·rw[show({ m with mem:=m.mem.set k.toNat w }:MS).rows u L.a L.s L.me L.ho L.pr=m.rows u L.a L.s L.me L.ho L.pr by simp[MS.rows]]
  exact(hk _ (by simp) gl).trans h1
 ·obtain⟨d,hd⟩:=h.rL s hs
  obtain⟨m1,m2,m3,m4,m5,m6⟩:=(apart h hs).it
  exact⟨d,(hk _ (lh h hs) gl).trans hd⟩
theorem ML.At.yi (h:L.At u m H) {t:Nat} (ht:t<m.cA.length) (k w:Int) (hho:∃d,bu H' L.ho=some (.row 3 1 d ((m.hold.map i64).set k.toNat (i64 w)))) (hk:∀y∈L.all,y≠L.ho->bu H' y=bu H y):L.At u { m with hold:=m.hold.set k.toNat w } H':=by
 obtain⟨⟨a1,a2,a3,a4,a5,b1,b2,b3,b4,c1,c2,c3,e1,e2,f1⟩,n1,n2,n3,n4,n5,n6⟩:=apart h ht
 have hm:=h.mem
 obtain⟨d1,h1⟩:=h.rM
 obtain⟨d2,h2⟩:=h.rA
 obtain⟨d3,h3⟩:=h.rS
 obtain⟨d4,h4⟩:=h.rE
 obtain⟨d5,h5⟩:=hho
 obtain⟨d6,h6⟩:=h.rP
 refine⟨⟨d1, ?_⟩,⟨d2,(hk _ (hm _ (by simp)) gl).trans h2⟩,⟨d3,(hk _ (hm _ (by simp)) gl).trans h3⟩,fun s hs=> ?_,⟨d4,(hk _ (hm _ (by simp)) gl).trans h4⟩,⟨d5,by rw[List.map_set];exact h5⟩,⟨d6,(hk _ (hm _ (by simp)) gl).trans h6⟩,h.len,h.nodup⟩
 ·rw[show({ m with hold:=m.hold.set k.toNat w }:MS).rows u L.a L.s L.me L.ho L.pr=m.rows u L.a L.s L.me L.ho L.pr by simp[MS.rows]]
  exact(hk _ (by simp) gl).trans h1
 ·obtain⟨d,hd⟩:=h.rL s hs
  obtain⟨m1,m2,m3,m4,m5,m6⟩:=(apart h hs).it
  exact⟨d,(hk _ (lh h hs) gl).trans hd⟩
theorem ML.At.FA (h:L.At u m H) {t:Nat} (ht:t<m.cA.length) (k:Nat) (w:Int) (hat:∃d,bu H' L.a=some (.row 3 1 d ((m.at_.map i64).set k (i64 w)))) (hk:∀y∈L.all,y≠L.a->bu H' y=bu H y):L.At u { m with at_:=m.at_.set k w } H':=by
 obtain⟨⟨a1,a2,a3,a4,a5,b1,b2,b3,b4,c1,c2,c3,e1,e2,f1⟩,n1,n2,n3,n4,n5,n6⟩:=apart h ht
 have hm:=h.mem
 obtain⟨d1,h1⟩:=h.rM
 obtain⟨d2,h2⟩:=hat
 obtain⟨d3,h3⟩:=h.rS
 obtain⟨d4,h4⟩:=h.rE
 obtain⟨d5,h5⟩:=h.rH
 obtain⟨d6,h6⟩:=h.rP
 refine⟨⟨d1, ?_⟩,⟨d2,by rw[List.map_set];exact h2⟩,⟨d3,(hk _ (hm _ (by simp)) gl).trans h3⟩,fun s hs=> ?_,⟨d4,(hk _ (hm _ (by simp)) gl).trans h4⟩,⟨d5,(hk _ (hm _ (by simp)) gl).trans h5⟩,⟨d6,(hk _ (hm _ (by simp)) gl).trans h6⟩,h.len,h.nodup⟩
 ·rw[show({ m with at_:=m.at_.set k w }:MS).rows u L.a L.s L.me L.ho L.pr=m.rows u L.a L.s L.me L.ho L.pr by simp[MS.rows]]
  exact(hk _ (by simp) gl).trans h1
 ·obtain⟨d,hd⟩:=h.rL s hs
  obtain⟨m1,m2,m3,m4,m5,m6⟩:=(apart h hs).it
  exact⟨d,(hk _ (lh h hs) gl).trans hd⟩
theorem ML.At.CI (h:L.At u m H) {t:Nat} (ht:t<m.cA.length) (p:dP) (hmr:∃d,bu H' L.mr=some (.row 114 8 d [({ m with cJ:=m.cJ++[p] }:MS).rows u L.a L.s L.me L.ho L.pr])) (hpr:∃d,bu H' L.pr=some (.row 155 2 d (m.cJ.map dP.av++[p.av]))) (hk:∀y∈L.all,y≠L.pr->y≠L.mr->bu H' y=bu H y):L.At u { m with cJ:=m.cJ++[p] } H':=by
 obtain⟨⟨a1,a2,a3,a4,a5,b1,b2,b3,b4,c1,c2,c3,e1,e2,f1⟩,n1,n2,n3,n4,n5,n6⟩:=apart h ht
 have hm:=h.mem
 obtain⟨d2,h2⟩:=h.rA
 obtain⟨d3,h3⟩:=h.rS
 obtain⟨d4,h4⟩:=h.rE
 obtain⟨d5,h5⟩:=h.rH
 obtain⟨d6,h6⟩:=hpr
 refine⟨hmr,⟨d2,(hk _ (hm _ (by simp)) gl gl).trans h2⟩,⟨d3,(hk _ (hm _ (by simp)) gl gl).trans h3⟩,fun s hs=> ?_,⟨d4,(hk _ (hm _ (by simp)) gl gl).trans h4⟩,⟨d5,(hk _ (hm _ (by simp)) gl gl).trans h5⟩,⟨d6,by rw[List.map_append];exact h6⟩,h.len,h.nodup⟩
 obtain⟨d,hd⟩:=h.rL s hs
 obtain⟨m1,m2,m3,m4,m5,m6⟩:=(apart h hs).it
 exact⟨d,(hk _ (lh h hs) gl gl).trans hd⟩
end
end
def AC (x:AV) (t:Int) (n:Node) (d:fb):List AV:=[x,i64 t,u8 n.kind,u8 n.op,i64 n.slot,i64 n.cG,bl n.a.iM,i64 n.a.slot,i64 n.a.word,bl n.b.iM,i64 n.b.slot,i64 n.b.word,i64 n.next,i64 n.qa,i64 n.origin,i64 d.dy,i64 d.node,u8 d.kind,i64 d.cG,i64 d.word,i64 d.put]
abbrev oB (u:bz) (m:MS) (t:Int) (n:Node) (d:fb):AV:= .ip 21 .any [.agg (AC (m.fz u) t n d)] 0 0
@[simp] theorem XP (k:Nat) (u:bz) (m:MS) (t:Int) (n:Node) (d:fb):cX k (AC (m.fz u) t n d):=by
  simp[cK,cX,AC]
structure uh (u:bz) (m:MS) (t:Nat) (n:Node) (d:fb) (ab:Nat) (L:ML) (H:Hp):Prop where
 M:L.At u m H
 row:∃dd,bu H ab=some (.row 118 21 dd [.agg (AC (.pt L.mr 1 0 0) t n d)])
 out:ab∉L.all
theorem uh.dX {u:bz} {m:MS} {t:Nat} {n:Node} {d:fb} {ab:Nat} {L:ML} {H:Hp} (h:uh u m t n d ab L H):cu.dX H 6 (.pt ab 1 0 0)=oB u m t n d:=by
 obtain⟨dd,hr⟩:=h.row
 rw[show cu.dX H 6 (.pt ab 1 0 0)= .ip 21 .any (([.agg (AC (.pt L.mr 1 0 0) t n d)]:List AV).map (cu.dX H 5)) 0 0 from RA hr rfl]
 simp only[List.map_cons,List.map_nil]
 rw[pS]
 simp only[AC,List.map_cons,List.map_nil]
 have:=h.M.BK 0
 rw[this]
 simp only[cu.dX]
 rfl
theorem uh.c8 {u:bz} {m:MS} {t:Nat} {n:Node} {d:fb} {ab:Nat} {L:ML} {H H':Hp} (h:uh u m t n d ab L H) (hk:∀y∈ab::L.all,bu H' y=bu H y):uh u m t n d ab L H':=by
 obtain⟨dd,hr⟩:=h.row
 exact⟨h.M.c8 fun y hy=>hk y (List.mem_cons_of_mem _ hy),⟨dd,(hk ab (by simp)).trans hr⟩,h.out⟩
def kr (m:MS) (t:Nat) (v:jh):Prop:=v.iM=true->0<=v.slot/\v.slot<(m.cA.getD t []).length
theorem j6 (u:bz) (m:MS) {t:Nat} (n:Node) (d:fb) (v:jh) (ht:t<m.cA.length) (hl:m.cA.length<=8) (hv:kr m t v):Pure Tryz.prog 158 [oB u m t n d,v.av] (fun r=>r=i64 (m.val t v)):=by
 unfold MS.val
 have e0:∀d,(m.cA.map cR).getD ((t:Int)).toNat d=cR (m.cA.getD t []):=fun d=>by rw[Int.toNat_natCast];exact dN cR m.cA t d ht
 have a0:(m.cA.map cR).length=m.cA.length:=by simp
 cases hs:v.iM with
 |true=>
  have r0:=hs
  obtain⟨v1,v2⟩:=hv hs
  have a1:((m.cA.getD t []).map i64).length=(m.cA.getD t []).length:=by simp
  have e1:=fun d=>jH (l:=m.cA.getD t []) (k:=v.slot) (by omega) d
  rw[if_pos rfl]
  refine aD P4 rfl ?_
  refine cV ?_
  first|exact rfl|trivial
 |false=>
  have r0:=hs
  rw[if_neg (by decide)]
  refine aD P4 rfl ?_
  refine cV ?_
  first|exact rfl|trivial
abbrev uS (u:bz) (m:MS) (t:Nat) (n:Node) (d:fb) (ab:Nat) (L:ML) (H0:Hp) (nx:Nat) (H:Hp) (k:Nat):Prop:=uh u m t n d ab L H/\nx<=k/\∀y,y<nx->y≠ab->y∉L.all->bu H y=bu H0 y
theorem qF {L:ML} {m:MS} {t:Nat} (hl:L.ids.length=m.cA.length) (ht:t<m.cA.length) (d:AV):(dR L.ids m.cA).getD t d= .sl (L.it t) (m.cA.getD t []).length:=by
 have h1:t<L.ids.length:=by omega
 have h2:t<(L.ids.zip m.cA).length:=by rw[List.length_zip];omega
 simp[dR,List.getD,ht,h1,List.getElem?_eq_getElem h2]
theorem qt {L:ML} {m:MS} (hl:L.ids.length=m.cA.length):(dR L.ids m.cA).length=m.cA.length:=by
 unfold dR;rw[List.length_map,List.length_zip,hl];simp
theorem db {x y:Nat} {l:List Nat} (h:x∉l) (hy:y∈l):y≠x:=fun e=>h (e▸hy)
set_option maxHeartbeats 1000000 in
theorem lE {u:bz} {m:MS} {t:Nat} {n:Node} {d:fb} {ab:Nat} {L:ML} {H:Hp} {nx:Nat} (h:uh u m t n d ab L H) (hlt:∀y∈ab::L.all,y<nx) (ht:t<m.cA.length) (hl:m.cA.length<=8) (hs:0<=n.slot/\n.slot<(m.cA.getD t []).length) (w:Int):
 cS Tryz.prog 162 [.pt ab 1 0 0,i64 w] H nx (fun _ H' k=>uS u (m.dw t n.slot w) t n { d with word:=w } ab L H nx H' k):=by
 obtain⟨hM,⟨dd,ra⟩,hout⟩:=h
 obtain⟨⟨a1,a2,a3,a4,a5,b1,b2,b3,b4,c1,c2,c3,e1,e2,f1⟩,n1,n2,n3,n4,n5,n6⟩:=apart hM ht
 have hmem:=hM.mem
 have k0:=hlt ab (by simp)
 have km:=hlt L.mr (by simp)
 have ks:=hlt L.s (List.mem_cons_of_mem _ (hmem _ (by simp)))
 have ki:=hlt (L.it t) (List.mem_cons_of_mem _ (lh hM ht))
 have o1:=db hout (List.mem_cons_self (a:=L.mr))
 have o2:=db hout (hmem L.s (by simp))
 have o3:=db hout (lh hM ht)
 obtain⟨d1,r1⟩:=hM.rM
 obtain⟨d3,r3⟩:=hM.rS
 obtain⟨d7,r7⟩:=hM.rL t ht
 have e0:∀d,(dR L.ids m.cA).getD ((t:Int)).toNat d= .sl (L.it t) (m.cA.getD t []).length:=fun d=>by rw[Int.toNat_natCast];exact qF hM.len ht d
 have q0:=qt hM.len
 have q1:((m.cA.getD t []).map i64).length=(m.cA.getD t []).length:=by simp
 obtain⟨hs1,hs2⟩:=hs
 refine aI UU rfl ?_
 refine cV ?_
 exact⟨⟨hM.dw ht _ _ ⟨_,bx⟩ fun y hy hne=>by have:=db hout hy;exact cC,⟨_,bx⟩,hout⟩,cZ,fun y y1 y2 y3=>by have y4:=db y3 (lh hM ht);exact cC⟩
end Go.Proofs.YtjopoheligmmoaaGreatDoor
