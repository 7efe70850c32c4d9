import Derived.Test.YtjopoheligmmoaaGreatDoorM27
import Derived.Test.YtjopoheligmmoaaGreatDoorM24
import Derived.Test.YtjopoheligmmoaaGreatDoorM28
import Derived.Test.YtjopoheligmmoaaGreatDoorM29
namespace Go.Proofs.YtjopoheligmmoaaGreatDoor
open Go Go.dA Go.Proofs
set_option linter.unusedSimpArgs false
set_option linter.unusedVariables false
set_option maxHeartbeats 1000000
set_option maxRecDepth 8000
structure de where
 eA:Int
 word:Int
 deriving Inhabited,DecidableEq
def de.cells (p:de):List AV:=[i64 p.eA,i64 p.word]
abbrev de.av (p:de):AV:= .agg p.cells
structure MS where
 at_:List Int
 cH:List (List Int)
 mem:List Int
 hold:List Int
 cW:List de
 deriving Inhabited,DecidableEq
abbrev c8 (l:List Int):AV:= .im 1 .any (l.map i64)
abbrev GN (l:List (List Int)):AV:= .im 1 .any (l.map c8)
abbrev gY (l:List de):AV:= .im 2 .any (l.map de.av)
def MS.cells (u:cF) (m:MS):List AV:=[cq u.shared,cq u.cI,dy u.cD,c8 m.at_,GN m.cH,c8 m.mem,c8 m.hold,gY m.cW]
abbrev MS.fz (u:cF) (m:MS):AV:= .ip 8 .any [.agg (m.cells u)] 0 0
@[simp] theorem UZ (n:Nat) (p:de):cg n p.cells:=by simp[de.cells,cg,cP]
@[simp] theorem Z3 (n:Nat) (u:cF) (m:MS):cg n (m.cells u):=by simp[MS.cells,cg,cP,cL]
theorem pN (n:Nat) (u:cF) (m:MS):cP n (m.fz u):=by simp[cP,cg]
structure eo (u:cF) (m:MS):Prop where
 rI:m.at_.length=u.cD.length
 iN:∀t,t<u.cD.length->0<=m.at_.getD t 0/\m.at_.getD t 0<(u.gr t).nodes.length
 sl:m.cH.length=u.cD.length
 EP:∀t,t<u.cD.length->(m.cH.getD t []).length=(u.gr t).cH.toNat
 ER:∀t,t<u.cD.length->∀w∈m.cH.getD t [],ec w
 ml:m.mem.length=u.shared.length
 mw:∀w∈m.mem,ec w
 hl:m.hold.length=u.cI.length
 hw:∀w∈m.hold,-1<=w/\w<u.cD.length
 pw:∀p∈m.cW,0<=p.eA/\p.eA<u.cD.length/\ec p.word
abbrev MS.node (u:cF) (m:MS) (t:Nat):Node:=(u.gr t).nd (m.at_.getD t 0).toNat
def MS.ly (u:cF) (m:MS) (t:Int):Int:=if t<0\/(m.at_.length:Int)<=t then 2 else if(m.node u t.toNat).kind=9 then 70 else if(m.node u t.toNat).kind=5/\0<=m.hold.getD (m.node u t.toNat).cV.toNat 0 then 71 else 0
theorem ints_at {l:List Int} {k:Nat} (h:k<l.length) (d:AV):(l.map i64).getD ((k:Int)).toNat d=i64 (l.getD k 0):=by
 rw[Int.toNat_natCast];exact dI i64 l k d h
theorem qR {l:List Int} {k:Int} (h:k.toNat<l.length) (d:AV):(l.map i64).getD k.toNat d=i64 (l.getD k.toNat 0):=dI i64 l k.toNat d h
theorem eo.node {u:cF} {m:MS} (hr:cj u) (h:eo u m) {t:Nat} (ht:t<u.cD.length):pB u (u.gr t) (m.node u t):=by
 have:=h.iN t ht
 exact(hr.gr ht).nodes _ (cQ default (by omega))
theorem FM {u:cF} {m:MS} {t:Int} (h:t<0\/(m.at_.length:Int)<=t):m.ly u t=2:=by unfold MS.ly;rw[if_pos h]
theorem BI (u:cF) (m:MS) (t:Int):Pure Tryz.prog 68 [m.fz u,i64 t] (fun r=>r=bl (decide (¬(t<0\/(m.at_.length:Int)<=t)))):=by
 refine aG aA3 rfl ?_
 refine ca ?_
 refine dw ?_
 rw[List.length_map]
 by_cases h1:0<=t<;>by_cases h2:t<m.at_.length<;>simp[h1,h2]<;>omega
set_option maxRecDepth 8000 in
set_option maxHeartbeats 2000000 in
theorem xQ (u:cF) (hr:cj u) (m:MS) (h:eo u m) (t:Int):Pure Tryz.prog 69 [m.fz u,i64 t] (fun r=>r=i64 (m.ly u t)):=by
 have c0:=BI u m t
 have hl:=h.rI
 by_cases ht:t<0\/(m.at_.length:Int)<=t
 ·rw[FM ht]
  rw[decide_eq_false (fun e=>e ht)] at c0
  refine aG NK rfl ?_
  refine ca ?_
  first|exact rfl|trivial
 ·rw[decide_eq_true ht] at c0
  obtain⟨k,rfl⟩:∃k:Nat,t=k:=⟨t.toNat,by omega⟩
  have hk:k<u.cD.length:=by omega
  have hbar:m.ly u k=if(m.node u k).kind=9 then 70 else if(m.node u k).kind=5/\0<=m.hold.getD (m.node u k).cV.toNat 0 then 71 else 0:=by
   unfold MS.ly;rw[if_neg ht,Int.toNat_natCast]
  rw[hbar]
  have hno:=h.node hr hk
  obtain⟨p0,p1⟩:=h.iN k hk
  have e0:=fun d=>kZ (l:=u.cD) hk d
  have e1:=fun d=>ints_at (l:=m.at_) (k:=k) (by omega) d
  obtain⟨j,hj⟩:∃j:Nat,m.at_.getD k 0=j:=⟨(m.at_.getD k 0).toNat,by omega⟩
  rw[hj] at e1 p1
  have hnd:m.node u k=(u.gr k).nd j:=by unfold MS.node;rw[hj,Int.toNat_natCast]
  rw[hnd] at hno ⊢
  have hgr:u.cD.getD k default=u.gr k:=rfl
  rw[hgr] at e0
  generalize u.gr k=g at *
  have e2:=fun d=>fx (l:=g.nodes) (i:=j) (by omega) d
  rw[show g.nodes.getD j default=g.nd j from rfl] at e2
  generalize g.nd j=n at *
  have a0:(u.cD.map cG.av).length=u.cD.length:=by simp
  have a1:(m.at_.map i64).length=u.cD.length:=by simp[hl]
  have a2:(g.nodes.map Node.av).length=g.nodes.length:=by simp
  have a3:(m.hold.map i64).length=u.cI.length:=by simp[h.hl]
  by_cases h9:n.kind=9
  ·have r0:=h9
   rw[if_pos h9]
   refine aG NK rfl ?_
   refine ca ?_
   first|exact rfl|trivial
  ·rw[if_neg h9]
   by_cases h5:n.kind=5
   ·have hth:=hno.cV.1 (by unfold fq;exact decide_eq_true (by omega))
    rw[if_pos (.inl h5)] at hth
    have hhl:=h.hl
    have e3:=fun d=>qR (l:=m.hold) (k:=n.cV) (by omega) d
    have r0:=h5
    by_cases hh:0<=m.hold.getD n.cV.toNat 0
    ·rw[if_pos ⟨h5,hh⟩]
     have r1:=decide_eq_true hh
     refine aG NK rfl ?_
     refine ca ?_
     first|exact rfl|trivial
    ·rw[if_neg fun e=>hh e.2]
     have r1:=decide_eq_false hh
     refine aG NK rfl ?_
     refine ca ?_
     first|exact rfl|trivial
   ·rw[if_neg fun e=>h5 e.1]
    have r1:=decide_eq_false h5
    refine aG NK rfl ?_
    refine ca ?_
    first|exact rfl|trivial
theorem LH (u:cF) (hr:cj u) (m:MS) (h:eo u m) (t:Int):Pure Tryz.prog 32 [m.fz u,i64 t] (fun r=>r=bl (decide (m.ly u t=0))):=by
 have c0:=xQ u hr m h t
 refine aG aAG rfl ?_
 refine ca ?_
 first|exact rfl|trivial
def MS.ended (u:cF) (m:MS):Bool:=(List.range m.at_.length).all fun t=>decide (m.ly u t=70)
theorem LX (u:cF) (hr:cj u) (m:MS) (h:eo u m):Pure Tryz.prog 67 [m.fz u] (fun r=>r=bl (m.ended u)):=by
 have hl:=h.rI
 have hgl:=hr.qD
 refine aG aA2 rfl ?_
 refine ca ?_
 rw[List.length_map]
 refine aI (fun i:Nat=>[(0,m.fz u),(10,i64 m.at_.length),(11,i64 i)]) (fun i H n=>i<=m.at_.length/\∀j:Nat,j<i->m.ly u j=70) (fun i=>m.at_.length - i) 0 cJ ⟨Nat.zero_le _,fun j hj=>by omega⟩ ?_
 rintro i H n ⟨hi,hall⟩
 by_cases hil:i<m.at_.length
 ·have c0:=xQ u hr m h i
  by_cases hb:m.ly u i=70
  ·have r0:=hb
   refine ca ?_
   exact⟨i+1,by omega,cJ,by omega,fun j hj=>by
    by_cases e:j=i
    ·rw[e];exact hb
    ·exact hall j (by omega)⟩
  ·have r0:=decide_eq_true hb
   refine ca ?_
   refine dw (Eq.symm ?_)
   unfold MS.ended
   rw[List.all_eq_false]
   exact⟨i,List.mem_range.2 hil,by simpa using hb⟩
 ·refine ca ?_
  refine dw (Eq.symm ?_)
  unfold MS.ended
  rw[List.all_eq_true]
  intro j hj
  exact decide_eq_true (hall j (by have:=List.mem_range.1 hj;omega))
structure dC where
 cW:List de
 mem:List Int
 ended:Bool
 deriving Inhabited,DecidableEq
def dC.cells (e:dC):List AV:=[gY e.cW,c8 e.mem,bl e.ended]
abbrev dC.av (e:dC):AV:= .agg e.cells
@[simp] theorem ZM (n:Nat) (e:dC):cg n e.cells:=by simp[dC.cells,cg,cP,cL]
def fI (x y:Int):Int:=if x<y then -1 else if y<x then 1 else 0
def u0:List Int->Int
 |[]=>0
 |x::l=>if x=0 then u0 l else x
def kH (p q:de):Int:=u0 [fI p.eA q.eA,fI p.word q.word]
def fK {α:Type} (f:α->α->Int):List α->List α->Int
 |[],[]=>0
 |[],_::_=>-1
 |_::_,[]=>1
 |x::a,y::b=>if f x y=0 then fK f a b else f x y
def xT (a b:Bool):Int:=if a=b then 0 else if b then -1 else 1
def gk (a b:dC):Int:=u0 [fK kH a.cW b.cW,fK fI a.mem b.mem,xT a.ended b.ended]
theorem xV {α:Type} (f:α->α->Int) (d:α) {a b:List α} {i:Nat} (h1:i<a.length) (h2:i<b.length):fK f (a.drop i) (b.drop i)=if f (a.getD i d) (b.getD i d)=0 then fK f (a.drop (i+1)) (b.drop (i+1)) else f (a.getD i d) (b.getD i d):=by
 rw[List.drop_eq_getElem_cons h1,List.drop_eq_getElem_cons h2,fK]
 simp[List.getD,List.getElem?_eq_getElem h1,List.getElem?_eq_getElem h2]
theorem tW {α:Type} (f:α->α->Int) {a b:List α} {i:Nat} (h1:i<a.length) (h2:b.length<=i):fK f (a.drop i) (b.drop i)=1:=by
 rw[List.drop_eq_getElem_cons h1,List.drop_of_length_le h2,fK]
theorem tU {α:Type} (f:α->α->Int) {a b:List α} {i:Nat} (h1:a.length<=i) (h2:i<=b.length):fK f (a.drop i) (b.drop i)=if i<b.length then -1 else 0:=by
 rw[List.drop_of_length_le h1]
 split
 ·rename_i h;rw[List.drop_eq_getElem_cons h,fK]
 ·rw[List.drop_of_length_le (by omega),fK]
theorem GD (x:Int):Pure Tryz.prog 104 [i64 x] (fun r=>r=bl false):=by
 refine aG V9 rfl ?_
 refine ca ?_
 refine dw ?_
 simp
theorem AK (x:Int):Pure Tryz.prog 194 [i64 x] (fun r=>r=bl false):=by
 refine aG XV rfl ?_
 refine ca ?_
 refine dw ?_
 simp
theorem tS (x y:Int):Pure Tryz.prog 62 [i64 x,i64 y] (fun r=>r=i64 (fI x y)):=by
 have c0:=GD x
 have c1:=GD y
 unfold fI
 by_cases h:x<y
 ·rw[if_pos h]
  refine aG TW rfl ?_
  refine ca ?_
  first|exact rfl|trivial
 ·rw[if_neg h]
  by_cases h2:y<x
  ·rw[if_pos h2]
   refine aG TW rfl ?_
   refine ca ?_
   first|exact rfl|trivial
  ·rw[if_neg h2]
   refine aG TW rfl ?_
   refine ca ?_
   first|exact rfl|trivial
theorem vp (x y:Int):Pure Tryz.prog 152 [i64 x,i64 y] (fun r=>r=i64 (fI x y)):=by
 have c0:=AK x
 have c1:=AK y
 unfold fI
 by_cases h:x<y
 ·rw[if_pos h]
  refine aG NJ rfl ?_
  refine ca ?_
  first|exact rfl|trivial
 ·rw[if_neg h]
  by_cases h2:y<x
  ·rw[if_pos h2]
   refine aG NJ rfl ?_
   refine ca ?_
   first|exact rfl|trivial
  ·rw[if_neg h2]
   refine aG NJ rfl ?_
   refine ca ?_
   first|exact rfl|trivial
theorem NZ {l:List Int} {i:Nat} (h:i<l.length):u0 (l.drop i)=if l.getD i 0=0 then u0 (l.drop (i+1)) else l.getD i 0:=by
 rw[List.drop_eq_getElem_cons h,u0]
 simp[List.getD,List.getElem?_eq_getElem h]
theorem xw (l:List Int) (hl:l.length<=1000):Pure Tryz.prog 61 [c8 l] (fun r=>r=i64 (u0 l)):=by
 refine aG aA0 rfl ?_
 refine ca ?_
 rw[List.length_map]
 refine aI (fun i:Nat=>[(3,i64 0),(6,c8 l),(7,i64 l.length),(8,i64 i)]) (fun i H n=>i<=l.length/\u0 l=u0 (l.drop i)) (fun i=>l.length - i) 0 cJ ⟨Nat.zero_le _,rfl⟩ ?_
 rintro i H n ⟨hi,ho⟩
 rw[ho]
 by_cases hil:i<l.length
 ·have e0:=fun d=>ints_at (l:=l) hil d
  have a0:(l.map i64).length=l.length:=by simp
  have hd:=NZ hil
  by_cases hz:l.getD i 0=0
  ·have r0:=hz
   rw[if_pos hz] at hd
   refine ca ?_
   exact⟨i+1,by omega,cJ,by omega,hd⟩
  ·have r0:=decide_eq_true hz
   rw[if_neg hz] at hd
   refine ca ?_
   rw[hd]
 ·rw[List.drop_of_length_le (by omega)]
  refine ca ?_
  first|exact rfl|trivial
theorem ur {p:Prop} (h:Go p):p:=h
theorem G7 {es:List AV} (hf:cg 0 es) (hl:es.length * 16<=140737488355328):cT Tryz.prog 184 [.im 2 .any es] [] 0 (fun r H _=>dA.df H 6 r= .sc (.slice none 0 0)/\es=[]\/dA.df H 6 r= .im 2 .any es):=by
 refine aM XS rfl ?_
 cases es with
 |nil=>
  refine ca ?_
  refine⟨ur ?_,ur ?_⟩
  ·refine ca ?_
   exact⟨.inl ⟨rfl,rfl⟩⟩
  ·refine ca ?_
   exact⟨.inr rfl⟩
 |cons x t=>
  have a0:(x::t).length * 16<=gX:=Nat.le_trans hl (by unfold gX;omega)
  simp only[List.length_cons] at hl
  refine ca ?_
  refine⟨.inr ((dN (e:=155) (sz:=2) (es:=x::t) cE (Nat.zero_add _).symm).trans ?_)⟩
  rw[cr _ hf]
theorem G8 {es:List AV} (hf:cg 0 es) (hl:es.length * 8<=140737488355328):cT Tryz.prog 185 [.im 1 .any es] [] 0 (fun r H _=>dA.df H 6 r= .sc (.slice none 0 0)/\es=[]\/dA.df H 6 r= .im 1 .any es):=by
 refine aM XU rfl ?_
 cases es with
 |nil=>
  refine ca ?_
  refine⟨ur ?_,ur ?_⟩
  ·refine ca ?_
   exact⟨.inl ⟨rfl,rfl⟩⟩
  ·refine ca ?_
   exact⟨.inr rfl⟩
 |cons x t=>
  have a0:(x::t).length * 8<=gX:=Nat.le_trans hl (by unfold gX;omega)
  simp only[List.length_cons] at hl
  refine ca ?_
  refine⟨.inr ((dN (e:=2) (sz:=1) (es:=x::t) cE (Nat.zero_add _).symm).trans ?_)⟩
  rw[cr _ hf]
theorem yr (l:List de) (hl:l.length * 16<=140737488355328):Pure Tryz.prog 184 [gY l] (fun r=>r=gY l):=
 ma (by simp[cP,cL]) (G7 ((cL _ _).2 fun _ _=>by simp[cP]) (by rw[List.length_map];exact hl))
theorem yu (l:List Int) (hl:l.length * 8<=140737488355328):Pure Tryz.prog 185 [c8 l] (fun r=>r=c8 l):=
 ma (by simp[cP,cL]) (G8 ((cL _ _).2 fun _ _=>by simp[cP]) (by rw[List.length_map];exact hl))
theorem JM (u:cF) (m:MS) (hl:m.cW.length * 16<=140737488355328):Pure Tryz.prog 147 [m.fz u] (fun r=>r=gY m.cW):=by
 have c0:=yr m.cW hl
 refine aG W8 rfl ?_
 refine ca ?_
 first|exact rfl|trivial
theorem I7 (u:cF) (m:MS) (hl:m.mem.length * 8<=140737488355328):Pure Tryz.prog 148 [m.fz u] (fun r=>r=c8 m.mem):=by
 have c0:=yu m.mem hl
 refine aG W9 rfl ?_
 refine ca ?_
 first|exact rfl|trivial
def MS.stuck (u:cF) (m:MS):Bool:=(List.range m.at_.length).all fun t=>decide (m.ly u t≠0)
def MS.end_ (u:cF) (m:MS):dC:=⟨m.cW,m.mem,m.ended u⟩
def mZ (u:cF) (m:MS):AV:=if m.stuck u then .dQ [(m.end_ u).av,bl true] else .dQ [.agg [.sc (.slice none 0 0), .sc (.slice none 0 0),bl false],bl false]
theorem w6 (u:cF) (hr:cj u) (m:MS) (h:eo u m) (hp:m.cW.length * 16<=140737488355328) (hm:m.mem.length * 8<=140737488355328):Pure Tryz.prog 94 [u.av,m.fz u] (fun r=>r=mZ u m):=by
 have hl:=h.rI
 have hgl:=hr.qD
 have c1:=JM u m hp
 have c2:=I7 u m hm
 have c3:=LX u hr m h
 refine aG aAh rfl ?_
 refine ca ?_
 rw[List.length_map,<-hl]
 refine aI (fun i:Nat=>[(1,m.fz u),(4, .pt 1 1 0 0),(9,i64 m.at_.length),(10,i64 i)]) (fun i H n=>i<=m.at_.length/\2<=n/\cC H 1=some (.row 105 3 (hP true [.slice none 0 0, .slice none 0 0, .bool false]) [hP true [.slice none 0 0, .slice none 0 0, .bool false]])/\∀j:Nat,j<i->m.ly u j≠0) (fun i=>m.at_.length - i) 0 cJ ⟨Nat.zero_le _,cZ,cE,fun j hj=>by omega⟩ ?_
 rintro i H n ⟨hi,hn,hx,hall⟩
 by_cases hil:i<m.at_.length
 ·have c0:=LH u hr m h i
  by_cases hb:m.ly u i=0
  ·have hs:m.stuck u=false:=by
    unfold MS.stuck
    rw[List.all_eq_false]
    exact⟨i,List.mem_range.2 hil,by simpa using hb⟩
   have r0:=decide_eq_true hb
   rw[mZ,hs]
   refine ca ?_
   first|exact rfl|trivial
  ·have r0:=decide_eq_false hb
   refine ca ?_
   exact⟨i+1,by omega,cJ,by omega,by omega,cE,fun j hj=>by
    by_cases e:j=i
    ·rw[e];exact hb
    ·exact hall j (by omega)⟩
 ·have hs:m.stuck u=true:=by
   unfold MS.stuck
   rw[List.all_eq_true]
   intro j hj
   exact decide_eq_true (hall j (by have:=List.mem_range.1 hj;omega))
  rw[mZ,hs]
  refine ca ?_
  first|exact rfl|trivial
def eJ (ids:List Nat) (l:List (List Int)):List AV:=(ids.zip l).map fun p=> .sl p.1 p.2.length
def MS.rows (u:cF) (m:MS) (a s me ho pr:Nat):AV:= .agg [cq u.shared,cq u.cI,dy u.cD, .sl a m.at_.length, .sl s m.cH.length, .sl me m.mem.length, .sl ho m.hold.length, .sl pr m.cW.length]
structure US (u:cF) (m:MS) (mr a s me ho pr:Nat) (ids:List Nat) (H:Hp):Prop where
 rM:∃d,cC H mr=some (.row 114 8 d [m.rows u a s me ho pr])
 rA:∃d,cC H a=some (.row 3 1 d (m.at_.map i64))
 rS:∃d,cC H s=some (.row 93 1 d (eJ ids m.cH))
 rL:∀t,t<m.cH.length->∃d,cC H (ids.getD t 0)=some (.row 2 1 d ((m.cH.getD t []).map i64))
 rE:∃d,cC H me=some (.row 2 1 d (m.mem.map i64))
 rH:∃d,cC H ho=some (.row 3 1 d (m.hold.map i64))
 rP:∃d,cC H pr=some (.row 155 2 d (m.cW.map de.av))
 len:ids.length=m.cH.length
 nodup:(mr::a::s::me::ho::pr::ids).Nodup
theorem wg {ids:List Nat} {l:List (List Int)} (h:ids.length=l.length) (i:Nat) (x:List Int):eJ (ids++[i]) (l++[x])=eJ ids l++[.sl i x.length]:=by
 unfold eJ
 rw[List.zip_append h]
 simp
theorem copied (es:List AV) (z:AV):List.take (es.length.min (es.length:Int).toNat) es++List.drop (es.length.min (es.length:Int).toNat) (List.replicate (es.length:Int).toNat z)=es:=by
 rw[Int.toNat_natCast,show es.length.min es.length=es.length from Nat.min_self _]
 simp
set_option maxHeartbeats 4000000 in
theorem CE (u:cF) (m:MS) (h1:m.at_.length<=4096) (h2:m.mem.length<=4096) (h3:m.hold.length<=4096) (h4:m.cW.length<=1048576) (h5:m.cH.length<=4096) (h6:∀l∈m.cH,l.length<=1048576) (H0:Hp) (nx:Nat):cT Tryz.prog 146 [m.fz u] H0 nx (fun r H n=>∃mr a s me ho pr ids,r= .pt mr 1 0 0/\US u m mr a s me ho pr ids H/\(∀x∈mr::a::s::me::ho::pr::ids,nx<=x/\x<n)/\nx<=n/\∀y,y<nx->cC H y=cC H0 y):=by
 refine aM W7 rfl ?_
 refine ca ?_
 simp only[copied]
 simp only[List.length_map,Int.toNat_natCast]
 refine aV (fun σ:Nat×List Nat=>[(0,m.fz u),(3, .pt (nx+32) 1 0 0),(78,GN m.cH),(79,i64 m.cH.length),(80,i64 σ.1)])
  (fun σ H n=>σ.1<=m.cH.length/\nx+77<=n/\σ.2.length=σ.1/\σ.2.Nodup/\(∀x∈σ.2,nx+77<=x/\x<n)/\(∃d,cC H (nx+32)=some (.row 114 8 d [.agg [cq u.shared,cq u.cI,dy u.cD, .sl (nx+12) m.at_.length, .sl (nx+76) σ.1, .sl (nx+18) m.mem.length, .sl (nx+24) m.hold.length, .sl (nx+30) m.cW.length]]))/\(∃d,cC H (nx+12)=some (.row 3 1 d (m.at_.map i64)))/\(∃d,cC H (nx+18)=some (.row 2 1 d (m.mem.map i64)))/\(∃d,cC H (nx+24)=some (.row 3 1 d (m.hold.map i64)))/\(∃d,cC H (nx+30)=some (.row 155 2 d (m.cW.map de.av)))/\(∃d,cC H (nx+76)=some (.row 93 1 d (eJ σ.2 (m.cH.take σ.1))))/\(∀t,t<σ.1->∃d,cC H (σ.2.getD t 0)=some (.row 2 1 d ((m.cH.getD t []).map i64)))/\∀y,y<nx->cC H y=cC H0 y) (fun σ=>m.cH.length - σ.1) (0,[])
  ⟨_,_,_,Rt.wk (Wk.oR (b:=nx+32) (e:=93) (sz:=1) (by simp only[List.length_cons,List.length_nil];omega) (by omega) (te:=114) (tz:=8) (cs:=[cq u.shared,cq u.cI,dy u.cD, .sl (nx+12) m.at_.length, .sc (.slice none 0 0), .sl (nx+18) m.mem.length, .sl (nx+24) m.hold.length, .sl (nx+30) m.cW.length]) (j:=4) cE (by show 4<8;omega) rfl),cJ,Nat.zero_le _,cZ,rfl,List.nodup_nil,fun x hx=>by simp at hx,⟨_,cE⟩,⟨_,cE⟩,⟨_,cE⟩,⟨_,cE⟩,⟨_,cE⟩,⟨_,cE⟩,fun t ht=>absurd ht (Nat.not_lt_zero _),fun y hy=>cM⟩ ?_
 rintro⟨t,ids⟩ H n ⟨ht,hn,hil,hnd,hin,⟨d0,r0⟩,⟨d1,r1⟩,⟨d2,r2⟩,⟨d3,r3⟩,⟨d4,r4⟩,⟨d5,r5⟩,hls,hkp⟩
 dsimp only at ht hil hnd hin r0 r5 hls ⊢
 have htk:(m.cH.take t).length=t:=by rw[List.length_take];omega
 have hrl:(eJ ids (m.cH.take t)).length=t:=by unfold eJ;rw[List.length_map,List.length_zip,htk,hil];omega
 by_cases htl:t<m.cH.length
 ·have e0:∀d,(m.cH.map c8).getD ((t:Int)).toNat d=c8 (m.cH.getD t []):=fun d=>by rw[Int.toNat_natCast];exact dI c8 m.cH t d htl
  have a0:(m.cH.map c8).length=m.cH.length:=by simp
  have hnx:eJ (ids++[n+6]) (m.cH.take (t+1))=eJ ids (m.cH.take t)++[.sl (n+6) (m.cH.getD t []).length]:=by
   rw[List.take_succ_eq_append_getElem htl,wg (by rw[hil,htk]),show m.cH.getD t []=m.cH[t] by simp[List.getD,htl]]
  have h7:=h6 _ (cQ (l:=m.cH) [] htl)
  refine ca ?_
  simp only[copied]
  simp only[List.length_map,Int.toNat_natCast]
  refine⟨(t+1,ids++[n+6]),by dsimp only;omega,_,_,_,Rt.refl _ _ _,cJ,by dsimp only;omega,by omega,by simp[hil], ?_, ?_,⟨_,cE⟩,⟨_,cE⟩,⟨_,cE⟩,⟨_,cE⟩,⟨_,cE⟩,⟨_,by dsimp only;rw[hnx];exact cE⟩, ?_,fun y hy=>Eq.trans cM (hkp y hy)⟩
  ·refine List.nodup_append.2 ⟨hnd,by simp,fun a ha b hb=> ?_⟩
   simp only[List.mem_cons,List.not_mem_nil,or_false] at hb
   have:=hin _ ha;omega
  ·intro x hx
   rcases List.mem_append.1 hx with hx|hx
   ·have:=hin _ hx;exact⟨this.1,Nat.lt_of_lt_of_le this.2 cZ⟩
   ·simp only[List.mem_cons,List.not_mem_nil,or_false] at hx
    subst hx;exact⟨by omega,cZ⟩
  ·intro q hq
   have hq:q<t+1:=hq
   by_cases e:q=t
   ·subst e
    have e2:(ids++[n+6]).getD q 0=n+6:=by rw[List.getD,List.getElem?_append_right (by omega),hil,Nat.sub_self];rfl
    dsimp only
    rw[e2];exact⟨_,cE⟩
   ·obtain⟨d,hd⟩:=hls q (by omega)
    have e2:(ids++[n+6]).getD q 0=ids.getD q 0:=by simp[List.getD,List.getElem?_append,show q<ids.length by omega]
    have:=hin _ (eW (l:=ids) (q:=q) (by omega))
    dsimp only
    rw[e2];exact⟨d,Eq.trans cM hd⟩
 ·have:t=m.cH.length:=by omega
  subst this
  rw[List.take_length] at r5
  refine ca ?_
  refine⟨⟨nx+32,nx+12,nx+76,nx+18,nx+24,nx+30,ids,rfl,⟨⟨_,cE⟩,⟨_,cE⟩,⟨_,cE⟩,fun t ht=> ?_,⟨_,cE⟩,⟨_,cE⟩,⟨_,cE⟩,hil, ?_⟩, ?_,cZ,fun y hy=>Eq.trans cM (hkp y hy)⟩⟩
  ·obtain⟨d,hd⟩:=hls t ht
   have:=hin _ (eW (l:=ids) (q:=t) (by omega))
   exact⟨d,Eq.trans cM hd⟩
  ·have hno:∀k,k<nx+77->k∉ids:=fun k hk h=>by have:=hin _ h;omega
   simp only[List.nodup_cons,List.mem_cons,not_or]
   exact⟨⟨by omega,by omega,by omega,by omega,by omega,hno _ (by omega)⟩,⟨by omega,by omega,by omega,by omega,hno _ (by omega)⟩,⟨by omega,by omega,by omega,hno _ (by omega)⟩,⟨by omega,by omega,hno _ (by omega)⟩,⟨by omega,hno _ (by omega)⟩,hno _ (by omega),hnd⟩
  ·intro x hx
   simp only[List.mem_cons] at hx
   rcases hx with rfl|rfl|rfl|rfl|rfl|rfl|hx
   all_goals first
    |exact⟨by omega,by omega⟩
    |(have:=hin _ hx;exact⟨by omega,by omega⟩)
theorem oI {H:Hp} {k:Nat} {cs:List AV}:dA.df H (k+1) (.agg cs)= .agg (cs.map (dA.df H k)):=by simp only[df]
theorem US.df {u:cF} {m:MS} {mr a s me ho pr:Nat} {ids:List Nat} {H:Hp} (h:US u m mr a s me ho pr ids H) (k:Nat):dA.df H (k+5) (.pt mr 1 0 0)=m.fz u:=by
 obtain⟨d1,h1⟩:=h.rM
 obtain⟨d2,h2⟩:=h.rA
 obtain⟨d3,h3⟩:=h.rS
 obtain⟨d4,h4⟩:=h.rE
 obtain⟨d5,h5⟩:=h.rH
 obtain⟨d6,h6⟩:=h.rP
 have hsl:(eJ ids m.cH).length=m.cH.length:=by unfold eJ;rw[List.length_map,List.length_zip,h.len];simp
 have hs:(eJ ids m.cH).map (dA.df H (k+2))=m.cH.map c8:=by
  apply List.ext_getElem (by simp[hsl])
  intro t q1 q2
  have ht:t<m.cH.length:=by simpa using q2
  have hti:t<ids.length:=by rw[h.len];exact ht
  obtain⟨d,hd⟩:=h.rL t ht
  rw[show ids.getD t 0=ids[t] by simp[List.getD,hti],show m.cH.getD t []=m.cH[t] by simp[List.getD,ht]] at hd
  rw[List.getElem_map,List.getElem_map]
  simp only[eJ,List.getElem_map,List.getElem_zip]
  rw[dN hd (by simp),cr _ ((cL _ _).2 fun _ _=>by simp[cP])]
 simp only[dA.df,h1]
 simp only[List.length_cons,List.length_nil,if_true,List.map_cons,List.map_nil,MS.rows]
 rw[oI]
 simp only[List.map_cons,List.map_nil]
 rw[dN h2 (by simp),dN h3 hsl,dN h4 (by simp),dN h5 (by simp),dN h6 (by simp),hs]
 rw[cr _ ((cL _ _).2 fun _ _=>by simp[cP]),cr _ ((cL _ _).2 fun _ _=>by simp[cP]),cr _ ((cL _ _).2 fun _ _=>by simp[cP]),cr _ ((cL _ _).2 fun _ _=>by simp[cP])]
 rw[dX _ (show cP 0 (cq u.shared) by simp[cP,cL]),dX _ (show cP 0 (cq u.cI) by simp[cP,cL]),dX _ (show cP 0 (dy u.cD) by simp[cP,cL])]
 rfl
def eH (u:cF):MS:=⟨u.cD.map fun _=>0,u.cD.map fun g=>List.replicate g.cH.toNat 0,u.shared.map Decl.word,u.cI.map fun _=>-1,[]⟩
theorem GF (u:cF) (hr:cj u) (hw:∀d∈u.shared,ec d.word) (hn:∀t,t<u.cD.length->0<(u.gr t).nodes.length):eo u (eH u) where
 rI:=by simp[eH]
 iN:=fun t ht=>by
  have e:(eH u).at_.getD t 0=0:=by simp[eH,List.getD,ht]
  rw[e]
  exact⟨Int.le_refl _,by have:=hn t ht;omega⟩
 sl:=by simp[eH]
 EP:=fun t ht=>by
  have e:(eH u).cH.getD t []=List.replicate (u.gr t).cH.toNat 0:=by simp[eH,List.getD,cF.gr,ht]
  rw[e,List.length_replicate]
 ER:=fun t ht w hw=>by
  have e:(eH u).cH.getD t []=List.replicate (u.gr t).cH.toNat 0:=by simp[eH,List.getD,cF.gr,ht]
  rw[e] at hw
  rw[List.eq_of_mem_replicate hw]
  exact⟨by omega,by omega⟩
 ml:=by simp[eH]
 mw:=fun w h=>by
  obtain⟨d,hd,rfl⟩:=List.mem_map.1 h
  exact hw d hd
 hl:=by simp[eH]
 hw:=fun w h=>by
  obtain⟨d,hd,rfl⟩:=List.mem_map.1 h
  exact⟨by omega,by omega⟩
 pw:=fun p h=>by simp[eH] at h
abbrev yR (n:Int):Int:=IntKind.i64.wrap n
def JN (a b:Int):Int:=if b=0 then 0 else if b=-1 then yR (0 - a) else yR (a.tdiv b)
def N5 (a b:Int):Int:=if b=0 then a else yR (a - yR (JN a b * b))
def VI (a b:Int):Int:=yR ((BitVec.ofInt 64 a&&& BitVec.ofInt 64 b).toNat:Int)
def orW (a b:Int):Int:=yR ((BitVec.ofInt 64 a|||BitVec.ofInt 64 b).toNat:Int)
def ZH (a b:Int):Int:=yR ((BitVec.ofInt 64 a^^^BitVec.ofInt 64 b).toNat:Int)
def LM (b:Int):Int:=IntKind.u64.wrap ((BitVec.ofInt 64 (IntKind.u64.wrap b)&&& BitVec.ofInt 64 63).toNat:Int)
def Y5 (a b:Int):Int:=yR (a * 2^(min (LM b).toNat 64))
def Q6 (a b:Int):Int:=a.fdiv (2^(min (LM b).toNat 64))
def tr (t:Bool):Int:=if t=true then 1 else 0
theorem dJ (t:Bool):Pure Tryz.prog 226 [bl t] (fun r=>r=i64 (tr t)):=by
 refine aG YI rfl ?_
 repeat' (first|refine aQ ?_|exact aC|with_reducible refine aB ?_ ?_|(apply aA;(·exact cK))|refine aH ?_|((with_reducible refine aE ?_ ?_)<;>intro hc<;>try(exfalso;omega)))
 all_goals simp_all[tr]
theorem pj (a b:Int):Pure Tryz.prog 206 [i64 a,i64 b] (fun r=>r=i64 (yR (a+b))):=by
 refine aG X0 rfl ?_
 repeat' (first|refine aQ ?_|exact aC|with_reducible refine aB ?_ ?_|(apply aA;(·exact cK))|refine aH ?_|((with_reducible refine aE ?_ ?_)<;>intro hc<;>try(exfalso;omega)))
 all_goals exact rfl
theorem qo (a b:Int):Pure Tryz.prog 207 [i64 a,i64 b] (fun r=>r=i64 (yR (a - b))):=by
 refine aG X1 rfl ?_
 repeat' (first|refine aQ ?_|exact aC|with_reducible refine aB ?_ ?_|(apply aA;(·exact cK))|refine aH ?_|((with_reducible refine aE ?_ ?_)<;>intro hc<;>try(exfalso;omega)))
 all_goals exact rfl
theorem qX (a b:Int):Pure Tryz.prog 208 [i64 a,i64 b] (fun r=>r=i64 (yR (a * b))):=by
 refine aG X2 rfl ?_
 repeat' (first|refine aQ ?_|exact aC|with_reducible refine aB ?_ ?_|(apply aA;(·exact cK))|refine aH ?_|((with_reducible refine aE ?_ ?_)<;>intro hc<;>try(exfalso;omega)))
 all_goals exact rfl
theorem jO (a b:Int):Pure Tryz.prog 209 [i64 a,i64 b] (fun r=>r=i64 (JN a b)):=by
 refine aG X3 rfl ?_
 repeat' (first|refine aQ ?_|exact aC|with_reducible refine aB ?_ ?_|(apply aA;(·exact cK))|refine aH ?_|((with_reducible refine aE ?_ ?_)<;>intro hc<;>try(exfalso;omega)))
 all_goals simp_all[JN]
theorem qf (a b:Int):Pure Tryz.prog 210 [i64 a,i64 b] (fun r=>r=i64 (N5 a b)):=by
 refine aG X4 rfl ?_
 repeat' (first|refine aQ ?_|exact aC|with_reducible refine aB ?_ ?_|(apply aA;(·exact cK))|((with_reducible refine aP (jO _ _) ?_ ?_);(·exact cN))|((with_reducible refine aL (fun _=>jO _ _) ?_ ?_);(·exact cN))|((with_reducible refine aN (jO _ _) ?_ ?_);(·exact cN))|((with_reducible refine aO (fun _=>jO _ _) ?_ ?_);(·exact cN))|refine aH ?_|((with_reducible refine aE ?_ ?_)<;>intro hc<;>try(exfalso;omega)))
 all_goals simp_all[N5]
theorem po (a b:Int):Pure Tryz.prog 211 [i64 a,i64 b] (fun r=>r=i64 (VI a b)):=by
 refine aG X5 rfl ?_
 repeat' (first|refine aQ ?_|exact aC|with_reducible refine aB ?_ ?_|(apply aA;(·exact cK))|refine aH ?_|((with_reducible refine aE ?_ ?_)<;>intro hc<;>try(exfalso;omega)))
 all_goals exact rfl
theorem qb (a b:Int):Pure Tryz.prog 212 [i64 a,i64 b] (fun r=>r=i64 (orW a b)):=by
 refine aG X6 rfl ?_
 repeat' (first|refine aQ ?_|exact aC|with_reducible refine aB ?_ ?_|(apply aA;(·exact cK))|refine aH ?_|((with_reducible refine aE ?_ ?_)<;>intro hc<;>try(exfalso;omega)))
 all_goals exact rfl
theorem qv (a b:Int):Pure Tryz.prog 213 [i64 a,i64 b] (fun r=>r=i64 (ZH a b)):=by
 refine aG X7 rfl ?_
 repeat' (first|refine aQ ?_|exact aC|with_reducible refine aB ?_ ?_|(apply aA;(·exact cK))|refine aH ?_|((with_reducible refine aE ?_ ?_)<;>intro hc<;>try(exfalso;omega)))
 all_goals exact rfl
theorem qj (a b:Int):Pure Tryz.prog 214 [i64 a,i64 b] (fun r=>r=i64 (Y5 a b)):=by
 refine aG X8 rfl ?_
 repeat' (first|refine aQ ?_|exact aC|with_reducible refine aB ?_ ?_|(apply aA;(·exact cK))|refine aH ?_|((with_reducible refine aE ?_ ?_)<;>intro hc<;>try(exfalso;omega)))
 all_goals exact rfl
theorem qk (a b:Int):Pure Tryz.prog 215 [i64 a,i64 b] (fun r=>r=i64 (Q6 a b)):=by
 refine aG X9 rfl ?_
 repeat' (first|refine aQ ?_|exact aC|with_reducible refine aB ?_ ?_|(apply aA;(·exact cK))|refine aH ?_|((with_reducible refine aE ?_ ?_)<;>intro hc<;>try(exfalso;omega)))
 all_goals exact rfl
theorem sk (a b:Int):Pure Tryz.prog 216 [i64 a,i64 b] (fun r=>r=i64 (tr (decide (a=b)))):=by
 refine aG YA rfl ?_
 repeat' (first|refine aQ ?_|exact aC|with_reducible refine aB ?_ ?_|(apply aA;(·exact cK))|((with_reducible refine aP (dJ _) ?_ ?_);(·exact cN))|((with_reducible refine aL (fun _=>dJ _) ?_ ?_);(·exact cN))|((with_reducible refine aN (dJ _) ?_ ?_);(·exact cN))|((with_reducible refine aO (fun _=>dJ _) ?_ ?_);(·exact cN))|refine aH ?_|((with_reducible refine aE ?_ ?_)<;>intro hc<;>try(exfalso;omega)))
 all_goals exact rfl
theorem mT (a b:Int):Pure Tryz.prog 217 [i64 a,i64 b] (fun r=>r=i64 (tr (decide (a≠b)))):=by
 refine aG YB rfl ?_
 repeat' (first|refine aQ ?_|exact aC|with_reducible refine aB ?_ ?_|(apply aA;(·exact cK))|((with_reducible refine aP (dJ _) ?_ ?_);(·exact cN))|((with_reducible refine aL (fun _=>dJ _) ?_ ?_);(·exact cN))|((with_reducible refine aN (dJ _) ?_ ?_);(·exact cN))|((with_reducible refine aO (fun _=>dJ _) ?_ ?_);(·exact cN))|refine aH ?_|((with_reducible refine aE ?_ ?_)<;>intro hc<;>try(exfalso;omega)))
 all_goals exact rfl
theorem oO (a b:Int):Pure Tryz.prog 218 [i64 a,i64 b] (fun r=>r=i64 (tr (decide (a<b)))):=by
 refine aG YC rfl ?_
 repeat' (first|refine aQ ?_|exact aC|with_reducible refine aB ?_ ?_|(apply aA;(·exact cK))|((with_reducible refine aP (dJ _) ?_ ?_);(·exact cN))|((with_reducible refine aL (fun _=>dJ _) ?_ ?_);(·exact cN))|((with_reducible refine aN (dJ _) ?_ ?_);(·exact cN))|((with_reducible refine aO (fun _=>dJ _) ?_ ?_);(·exact cN))|refine aH ?_|((with_reducible refine aE ?_ ?_)<;>intro hc<;>try(exfalso;omega)))
 all_goals exact rfl
theorem oQ (a b:Int):Pure Tryz.prog 219 [i64 a,i64 b] (fun r=>r=i64 (tr (decide (a<=b)))):=by
 refine aG YD rfl ?_
 repeat' (first|refine aQ ?_|exact aC|with_reducible refine aB ?_ ?_|(apply aA;(·exact cK))|((with_reducible refine aP (dJ _) ?_ ?_);(·exact cN))|((with_reducible refine aL (fun _=>dJ _) ?_ ?_);(·exact cN))|((with_reducible refine aN (dJ _) ?_ ?_);(·exact cN))|((with_reducible refine aO (fun _=>dJ _) ?_ ?_);(·exact cN))|refine aH ?_|((with_reducible refine aE ?_ ?_)<;>intro hc<;>try(exfalso;omega)))
 all_goals exact rfl
theorem mB (a b:Int):Pure Tryz.prog 220 [i64 a,i64 b] (fun r=>r=i64 (tr (decide (b<a)))):=by
 refine aG YE rfl ?_
 repeat' (first|refine aQ ?_|exact aC|with_reducible refine aB ?_ ?_|(apply aA;(·exact cK))|((with_reducible refine aP (dJ _) ?_ ?_);(·exact cN))|((with_reducible refine aL (fun _=>dJ _) ?_ ?_);(·exact cN))|((with_reducible refine aN (dJ _) ?_ ?_);(·exact cN))|((with_reducible refine aO (fun _=>dJ _) ?_ ?_);(·exact cN))|refine aH ?_|((with_reducible refine aE ?_ ?_)<;>intro hc<;>try(exfalso;omega)))
 all_goals exact rfl
theorem mV (a b:Int):Pure Tryz.prog 221 [i64 a,i64 b] (fun r=>r=i64 (tr (decide (b<=a)))):=by
 refine aG YF rfl ?_
 repeat' (first|refine aQ ?_|exact aC|with_reducible refine aB ?_ ?_|(apply aA;(·exact cK))|((with_reducible refine aP (dJ _) ?_ ?_);(·exact cN))|((with_reducible refine aL (fun _=>dJ _) ?_ ?_);(·exact cN))|((with_reducible refine aN (dJ _) ?_ ?_);(·exact cN))|((with_reducible refine aO (fun _=>dJ _) ?_ ?_);(·exact cN))|refine aH ?_|((with_reducible refine aE ?_ ?_)<;>intro hc<;>try(exfalso;omega)))
 all_goals exact rfl
theorem mX (a:Int):Pure Tryz.prog 222 [i64 a] (fun r=>r=i64 (yR (0 - a))):=by
 refine aG YG rfl ?_
 repeat' (first|refine aQ ?_|exact aC|with_reducible refine aB ?_ ?_|(apply aA;(·exact cK))|refine aH ?_|((with_reducible refine aE ?_ ?_)<;>intro hc<;>try(exfalso;omega)))
 all_goals exact rfl
theorem q7 (a:Int):Pure Tryz.prog 223 [i64 a] (fun r=>r=i64 (tr (decide (a=0)))):=by
 refine aG YH rfl ?_
 repeat' (first|refine aQ ?_|exact aC|with_reducible refine aB ?_ ?_|(apply aA;(·exact cK))|((with_reducible refine aP (dJ _) ?_ ?_);(·exact cN))|((with_reducible refine aL (fun _=>dJ _) ?_ ?_);(·exact cN))|((with_reducible refine aN (dJ _) ?_ ?_);(·exact cN))|((with_reducible refine aO (fun _=>dJ _) ?_ ?_);(·exact cN))|refine aH ?_|((with_reducible refine aE ?_ ?_)<;>intro hc<;>try(exfalso;omega)))
 all_goals exact rfl
def SF:AV:= .agg [.sc .nilFunc, .sc .nilFunc, .fn (.func 206) [] [], .sc .nilFunc, .fn (.func 207) [] [], .sc .nilFunc, .fn (.func 208) [] [], .sc .nilFunc, .fn (.func 209) [] [], .sc .nilFunc, .fn (.func 210) [] [], .sc .nilFunc, .fn (.func 211) [] [], .sc .nilFunc, .fn (.func 212) [] [], .sc .nilFunc, .fn (.func 213) [] [], .sc .nilFunc, .fn (.func 214) [] [], .sc .nilFunc, .fn (.func 215) [] [], .sc .nilFunc, .fn (.func 216) [] [], .sc .nilFunc, .fn (.func 217) [] [], .sc .nilFunc, .fn (.func 218) [] [], .sc .nilFunc, .fn (.func 219) [] [], .sc .nilFunc, .fn (.func 220) [] [], .sc .nilFunc, .fn (.func 221) [] [], .sc .nilFunc, .sc .nilFunc, .fn (.func 222) [] [], .sc .nilFunc, .fn (.func 223) [] []]
theorem nb:Pure Tryz.prog 197 [] (fun r=>r=SF):=by
 refine cz ?_ (by simp[SF,cP,cg])
 refine aM XX rfl ?_
 refine ca ?_
 exact⟨rfl⟩
def RL (op a b:Int):Int:=if op=1 then yR (a+b) else if op=2 then yR (a - b) else if op=3 then yR (a * b) else if op=4 then JN a b else if op=5 then N5 a b else if op=6 then VI a b else if op=7 then orW a b else if op=8 then ZH a b else if op=9 then Y5 a b else if op=10 then Q6 a b else if op=11 then tr (decide (a=b)) else if op=12 then tr (decide (a≠b)) else if op=13 then tr (decide (a<b)) else if op=14 then tr (decide (a<=b)) else if op=15 then tr (decide (b<a)) else tr (decide (b<=a))
def QS (op a:Int):Int:=if op=17 then yR (0 - a) else tr (decide (a=0))
theorem KD {op:Int} (h:eG op=true):op=1\/op=2\/op=3\/op=4\/op=5\/op=6\/op=7\/op=8\/op=9\/op=10\/op=11\/op=12\/op=13\/op=14\/op=15\/op=16:=by
 simp only[eG,Bool.and_eq_true,decide_eq_true_eq] at h;omega
theorem SL (op a b:Int) (h:eG op=true):Pure Tryz.prog 160 [u8 op,i64 a,i64 b] (fun r=>r= .dQ [i64 (RL op a b),i64 0]):=by
 refine aG XF rfl ?_
 rcases KD h with rfl|rfl|rfl|rfl|rfl|rfl|rfl|rfl|rfl|rfl|rfl|rfl|rfl|rfl|rfl|rfl
 all_goals repeat' (first|refine aQ ?_|exact aC|with_reducible refine aB ?_ ?_|(apply aA;(·exact cK))|((with_reducible refine aP (fp _ (by omega)) ?_ ?_);(·exact cN))|((with_reducible refine aL (fun _=>fp _ (by omega)) ?_ ?_);(·exact cN))|((with_reducible refine aN (fp _ (by omega)) ?_ ?_);(·exact cN))|((with_reducible refine aO (fun _=>fp _ (by omega)) ?_ ?_);(·exact cN))|refine aK (nb) ?_|((with_reducible refine aP (pj _ _) ?_ ?_);(·exact cN))|((with_reducible refine aL (fun _=>pj _ _) ?_ ?_);(·exact cN))|((with_reducible refine aN (pj _ _) ?_ ?_);(·exact cN))|((with_reducible refine aO (fun _=>pj _ _) ?_ ?_);(·exact cN))|((with_reducible refine aP (qo _ _) ?_ ?_);(·exact cN))|((with_reducible refine aL (fun _=>qo _ _) ?_ ?_);(·exact cN))|((with_reducible refine aN (qo _ _) ?_ ?_);(·exact cN))|((with_reducible refine aO (fun _=>qo _ _) ?_ ?_);(·exact cN))|((with_reducible refine aP (qX _ _) ?_ ?_);(·exact cN))|((with_reducible refine aL (fun _=>qX _ _) ?_ ?_);(·exact cN))|((with_reducible refine aN (qX _ _) ?_ ?_);(·exact cN))|((with_reducible refine aO (fun _=>qX _ _) ?_ ?_);(·exact cN))|((with_reducible refine aP (jO _ _) ?_ ?_);(·exact cN))|((with_reducible refine aL (fun _=>jO _ _) ?_ ?_);(·exact cN))|((with_reducible refine aN (jO _ _) ?_ ?_);(·exact cN))|((with_reducible refine aO (fun _=>jO _ _) ?_ ?_);(·exact cN))|((with_reducible refine aP (qf _ _) ?_ ?_);(·exact cN))|((with_reducible refine aL (fun _=>qf _ _) ?_ ?_);(·exact cN))|((with_reducible refine aN (qf _ _) ?_ ?_);(·exact cN))|((with_reducible refine aO (fun _=>qf _ _) ?_ ?_);(·exact cN))|((with_reducible refine aP (po _ _) ?_ ?_);(·exact cN))|((with_reducible refine aL (fun _=>po _ _) ?_ ?_);(·exact cN))|((with_reducible refine aN (po _ _) ?_ ?_);(·exact cN))|((with_reducible refine aO (fun _=>po _ _) ?_ ?_);(·exact cN))|((with_reducible refine aP (qb _ _) ?_ ?_);(·exact cN))|((with_reducible refine aL (fun _=>qb _ _) ?_ ?_);(·exact cN))|((with_reducible refine aN (qb _ _) ?_ ?_);(·exact cN))|((with_reducible refine aO (fun _=>qb _ _) ?_ ?_);(·exact cN))|((with_reducible refine aP (qv _ _) ?_ ?_);(·exact cN))|((with_reducible refine aL (fun _=>qv _ _) ?_ ?_);(·exact cN))|((with_reducible refine aN (qv _ _) ?_ ?_);(·exact cN))|((with_reducible refine aO (fun _=>qv _ _) ?_ ?_);(·exact cN))|((with_reducible refine aP (qj _ _) ?_ ?_);(·exact cN))|((with_reducible refine aL (fun _=>qj _ _) ?_ ?_);(·exact cN))|((with_reducible refine aN (qj _ _) ?_ ?_);(·exact cN))|((with_reducible refine aO (fun _=>qj _ _) ?_ ?_);(·exact cN))|((with_reducible refine aP (qk _ _) ?_ ?_);(·exact cN))|((with_reducible refine aL (fun _=>qk _ _) ?_ ?_);(·exact cN))|((with_reducible refine aN (qk _ _) ?_ ?_);(·exact cN))|((with_reducible refine aO (fun _=>qk _ _) ?_ ?_);(·exact cN))|((with_reducible refine aP (sk _ _) ?_ ?_);(·exact cN))|((with_reducible refine aL (fun _=>sk _ _) ?_ ?_);(·exact cN))|((with_reducible refine aN (sk _ _) ?_ ?_);(·exact cN))|((with_reducible refine aO (fun _=>sk _ _) ?_ ?_);(·exact cN))|((with_reducible refine aP (mT _ _) ?_ ?_);(·exact cN))|((with_reducible refine aL (fun _=>mT _ _) ?_ ?_);(·exact cN))|((with_reducible refine aN (mT _ _) ?_ ?_);(·exact cN))|((with_reducible refine aO (fun _=>mT _ _) ?_ ?_);(·exact cN))|((with_reducible refine aP (oO _ _) ?_ ?_);(·exact cN))|((with_reducible refine aL (fun _=>oO _ _) ?_ ?_);(·exact cN))|((with_reducible refine aN (oO _ _) ?_ ?_);(·exact cN))|((with_reducible refine aO (fun _=>oO _ _) ?_ ?_);(·exact cN))|((with_reducible refine aP (oQ _ _) ?_ ?_);(·exact cN))|((with_reducible refine aL (fun _=>oQ _ _) ?_ ?_);(·exact cN))|((with_reducible refine aN (oQ _ _) ?_ ?_);(·exact cN))|((with_reducible refine aO (fun _=>oQ _ _) ?_ ?_);(·exact cN))|((with_reducible refine aP (mB _ _) ?_ ?_);(·exact cN))|((with_reducible refine aL (fun _=>mB _ _) ?_ ?_);(·exact cN))|((with_reducible refine aN (mB _ _) ?_ ?_);(·exact cN))|((with_reducible refine aO (fun _=>mB _ _) ?_ ?_);(·exact cN))|((with_reducible refine aP (mV _ _) ?_ ?_);(·exact cN))|((with_reducible refine aL (fun _=>mV _ _) ?_ ?_);(·exact cN))|((with_reducible refine aN (mV _ _) ?_ ?_);(·exact cN))|((with_reducible refine aO (fun _=>mV _ _) ?_ ?_);(·exact cN))|refine aH ?_|((with_reducible refine aE ?_ ?_)<;>intro hc<;>try(exfalso;omega)))
 all_goals (first|exact rfl|trace_state)
theorem PC (op a:Int) (h:op=17\/op=18):Pure Tryz.prog 161 [u8 op,i64 a] (fun r=>r= .dQ [i64 (QS op a),i64 0]):=by
 refine aG XG rfl ?_
 rcases h with rfl|rfl
 all_goals repeat' (first|refine aQ ?_|exact aC|with_reducible refine aB ?_ ?_|(apply aA;(·exact cK))|((with_reducible refine aP (gW _) ?_ ?_);(·exact cN))|((with_reducible refine aL (fun _=>gW _) ?_ ?_);(·exact cN))|((with_reducible refine aN (gW _) ?_ ?_);(·exact cN))|((with_reducible refine aO (fun _=>gW _) ?_ ?_);(·exact cN))|((with_reducible refine aP (fp _ (by omega)) ?_ ?_);(·exact cN))|((with_reducible refine aL (fun _=>fp _ (by omega)) ?_ ?_);(·exact cN))|((with_reducible refine aN (fp _ (by omega)) ?_ ?_);(·exact cN))|((with_reducible refine aO (fun _=>fp _ (by omega)) ?_ ?_);(·exact cN))|refine aK (nb) ?_|((with_reducible refine aP (mX _) ?_ ?_);(·exact cN))|((with_reducible refine aL (fun _=>mX _) ?_ ?_);(·exact cN))|((with_reducible refine aN (mX _) ?_ ?_);(·exact cN))|((with_reducible refine aO (fun _=>mX _) ?_ ?_);(·exact cN))|((with_reducible refine aP (q7 _) ?_ ?_);(·exact cN))|((with_reducible refine aL (fun _=>q7 _) ?_ ?_);(·exact cN))|((with_reducible refine aN (q7 _) ?_ ?_);(·exact cN))|((with_reducible refine aO (fun _=>q7 _) ?_ ?_);(·exact cN))|refine aH ?_|((with_reducible refine aE ?_ ?_)<;>intro hc<;>try(exfalso;omega)))
 all_goals (first|exact rfl|trace_state)
structure iK where
 eA:Int
 node:Int
 kind:Int
 cV:Int
 word:Int
 put:Int
 deriving Inhabited,DecidableEq
def iK.cells (d:iK):List AV:=[i64 d.eA,i64 d.node,u8 d.kind,i64 d.cV,i64 d.word,i64 d.put]
abbrev iK.av (d:iK):AV:= .agg d.cells
def MS.val (m:MS) (t:Nat) (v:jd):Int:=if v.iC then(m.cH.getD t []).getD v.slot.toNat 0 else v.word
def MS.gC (m:MS) (t:Nat) (k:Int) (w:Int):MS:={ m with cH:=m.cH.set t ((m.cH.getD t []).set k.toNat w) }
def MS.EK (m:MS) (t:Nat) (n:Node):Int:=if eG n.op then RL n.op (m.val t n.a) (m.val t n.b) else if n.op≠0 then QS n.op (m.val t n.a) else m.val t n.a
def MS.act (m:MS) (t:Nat) (n:Node):MS×Int×Int×Int×Int:=
 if n.kind=1 then(m.gC t n.slot (m.EK t n),n.next,0,m.EK t n,0)
 else if n.kind=2 then(m.gC t n.slot (m.mem.getD n.cV.toNat 0),n.next,n.cV,m.mem.getD n.cV.toNat 0,0)
 else if n.kind=3 then({ m with mem:=m.mem.set n.cV.toNat (m.val t n.a) },n.next,n.cV,m.val t n.a,0)
 else if n.kind=4 then({ m.gC t n.slot (m.mem.getD n.cV.toNat 0) with mem:=m.mem.set n.cV.toNat (m.val t n.a) },n.next,n.cV,m.mem.getD n.cV.toNat 0,m.val t n.a)
 else if n.kind=5 then({ m with hold:=m.hold.set n.cV.toNat t },n.next,n.cV,0,0)
 else if n.kind=6 then({ m with hold:=m.hold.set n.cV.toNat (-1) },n.next,n.cV,0,0)
 else if n.kind=7 then({ m with cW:=m.cW++[⟨t,m.val t n.a⟩] },n.next,0,m.val t n.a,0)
 else(m,if m.val t n.a=0 then n.sY else n.next,0,m.val t n.a,0)
def MS.step (u:cF) (m:MS) (t:Nat):MS×iK:=
 let n:=m.node u t
 let r:=m.act t n
 ({ r.1 with at_:=m.at_.set t r.2.1 },⟨t,m.at_.getD t 0,n.kind,r.2.2.1,r.2.2.2.1,r.2.2.2.2⟩)
section
theorem uw (n:Int):ec (yR n):=by unfold ec yR;rw[IntKind.wrap_i64];omega
theorem TP {p:Prop} [Decidable p] {a b:Int} (h1:ec a) (h2:ec b):ec (if p then a else b):=by
 split
 ·exact h1
 ·exact h2
theorem SJ (t:Bool):ec (tr t):=by unfold tr ec;split<;>omega
theorem Q7 {a:Int} (h:ec a) (b:Int):ec (Q6 a b):=by
 unfold Q6
 have hd:(1:Int)<=2^(min (LM b).toNat 64):=Int.le_of_lt_add_one (by have:(0:Int)<2^(min (LM b).toNat 64):=Int.pow_pos (by omega);omega)
 generalize (2:Int)^(min (LM b).toNat 64)=d at *
 rw[Int.fdiv_eq_ediv_of_nonneg _ (by omega)]
 have h1:=Int.mul_ediv_add_emod a d
 have h2:=Int.emod_nonneg a (b:=d) (by omega)
 have h3:=Int.emod_lt_of_pos a (b:=d) (by omega)
 obtain⟨h4,h5⟩:=h
 generalize a /d=q at *
 generalize a%d=r at *
 constructor
 ·apply Int.not_lt.1
  intro hq
  have:d * (q+1)<=1 * (q+1):=Int.mul_le_mul_of_nonpos_right hd (by omega)
  rw[Int.mul_add] at this
  omega
 ·apply Int.not_le.1
  intro hq
  have:1 * q<=d * q:=Int.mul_le_mul_of_nonneg_right hd (by omega)
  omega
theorem RM {a b:Int} (ha:ec a) (op:Int):ec (RL op a b):=by
 have hq:ec (JN a b):=by
  unfold JN
  split
  ·exact⟨by omega,by omega⟩
  ·split
   ·exact uw _
   ·exact uw _
 have hm:ec (N5 a b):=by
  unfold N5
  split
  ·exact ha
  ·exact uw _
 unfold RL
 repeat' (with_reducible refine TP ?_ ?_)
 all_goals first
  |exact SJ _
  |exact Q7 ha _
  |exact hq
  |exact hm
  |exact uw _
theorem QU (op a:Int):ec (QS op a):=by
 unfold QS
 split
 ·exact uw _
 ·exact SJ _
theorem getD_none {α:Type} {l:List α} {k:Nat} {d:α} (h:l.length<=k):l.getD k d=d:=by simp[List.getD,List.getElem?_eq_none h]
section
variable {u:cF} {m:MS} {t:Nat}
theorem Q9 (h:eo u m) (ht:t<u.cD.length) (k:Nat):ec ((m.cH.getD t []).getD k 0):=by
 by_cases hk:k<(m.cH.getD t []).length
 ·exact h.ER t ht _ (cQ 0 hk)
 ·rw[getD_none (Nat.le_of_not_lt hk)]
  exact⟨by omega,by omega⟩
theorem E6 (h:eo u m) (ht:t<u.cD.length) {v:jd} (hv:v.Wf):ec (m.val t v):=by
 unfold MS.val
 split
 ·exact Q9 h ht _
 ·exact hv.word
theorem Q5 (h:eo u m) (ht:t<u.cD.length) {n:Node} (hn:n.Wf):ec (m.EK t n):=by
 unfold MS.EK
 split
 ·exact RM (E6 h ht hn.a) _
 ·split
  ·exact QU _ _
  ·exact E6 h ht hn.a
theorem pX {α:Type} {l:List α} {i:Nat} {a x:α} (h:x∈l.set i a):x∈l\/x=a:=by
 rcases List.mem_or_eq_of_mem_set h with h|h
 ·exact .inl h
 ·exact .inr h
theorem getD_set_ne {α:Type} {l:List α} {i j:Nat} {v d:α} (h:i≠j):(l.set i v).getD j d=l.getD j d:=by simp[List.getD,List.getElem?_set_ne h]
theorem eo.gC (h:eo u m) (k w:Int) (hw:ec w):eo u (m.gC t k w) where
 rI:=h.rI
 iN:=h.iN
 sl:=by simp only[MS.gC,List.length_set];exact h.sl
 EP:=fun s hs=>by
  simp only[MS.gC]
  by_cases e:t=s
  ·subst e
   rw[eu (by rw[h.sl];exact hs),List.length_set]
   exact h.EP t hs
  ·rw[getD_set_ne e];exact h.EP s hs
 ER:=fun s hs x hx=>by
  simp only[MS.gC] at hx
  by_cases e:t=s
  ·subst e
   rw[eu (by rw[h.sl];exact hs)] at hx
   rcases pX hx with hx|rfl
   ·exact h.ER t hs x hx
   ·exact hw
  ·rw[getD_set_ne e] at hx;exact h.ER s hs x hx
 ml:=h.ml
 mw:=h.mw
 hl:=h.hl
 hw:=h.hw
 pw:=h.pw
theorem eo.mem (h:eo u m) (k:Nat) (w:Int) (hw:ec w):eo u { m with mem:=m.mem.set k w } where
 rI:=h.rI
 iN:=h.iN
 sl:=h.sl
 EP:=h.EP
 ER:=h.ER
 ml:=by simp only[List.length_set];exact h.ml
 mw:=fun x hx=>by
  rcases pX hx with hx|rfl
  ·exact h.mw x hx
  ·exact hw
 hl:=h.hl
 hw:=h.hw
 pw:=h.pw
theorem eo.hold (h:eo u m) (k:Nat) (w:Int) (hw:-1<=w/\w<u.cD.length):eo u { m with hold:=m.hold.set k w } where
 rI:=h.rI
 iN:=h.iN
 sl:=h.sl
 EP:=h.EP
 ER:=h.ER
 ml:=h.ml
 mw:=h.mw
 hl:=by simp only[List.length_set];exact h.hl
 hw:=fun x hx=>by
  rcases pX hx with hx|rfl
  ·exact h.hw x hx
  ·exact hw
 pw:=h.pw
theorem eo.print (h:eo u m) (p:de) (hp:0<=p.eA/\p.eA<u.cD.length/\ec p.word):eo u { m with cW:=m.cW++[p] } where
 rI:=h.rI
 iN:=h.iN
 sl:=h.sl
 EP:=h.EP
 ER:=h.ER
 ml:=h.ml
 mw:=h.mw
 hl:=h.hl
 hw:=h.hw
 pw:=fun x hx=>by
  rcases List.mem_append.1 hx with hx|hx
  ·exact h.pw x hx
  ·simp only[List.mem_cons,List.not_mem_nil,or_false] at hx
   subst hx;exact hp
theorem eo.ZK (h:eo u m) (k:Int) (hk:t<u.cD.length->0<=k/\k<(u.gr t).nodes.length):eo u { m with at_:=m.at_.set t k } where
 rI:=by simp only[List.length_set];exact h.rI
 iN:=fun s hs=>by
  by_cases e:t=s
  ·subst e
   dsimp only
   rw[eu (by rw[h.rI];exact hs)]
   exact hk hs
  ·dsimp only
   rw[getD_set_ne e];exact h.iN s hs
 sl:=h.sl
 EP:=h.EP
 ER:=h.ER
 ml:=h.ml
 mw:=h.mw
 hl:=h.hl
 hw:=h.hw
 pw:=h.pw
theorem lS (h:eo u m) (ht:t<u.cD.length) (hb:m.ly u t=0):(m.node u t).kind≠9/\¬((m.node u t).kind=5/\0<=m.hold.getD (m.node u t).cV.toNat 0):=by
 unfold MS.ly at hb
 rw[if_neg (by have:=h.rI;omega),Int.toNat_natCast] at hb
 refine⟨fun e=> ?_,fun e=> ?_⟩
 ·rw[if_pos e] at hb;cases hb
 ·rw[if_neg (by omega)] at hb
  rw[if_pos e] at hb
  cases hb
theorem GG (hu:u.Wf) (h:eo u m) (ht:t<u.cD.length):(m.node u t).Wf:=by
 have h1:=h.iN t ht
 exact(hu.cD _ (cQ default ht)).nodes _ (cQ default (show(m.at_.getD t 0).toNat<(u.gr t).nodes.length by omega))
theorem SV (hu:u.Wf) (hr:cj u) (h:eo u m) (ht:t<u.cD.length):eo u (m.act t (m.node u t)).1:=by
 have hn:=h.node hr ht
 have hw:=GG hu h ht
 have hst:=Q5 h ht hw
 have hva:=E6 h ht hw.a
 have hmw:ec (m.mem.getD (m.node u t).cV.toNat 0):=by
  by_cases hk:(m.node u t).cV.toNat<m.mem.length
  ·exact h.mw _ (cQ 0 hk)
  ·rw[getD_none (Nat.le_of_not_lt hk)];exact⟨by omega,by omega⟩
 generalize m.node u t=n at *
 unfold MS.act
 split
 ·exact h.gC _ _ hst
 split
 ·exact h.gC _ _ hmw
 split
 ·exact h.mem _ _ hva
 split
 ·exact(h.gC (t:=t) n.slot _ hmw).mem _ _ hva
 split
 ·exact h.hold _ _ ⟨by omega,by omega⟩
 split
 ·exact h.hold _ _ ⟨by omega,by omega⟩
 split
 ·exact h.print _ ⟨by dsimp only;omega,by dsimp only;omega,hva⟩
 ·exact h
theorem KZ (hr:cj u) (h:eo u m) (ht:t<u.cD.length) (hk:(m.node u t).kind≠9):0<=(m.act t (m.node u t)).2.1/\(m.act t (m.node u t)).2.1<(u.gr t).nodes.length:=by
 have hn:=h.node hr ht
 generalize m.node u t=n at *
 have hkd:=hn.kind
 have hnx:=hn.next.1 (by unfold iY;exact decide_eq_true (by omega))
 unfold MS.act
 repeat' split
 all_goals first
  |exact hnx
  |exact hn.sY.1 (by omega)
theorem yI (hu:u.Wf) (hr:cj u) (h:eo u m) (ht:t<u.cD.length) (hk:(m.node u t).kind≠9):eo u (m.step u t).1:=by
 have h1:=SV hu hr h ht
 have h2:=KZ hr h ht hk
 have h3:(m.step u t).1={ (m.act t (m.node u t)).1 with at_:=m.at_.set t (m.act t (m.node u t)).2.1 }:=rfl
 have h4:(m.act t (m.node u t)).1.at_=m.at_:=by
  unfold MS.act
  repeat' split
  all_goals rfl
 rw[h3,<-h4]
 exact h1.ZK _ fun _=>h2
end
end
section
structure ML where
 mr:Nat
 a:Nat
 s:Nat
 me:Nat
 ho:Nat
 pr:Nat
 ids:List Nat
abbrev ML.all (L:ML):List Nat:=L.mr::L.a::L.s::L.me::L.ho::L.pr::L.ids
abbrev ML.it (L:ML) (t:Nat):Nat:=L.ids.getD t 0
abbrev ML.At (L:ML) (u:cF) (m:MS) (H:Hp):Prop:=US u m L.mr L.a L.s L.me L.ho L.pr L.ids H
theorem US.CZ {u:cF} {m:MS} {mr a s me ho pr:Nat} {ids:List Nat} {H:Hp} (h:US u m mr a s me ho pr ids H) (k:Nat):dA.df H (k+4) (.pt mr 1 0 0)=m.fz u:=by
 obtain⟨d1,h1⟩:=h.rM
 obtain⟨d2,h2⟩:=h.rA
 obtain⟨d3,h3⟩:=h.rS
 obtain⟨d4,h4⟩:=h.rE
 obtain⟨d5,h5⟩:=h.rH
 obtain⟨d6,h6⟩:=h.rP
 have hsl:(eJ ids m.cH).length=m.cH.length:=by unfold eJ;rw[List.length_map,List.length_zip,h.len];simp
 have hs:(eJ ids m.cH).map (dA.df H (k+1))=m.cH.map c8:=by
  apply List.ext_getElem (by simp[hsl])
  intro t q1 q2
  have ht:t<m.cH.length:=by simpa using q2
  have hti:t<ids.length:=by rw[h.len];exact ht
  obtain⟨d,hd⟩:=h.rL t ht
  rw[show ids.getD t 0=ids[t] by simp[List.getD,hti],show m.cH.getD t []=m.cH[t] by simp[List.getD,ht]] at hd
  rw[List.getElem_map,List.getElem_map]
  simp only[eJ,List.getElem_map,List.getElem_zip]
  rw[dN hd (by simp),cr _ ((cL _ _).2 fun _ _=>by simp[cP])]
 simp only[dA.df,h1]
 simp only[List.length_cons,List.length_nil,if_true,List.map_cons,List.map_nil,MS.rows]
 rw[oI]
 simp only[List.map_cons,List.map_nil]
 rw[dN h2 (by simp),dN h3 hsl,dN h4 (by simp),dN h5 (by simp),dN h6 (by simp),hs]
 rw[cr _ ((cL _ _).2 fun _ _=>by simp[cP]),cr _ ((cL _ _).2 fun _ _=>by simp[cP]),cr _ ((cL _ _).2 fun _ _=>by simp[cP]),cr _ ((cL _ _).2 fun _ _=>by simp[cP])]
 rw[dX _ (show cP 0 (cq u.shared) by simp[cP,cL]),dX _ (show cP 0 (cq u.cI) by simp[cP,cL]),dX _ (show cP 0 (dy u.cD) by simp[cP,cL])]
 rfl
section
variable {u:cF} {m:MS} {L:ML} {H H':Hp}
theorem gp {p:Prop} (h:p:=by first|assumption|(refine Ne.symm ?_;assumption)):p:=h
theorem ML.At.mem (h:L.At u m H):(∀x∈[L.a,L.s,L.me,L.ho,L.pr],x∈L.all):=by
 intro x hx
 simp only[List.mem_cons,List.not_mem_nil,or_false] at hx
 simp only[ML.all,List.mem_cons]
 omega
theorem mU (h:L.At u m H) {t:Nat} (ht:t<m.cH.length):L.it t∈L.all:=by
 have:L.it t∈L.ids:=eW (by rw[h.len];exact ht)
 simp only[ML.all,List.mem_cons]
 exact .inr (.inr (.inr (.inr (.inr (.inr this)))))
theorem V5 (h:L.At u m H) {t s:Nat} (ht:t<m.cH.length) (hs:s<m.cH.length) (e:s≠t):L.it s≠L.it t:=by
 have h1:=(List.nodup_cons.1 (List.nodup_cons.1 (List.nodup_cons.1 (List.nodup_cons.1 (List.nodup_cons.1 (List.nodup_cons.1 h.nodup).2).2).2).2).2).2
 have hl:=h.len
 intro he
 have ht':t<L.ids.length:=by omega
 have hs':s<L.ids.length:=by omega
 have:L.ids[s]=L.ids[t]:=by simpa[ML.it,List.getD,ht',hs'] using he
 exact e ((List.getElem_inj h1).1 this)
structure ML.RR (L:ML) (t:Nat):Prop where
 ne:L.mr≠L.a/\L.mr≠L.s/\L.mr≠L.me/\L.mr≠L.ho/\L.mr≠L.pr/\L.a≠L.s/\L.a≠L.me/\L.a≠L.ho/\L.a≠L.pr/\L.s≠L.me/\L.s≠L.ho/\L.s≠L.pr/\L.me≠L.ho/\L.me≠L.pr/\L.ho≠L.pr
 it:L.it t≠L.mr/\L.it t≠L.a/\L.it t≠L.s/\L.it t≠L.me/\L.it t≠L.ho/\L.it t≠L.pr
theorem apart (h:L.At u m H) {t:Nat} (ht:t<m.cH.length):L.RR t:=by
 have hn:=h.nodup
 have hi:L.it t∈L.ids:=eW (by rw[h.len];exact ht)
 have hne:∀x,x∉L.ids->L.it t≠x:=fun x hx e=>hx (e▸hi)
 simp only[List.nodup_cons,List.mem_cons,not_or] at hn
 obtain⟨⟨a1,a2,a3,a4,a5,a6⟩,⟨b1,b2,b3,b4,b5⟩,⟨c1,c2,c3,c4⟩,⟨d1,d2,d3⟩,⟨e1,e2⟩,f1,_⟩:=hn
 exact⟨⟨a1,a2,a3,a4,a5,b1,b2,b3,b4,c1,c2,c3,d1,d2,e1⟩,hne _ a6,hne _ b5,hne _ c4,hne _ d3,hne _ e2,hne _ f1⟩
theorem ML.At.cd (h:L.At u m H) (hk:∀y∈L.all,cC H' y=cC H y):L.At u m H':=by
 have hm:=h.mem
 obtain⟨d1,h1⟩:=h.rM
 obtain⟨d2,h2⟩:=h.rA
 obtain⟨d3,h3⟩:=h.rS
 obtain⟨d4,h4⟩:=h.rE
 obtain⟨d5,h5⟩:=h.rH
 obtain⟨d6,h6⟩:=h.rP
 refine⟨⟨d1,(hk _ (by simp)).trans h1⟩,⟨d2,(hk _ (hm _ (by simp))).trans h2⟩,⟨d3,(hk _ (hm _ (by simp))).trans h3⟩,fun t ht=> ?_,⟨d4,(hk _ (hm _ (by simp))).trans h4⟩,⟨d5,(hk _ (hm _ (by simp))).trans h5⟩,⟨d6,(hk _ (hm _ (by simp))).trans h6⟩,h.len,h.nodup⟩
 obtain⟨d,hd⟩:=h.rL t ht
 exact⟨d,(hk _ (mU h ht)).trans hd⟩
theorem ML.At.gC (h:L.At u m H) {t:Nat} (ht:t<m.cH.length) (k w:Int) (hit:∃d,cC H' (L.it t)=some (.row 2 1 d (((m.cH.getD t []).map i64).set k.toNat (i64 w)))) (hk:∀y∈L.all,y≠L.it t->cC H' y=cC H y):L.At u (m.gC t k w) H':=by
 obtain⟨-,n1,n2,n3,n4,n5,n6⟩:=apart h ht
 have hm:=h.mem
 obtain⟨d1,h1⟩:=h.rM
 obtain⟨d2,h2⟩:=h.rA
 obtain⟨d3,h3⟩:=h.rS
 obtain⟨d4,h4⟩:=h.rE
 obtain⟨d5,h5⟩:=h.rH
 obtain⟨d6,h6⟩:=h.rP
 have hl:(m.gC t k w).cH.length=m.cH.length:=by simp[MS.gC]
 have hrow:eJ L.ids (m.gC t k w).cH=eJ L.ids m.cH:=by
  unfold eJ MS.gC
  apply List.ext_getElem (by simp)
  intro i q1 q2
  simp only[List.getElem_map,List.getElem_zip,AV.sl.injEq,true_and]
  rw[List.getElem_set]
  have hi:i<m.cH.length:=by simp at q2;omega
  split
  ·rename_i e;subst e;rw[List.length_set];simp[List.getD,hi]
  ·rfl
 refine⟨⟨d1, ?_⟩,⟨d2,(hk _ (hm _ (by simp)) gp).trans h2⟩,⟨d3,by rw[hrow];exact(hk _ (hm _ (by simp)) gp).trans h3⟩,fun s hs=> ?_,⟨d4,(hk _ (hm _ (by simp)) gp).trans h4⟩,⟨d5,(hk _ (hm _ (by simp)) gp).trans h5⟩,⟨d6,(hk _ (hm _ (by simp)) gp).trans h6⟩,by rw[hl];exact h.len,h.nodup⟩
 ·rw[show(m.gC t k w).rows u L.a L.s L.me L.ho L.pr=m.rows u L.a L.s L.me L.ho L.pr by simp[MS.rows,MS.gC]]
  exact(hk _ (by simp) gp).trans h1
 ·rw[hl] at hs
  by_cases e:s=t
  ·subst e
   obtain⟨d,hd⟩:=hit
   refine⟨d,hd.trans ?_⟩
   rw[show(m.gC s k w).cH.getD s []=(m.cH.getD s []).set k.toNat w from eu hs,List.map_set]
  ·obtain⟨d,hd⟩:=h.rL s hs
   refine⟨d, ?_⟩
   rw[show(m.gC t k w).cH.getD s []=m.cH.getD s [] from getD_set_ne (Ne.symm e)]
   exact(hk _ (mU h hs) (V5 h ht hs e)).trans hd
theorem ML.At.gJ (h:L.At u m H) {t:Nat} (ht:t<m.cH.length) (k w:Int) (hme:∃d,cC H' L.me=some (.row 2 1 d ((m.mem.map i64).set k.toNat (i64 w)))) (hk:∀y∈L.all,y≠L.me->cC H' y=cC H y):L.At u { m with mem:=m.mem.set k.toNat w } H':=by
 obtain⟨⟨a1,a2,a3,a4,a5,b1,b2,b3,b4,c1,c2,c3,e1,e2,f1⟩,n1,n2,n3,n4,n5,n6⟩:=apart h ht
 have hm:=h.mem
 obtain⟨d1,h1⟩:=h.rM
 obtain⟨d2,h2⟩:=h.rA
 obtain⟨d3,h3⟩:=h.rS
 obtain⟨d4,h4⟩:=hme
 obtain⟨d5,h5⟩:=h.rH
 obtain⟨d6,h6⟩:=h.rP
 refine⟨⟨d1, ?_⟩,⟨d2,(hk _ (hm _ (by simp)) gp).trans h2⟩,⟨d3,(hk _ (hm _ (by simp)) gp).trans h3⟩,fun s hs=> ?_,⟨d4,by rw[List.map_set];exact h4⟩,⟨d5,(hk _ (hm _ (by simp)) gp).trans h5⟩,⟨d6,(hk _ (hm _ (by simp)) gp).trans h6⟩,h.len,h.nodup⟩
 ·rw[show({ m with mem:=m.mem.set k.toNat w }:MS).rows u L.a L.s L.me L.ho L.pr=m.rows u L.a L.s L.me L.ho L.pr by simp[MS.rows]]
  exact(hk _ (by simp) gp).trans h1
 ·obtain⟨d,hd⟩:=h.rL s hs
  obtain⟨m1,m2,m3,m4,m5,m6⟩:=(apart h hs).it
  exact⟨d,(hk _ (mU h hs) gp).trans hd⟩
theorem ML.At.M7 (h:L.At u m H) {t:Nat} (ht:t<m.cH.length) (k w:Int) (hho:∃d,cC H' L.ho=some (.row 3 1 d ((m.hold.map i64).set k.toNat (i64 w)))) (hk:∀y∈L.all,y≠L.ho->cC H' y=cC H y):L.At u { m with hold:=m.hold.set k.toNat w } H':=by
 obtain⟨⟨a1,a2,a3,a4,a5,b1,b2,b3,b4,c1,c2,c3,e1,e2,f1⟩,n1,n2,n3,n4,n5,n6⟩:=apart h ht
 have hm:=h.mem
 obtain⟨d1,h1⟩:=h.rM
 obtain⟨d2,h2⟩:=h.rA
 obtain⟨d3,h3⟩:=h.rS
 obtain⟨d4,h4⟩:=h.rE
 obtain⟨d5,h5⟩:=hho
 obtain⟨d6,h6⟩:=h.rP
 refine⟨⟨d1, ?_⟩,⟨d2,(hk _ (hm _ (by simp)) gp).trans h2⟩,⟨d3,(hk _ (hm _ (by simp)) gp).trans h3⟩,fun s hs=> ?_,⟨d4,(hk _ (hm _ (by simp)) gp).trans h4⟩,⟨d5,by rw[List.map_set];exact h5⟩,⟨d6,(hk _ (hm _ (by simp)) gp).trans h6⟩,h.len,h.nodup⟩
 ·rw[show({ m with hold:=m.hold.set k.toNat w }:MS).rows u L.a L.s L.me L.ho L.pr=m.rows u L.a L.s L.me L.ho L.pr by simp[MS.rows]]
  exact(hk _ (by simp) gp).trans h1
 ·obtain⟨d,hd⟩:=h.rL s hs
  obtain⟨m1,m2,m3,m4,m5,m6⟩:=(apart h hs).it
  exact⟨d,(hk _ (mU h hs) gp).trans hd⟩
theorem ML.At.ZK (h:L.At u m H) {t:Nat} (ht:t<m.cH.length) (k:Nat) (w:Int) (hat:∃d,cC H' L.a=some (.row 3 1 d ((m.at_.map i64).set k (i64 w)))) (hk:∀y∈L.all,y≠L.a->cC H' y=cC H y):L.At u { m with at_:=m.at_.set k w } H':=by
 obtain⟨⟨a1,a2,a3,a4,a5,b1,b2,b3,b4,c1,c2,c3,e1,e2,f1⟩,n1,n2,n3,n4,n5,n6⟩:=apart h ht
 have hm:=h.mem
 obtain⟨d1,h1⟩:=h.rM
 obtain⟨d2,h2⟩:=hat
 obtain⟨d3,h3⟩:=h.rS
 obtain⟨d4,h4⟩:=h.rE
 obtain⟨d5,h5⟩:=h.rH
 obtain⟨d6,h6⟩:=h.rP
 refine⟨⟨d1, ?_⟩,⟨d2,by rw[List.map_set];exact h2⟩,⟨d3,(hk _ (hm _ (by simp)) gp).trans h3⟩,fun s hs=> ?_,⟨d4,(hk _ (hm _ (by simp)) gp).trans h4⟩,⟨d5,(hk _ (hm _ (by simp)) gp).trans h5⟩,⟨d6,(hk _ (hm _ (by simp)) gp).trans h6⟩,h.len,h.nodup⟩
 ·rw[show({ m with at_:=m.at_.set k w }:MS).rows u L.a L.s L.me L.ho L.pr=m.rows u L.a L.s L.me L.ho L.pr by simp[MS.rows]]
  exact(hk _ (by simp) gp).trans h1
 ·obtain⟨d,hd⟩:=h.rL s hs
  obtain⟨m1,m2,m3,m4,m5,m6⟩:=(apart h hs).it
  exact⟨d,(hk _ (mU h hs) gp).trans hd⟩
theorem ML.At.N1 (h:L.At u m H) {t:Nat} (ht:t<m.cH.length) (p:de) (hmr:∃d,cC H' L.mr=some (.row 114 8 d [({ m with cW:=m.cW++[p] }:MS).rows u L.a L.s L.me L.ho L.pr])) (hpr:∃d,cC H' L.pr=some (.row 155 2 d (m.cW.map de.av++[p.av]))) (hk:∀y∈L.all,y≠L.pr->y≠L.mr->cC H' y=cC H y):L.At u { m with cW:=m.cW++[p] } H':=by
 obtain⟨⟨a1,a2,a3,a4,a5,b1,b2,b3,b4,c1,c2,c3,e1,e2,f1⟩,n1,n2,n3,n4,n5,n6⟩:=apart h ht
 have hm:=h.mem
 obtain⟨d2,h2⟩:=h.rA
 obtain⟨d3,h3⟩:=h.rS
 obtain⟨d4,h4⟩:=h.rE
 obtain⟨d5,h5⟩:=h.rH
 obtain⟨d6,h6⟩:=hpr
 refine⟨hmr,⟨d2,(hk _ (hm _ (by simp)) gp gp).trans h2⟩,⟨d3,(hk _ (hm _ (by simp)) gp gp).trans h3⟩,fun s hs=> ?_,⟨d4,(hk _ (hm _ (by simp)) gp gp).trans h4⟩,⟨d5,(hk _ (hm _ (by simp)) gp gp).trans h5⟩,⟨d6,by rw[List.map_append];exact h6⟩,h.len,h.nodup⟩
 obtain⟨d,hd⟩:=h.rL s hs
 obtain⟨m1,m2,m3,m4,m5,m6⟩:=(apart h hs).it
 exact⟨d,(hk _ (mU h hs) gp gp).trans hd⟩
end
end
def AC (x:AV) (t:Int) (n:Node) (d:iK):List AV:=[x,i64 t,u8 n.kind,u8 n.op,i64 n.slot,i64 n.cV,bl n.a.iC,i64 n.a.slot,i64 n.a.word,bl n.b.iC,i64 n.b.slot,i64 n.b.word,i64 n.next,i64 n.sY,i64 n.origin,i64 d.eA,i64 d.node,u8 d.kind,i64 d.cV,i64 d.word,i64 d.put]
abbrev oj (u:cF) (m:MS) (t:Int) (n:Node) (d:iK):AV:= .ip 21 .any [.agg (AC (m.fz u) t n d)] 0 0
@[simp] theorem Z2 (k:Nat) (u:cF) (m:MS) (t:Int) (n:Node) (d:iK):cg k (AC (m.fz u) t n d):=by
  simp[cP,cg,AC]
structure vW (u:cF) (m:MS) (t:Nat) (n:Node) (d:iK) (ab:Nat) (L:ML) (H:Hp):Prop where
 M:L.At u m H
 row:∃dd,cC H ab=some (.row 118 21 dd [.agg (AC (.pt L.mr 1 0 0) t n d)])
 out:ab∉L.all
theorem vW.df {u:cF} {m:MS} {t:Nat} {n:Node} {d:iK} {ab:Nat} {L:ML} {H:Hp} (h:vW u m t n d ab L H):dA.df H 6 (.pt ab 1 0 0)=oj u m t n d:=by
 obtain⟨dd,hr⟩:=h.row
 rw[show dA.df H 6 (.pt ab 1 0 0)= .ip 21 .any (([.agg (AC (.pt L.mr 1 0 0) t n d)]:List AV).map (dA.df H 5)) 0 0 from TK hr rfl]
 simp only[List.map_cons,List.map_nil]
 rw[oI]
 simp only[AC,List.map_cons,List.map_nil]
 have:=h.M.CZ 0
 rw[this]
 simp only[dA.df]
 rfl
theorem vW.cd {u:cF} {m:MS} {t:Nat} {n:Node} {d:iK} {ab:Nat} {L:ML} {H H':Hp} (h:vW u m t n d ab L H) (hk:∀y∈ab::L.all,cC H' y=cC H y):vW u m t n d ab L H':=by
 obtain⟨dd,hr⟩:=h.row
 exact⟨h.M.cd fun y hy=>hk y (List.mem_cons_of_mem _ hy),⟨dd,(hk ab (by simp)).trans hr⟩,h.out⟩
def oi (m:MS) (t:Nat) (v:jd):Prop:=v.iC=true->0<=v.slot/\v.slot<(m.cH.getD t []).length
theorem js (u:cF) (m:MS) {t:Nat} (n:Node) (d:iK) (v:jd) (ht:t<m.cH.length) (hl:m.cH.length<=8) (hv:oi m t v):Pure Tryz.prog 158 [oj u m t n d,v.av] (fun r=>r=i64 (m.val t v)):=by
 unfold MS.val
 have e0:∀d,(m.cH.map c8).getD ((t:Int)).toNat d=c8 (m.cH.getD t []):=fun d=>by rw[Int.toNat_natCast];exact dI c8 m.cH t d ht
 have a0:(m.cH.map c8).length=m.cH.length:=by simp
 cases hs:v.iC with
 |true=>
  have r0:=hs
  obtain⟨v1,v2⟩:=hv hs
  have a1:((m.cH.getD t []).map i64).length=(m.cH.getD t []).length:=by simp
  have e1:=fun d=>qR (l:=m.cH.getD t []) (k:=v.slot) (by omega) d
  rw[if_pos rfl]
  refine aG SA rfl ?_
  refine ca ?_
  first|exact rfl|trivial
 |false=>
  have r0:=hs
  rw[if_neg (by decide)]
  refine aG SA rfl ?_
  refine ca ?_
  first|exact rfl|trivial
abbrev vC (u:cF) (m:MS) (t:Nat) (n:Node) (d:iK) (ab:Nat) (L:ML) (H0:Hp) (nx:Nat) (H:Hp) (k:Nat):Prop:=vW u m t n d ab L H/\nx<=k/\∀y,y<nx->y≠ab->y∉L.all->cC H y=cC H0 y
theorem ON {L:ML} {m:MS} {t:Nat} (hl:L.ids.length=m.cH.length) (ht:t<m.cH.length) (d:AV):(eJ L.ids m.cH).getD t d= .sl (L.it t) (m.cH.getD t []).length:=by
 have h1:t<L.ids.length:=by omega
 have h2:t<(L.ids.zip m.cH).length:=by rw[List.length_zip];omega
 simp[eJ,List.getD,ht,h1,List.getElem?_eq_getElem h2]
theorem wh {L:ML} {m:MS} (hl:L.ids.length=m.cH.length):(eJ L.ids m.cH).length=m.cH.length:=by
 unfold eJ;rw[List.length_map,List.length_zip,hl];simp
theorem di {x y:Nat} {l:List Nat} (h:x∉l) (hy:y∈l):y≠x:=fun e=>h (e▸hy)
set_option maxHeartbeats 1000000 in
theorem l5 {u:cF} {m:MS} {t:Nat} {n:Node} {d:iK} {ab:Nat} {L:ML} {H:Hp} {nx:Nat} (h:vW u m t n d ab L H) (hlt:∀y∈ab::L.all,y<nx) (ht:t<m.cH.length) (hl:m.cH.length<=8) (hs:0<=n.slot/\n.slot<(m.cH.getD t []).length) (w:Int):
 cT Tryz.prog 162 [.pt ab 1 0 0,i64 w] H nx (fun _ H' k=>vC u (m.gC t n.slot w) t n { d with word:=w } ab L H nx H' k):=by
 obtain⟨hM,⟨dd,ra⟩,hout⟩:=h
 obtain⟨⟨a1,a2,a3,a4,a5,b1,b2,b3,b4,c1,c2,c3,e1,e2,f1⟩,n1,n2,n3,n4,n5,n6⟩:=apart hM ht
 have hmem:=hM.mem
 have k0:=hlt ab (by simp)
 have km:=hlt L.mr (by simp)
 have ks:=hlt L.s (List.mem_cons_of_mem _ (hmem _ (by simp)))
 have ki:=hlt (L.it t) (List.mem_cons_of_mem _ (mU hM ht))
 have o1:=di hout (List.mem_cons_self (a:=L.mr))
 have o2:=di hout (hmem L.s (by simp))
 have o3:=di hout (mU hM ht)
 obtain⟨d1,r1⟩:=hM.rM
 obtain⟨d3,r3⟩:=hM.rS
 obtain⟨d7,r7⟩:=hM.rL t ht
 have e0:∀d,(eJ L.ids m.cH).getD ((t:Int)).toNat d= .sl (L.it t) (m.cH.getD t []).length:=fun d=>by rw[Int.toNat_natCast];exact ON hM.len ht d
 have q0:=wh hM.len
 have q1:((m.cH.getD t []).map i64).length=(m.cH.getD t []).length:=by simp
 obtain⟨hs1,hs2⟩:=hs
 refine aM XH rfl ?_
 refine ca ?_
 exact⟨⟨hM.gC ht _ _ ⟨_,cE⟩ fun y hy hne=>by have:=di hout hy;exact cM,⟨_,cE⟩,hout⟩,cZ,fun y y1 y2 y3=>by have y4:=di y3 (mU hM ht);exact cM⟩
end Go.Proofs.YtjopoheligmmoaaGreatDoor
