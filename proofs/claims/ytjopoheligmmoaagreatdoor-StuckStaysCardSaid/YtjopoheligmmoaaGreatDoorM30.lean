import Derived.Test.YtjopoheligmmoaaGreatDoorM27
import Derived.Test.YtjopoheligmmoaaGreatDoorM24
import Derived.Test.YtjopoheligmmoaaGreatDoorM28
import Derived.Test.YtjopoheligmmoaaGreatDoorM29
namespace Go.Proofs.YtjopoheligmmoaaGreatDoor
open Go Go.cp Go.Proofs
set_option linter.unusedSimpArgs false
set_option linter.unusedVariables false
set_option maxHeartbeats 1000000
set_option maxRecDepth 8000
structure dW where
 dc:Int
 word:Int
 deriving Inhabited,DecidableEq
def dW.cells (p:dW):List AV:=[i64 p.dc,i64 p.word]
abbrev dW.av (p:dW):AV:= .agg p.cells
structure MS where
 at_:List Int
 cC:List (List Int)
 mem:List Int
 hold:List Int
 cQ:List dW
 deriving Inhabited,DecidableEq
abbrev cL (l:List Int):AV:= .im 1 .any (l.map i64)
abbrev CU (l:List (List Int)):AV:= .im 1 .any (l.map cL)
abbrev fq (l:List dW):AV:= .im 2 .any (l.map dW.av)
def MS.cells (u:bx) (m:MS):List AV:=[cw u.shared,cw u.cG,df u.bz,cL m.at_,CU m.cC,cL m.mem,cL m.hold,fq m.cQ]
abbrev MS.fz (u:bx) (m:MS):AV:= .ip 8 .any [.agg (m.cells u)] 0 0
@[simp] theorem P6 (n:Nat) (p:dW):c8 n p.cells:=by simp[dW.cells,c8,cK]
@[simp] theorem UG (n:Nat) (u:bx) (m:MS):c8 n (m.cells u):=by simp[MS.cells,c8,cK,cD]
theorem ll (n:Nat) (u:bx) (m:MS):cK n (m.fz u):=by simp[cK,c8]
structure eN (u:bx) (m:MS):Prop where
 pV:m.at_.length=u.bz.length
 gV:∀t,t<u.bz.length->0<=m.at_.getD t 0/\m.at_.getD t 0<(u.gr t).nodes.length
 sl:m.cC.length=u.bz.length
 A7:∀t,t<u.bz.length->(m.cC.getD t []).length=(u.gr t).cC.toNat
 A8:∀t,t<u.bz.length->∀w∈m.cC.getD t [],eP w
 ml:m.mem.length=u.shared.length
 mw:∀w∈m.mem,eP w
 hl:m.hold.length=u.cG.length
 hw:∀w∈m.hold,-1<=w/\w<u.bz.length
 pw:∀p∈m.cQ,0<=p.dc/\p.dc<u.bz.length/\eP p.word
abbrev MS.node (u:bx) (m:MS) (t:Nat):Node:=(u.gr t).nd (m.at_.getD t 0).toNat
def MS.kZ (u:bx) (m:MS) (t:Int):Int:=if t<0\/(m.at_.length:Int)<=t then 2 else if(m.node u t.toNat).kind=9 then 70 else if(m.node u t.toNat).kind=5/\0<=m.hold.getD (m.node u t.toNat).cR.toNat 0 then 71 else 0
theorem ints_at {l:List Int} {k:Nat} (h:k<l.length) (d:AV):(l.map i64).getD ((k:Int)).toNat d=i64 (l.getD k 0):=by
 rw[Int.toNat_natCast];exact dJ i64 l k d h
theorem oV {l:List Int} {k:Int} (h:k.toNat<l.length) (d:AV):(l.map i64).getD k.toNat d=i64 (l.getD k.toNat 0):=dJ i64 l k.toNat d h
theorem eN.node {u:bx} {m:MS} (hr:cW u) (h:eN u m) {t:Nat} (ht:t<u.bz.length):nL u (u.gr t) (m.node u t):=by
 have:=h.gV t ht
 exact(hr.gr ht).nodes _ (cS default (by omega))
theorem BY {u:bx} {m:MS} {t:Int} (h:t<0\/(m.at_.length:Int)<=t):m.kZ u t=2:=by unfold MS.kZ;rw[if_pos h]
theorem yZ (u:bx) (m:MS) (t:Int):Pure Tryz.prog 68 [m.fz u,i64 t] (fun r=>r=bl (decide (¬(t<0\/(m.at_.length:Int)<=t)))):=by
 refine aG VC rfl ?_
 refine cV ?_
 refine ez ?_
 rw[List.length_map]
 by_cases h1:0<=t<;>by_cases h2:t<m.at_.length<;>simp[h1,h2]<;>omega
set_option maxRecDepth 8000 in
set_option maxHeartbeats 2000000 in
theorem vO (u:bx) (hr:cW u) (m:MS) (h:eN u m) (t:Int):Pure Tryz.prog 69 [m.fz u,i64 t] (fun r=>r=i64 (m.kZ u t)):=by
 have c0:=yZ u m t
 have hl:=h.pV
 by_cases ht:t<0\/(m.at_.length:Int)<=t
 ·rw[BY ht]
  rw[decide_eq_false (fun e=>e ht)] at c0
  refine aG I3 rfl ?_
  refine cV ?_
  first|exact rfl|trivial
 ·rw[decide_eq_true ht] at c0
  obtain⟨k,rfl⟩:∃k:Nat,t=k:=⟨t.toNat,by omega⟩
  have hk:k<u.bz.length:=by omega
  have hbar:m.kZ u k=if(m.node u k).kind=9 then 70 else if(m.node u k).kind=5/\0<=m.hold.getD (m.node u k).cR.toNat 0 then 71 else 0:=by
   unfold MS.kZ;rw[if_neg ht,Int.toNat_natCast]
  rw[hbar]
  have hno:=h.node hr hk
  obtain⟨p0,p1⟩:=h.gV k hk
  have e0:=fun d=>sF (l:=u.bz) hk d
  have e1:=fun d=>ints_at (l:=m.at_) (k:=k) (by omega) d
  obtain⟨j,hj⟩:∃j:Nat,m.at_.getD k 0=j:=⟨(m.at_.getD k 0).toNat,by omega⟩
  rw[hj] at e1 p1
  have hnd:m.node u k=(u.gr k).nd j:=by unfold MS.node;rw[hj,Int.toNat_natCast]
  rw[hnd] at hno ⊢
  have hgr:u.bz.getD k default=u.gr k:=rfl
  rw[hgr] at e0
  generalize u.gr k=g at *
  have e2:=fun d=>j9 (l:=g.nodes) (i:=j) (by omega) d
  rw[show g.nodes.getD j default=g.nd j from rfl] at e2
  generalize g.nd j=n at *
  have a0:(u.bz.map cF.av).length=u.bz.length:=by simp
  have a1:(m.at_.map i64).length=u.bz.length:=by simp[hl]
  have a2:(g.nodes.map Node.av).length=g.nodes.length:=by simp
  have a3:(m.hold.map i64).length=u.cG.length:=by simp[h.hl]
  by_cases h9:n.kind=9
  ·have r0:=h9
   rw[if_pos h9]
   refine aG I3 rfl ?_
   refine cV ?_
   first|exact rfl|trivial
  ·rw[if_neg h9]
   by_cases h5:n.kind=5
   ·have hth:=hno.cR.1 (by unfold fx;exact decide_eq_true (by omega))
    rw[if_pos (.inl h5)] at hth
    have hhl:=h.hl
    have e3:=fun d=>oV (l:=m.hold) (k:=n.cR) (by omega) d
    have r0:=h5
    by_cases hh:0<=m.hold.getD n.cR.toNat 0
    ·rw[if_pos ⟨h5,hh⟩]
     have r1:=decide_eq_true hh
     refine aG I3 rfl ?_
     refine cV ?_
     first|exact rfl|trivial
    ·rw[if_neg fun e=>hh e.2]
     have r1:=decide_eq_false hh
     refine aG I3 rfl ?_
     refine cV ?_
     first|exact rfl|trivial
   ·rw[if_neg fun e=>h5 e.1]
    have r1:=decide_eq_false h5
    refine aG I3 rfl ?_
    refine cV ?_
    first|exact rfl|trivial
theorem yx (u:bx) (hr:cW u) (m:MS) (h:eN u m) (t:Int):Pure Tryz.prog 32 [m.fz u,i64 t] (fun r=>r=bl (decide (m.kZ u t=0))):=by
 have c0:=vO u hr m h t
 refine aG UQ rfl ?_
 refine cV ?_
 first|exact rfl|trivial
def MS.ended (u:bx) (m:MS):Bool:=(List.range m.at_.length).all fun t=>decide (m.kZ u t=70)
theorem HE (u:bx) (hr:cW u) (m:MS) (h:eN u m):Pure Tryz.prog 67 [m.fz u] (fun r=>r=bl (m.ended u)):=by
 have hl:=h.pV
 have hgl:=hr.qa
 refine aG VB rfl ?_
 refine cV ?_
 rw[List.length_map]
 refine aL (fun i:Nat=>[(0,m.fz u),(10,i64 m.at_.length),(11,i64 i)]) (fun i H n=>i<=m.at_.length/\∀j:Nat,j<i->m.kZ u j=70) (fun i=>m.at_.length - i) 0 cI ⟨Nat.zero_le _,fun j hj=>by omega⟩ ?_
 rintro i H n ⟨hi,hall⟩
 by_cases hil:i<m.at_.length
 ·have c0:=vO u hr m h i
  by_cases hb:m.kZ u i=70
  ·have r0:=hb
   refine cV ?_
   exact⟨i+1,by omega,cI,by omega,fun j hj=>by
    by_cases e:j=i
    ·rw[e];exact hb
    ·exact hall j (by omega)⟩
  ·have r0:=decide_eq_true hb
   refine cV ?_
   refine ez (Eq.symm ?_)
   unfold MS.ended
   rw[List.all_eq_false]
   exact⟨i,List.mem_range.2 hil,by simpa using hb⟩
 ·refine cV ?_
  refine ez (Eq.symm ?_)
  unfold MS.ended
  rw[List.all_eq_true]
  intro j hj
  exact decide_eq_true (hall j (by have:=List.mem_range.1 hj;omega))
structure cn where
 cQ:List dW
 mem:List Int
 ended:Bool
 deriving Inhabited,DecidableEq
def cn.cells (e:cn):List AV:=[fq e.cQ,cL e.mem,bl e.ended]
abbrev cn.av (e:cn):AV:= .agg e.cells
@[simp] theorem T2 (n:Nat) (e:cn):c8 n e.cells:=by simp[cn.cells,c8,cK,cD]
def eX (x y:Int):Int:=if x<y then -1 else if y<x then 1 else 0
def s7:List Int->Int
 |[]=>0
 |x::l=>if x=0 then s7 l else x
def jG (p q:dW):Int:=s7 [eX p.dc q.dc,eX p.word q.word]
def ec {α:Type} (f:α->α->Int):List α->List α->Int
 |[],[]=>0
 |[],_::_=>-1
 |_::_,[]=>1
 |x::a,y::b=>if f x y=0 then ec f a b else f x y
def vS (a b:Bool):Int:=if a=b then 0 else if b then -1 else 1
def ft (a b:cn):Int:=s7 [ec jG a.cQ b.cQ,ec eX a.mem b.mem,vS a.ended b.ended]
theorem vU {α:Type} (f:α->α->Int) (d:α) {a b:List α} {i:Nat} (h1:i<a.length) (h2:i<b.length):ec f (a.drop i) (b.drop i)=if f (a.getD i d) (b.getD i d)=0 then ec f (a.drop (i+1)) (b.drop (i+1)) else f (a.getD i d) (b.getD i d):=by
 rw[List.drop_eq_getElem_cons h1,List.drop_eq_getElem_cons h2,ec]
 simp[List.getD,List.getElem?_eq_getElem h1,List.getElem?_eq_getElem h2]
theorem rX {α:Type} (f:α->α->Int) {a b:List α} {i:Nat} (h1:i<a.length) (h2:b.length<=i):ec f (a.drop i) (b.drop i)=1:=by
 rw[List.drop_eq_getElem_cons h1,List.drop_of_length_le h2,ec]
theorem rV {α:Type} (f:α->α->Int) {a b:List α} {i:Nat} (h1:a.length<=i) (h2:i<=b.length):ec f (a.drop i) (b.drop i)=if i<b.length then -1 else 0:=by
 rw[List.drop_of_length_le h1]
 split
 ·rename_i h;rw[List.drop_eq_getElem_cons h,ec]
 ·rw[List.drop_of_length_le (by omega),ec]
theorem CM (x:Int):Pure Tryz.prog 104 [i64 x] (fun r=>r=bl false):=by
 refine aG Q9 rfl ?_
 refine cV ?_
 refine ez ?_
 simp
theorem xz (x:Int):Pure Tryz.prog 194 [i64 x] (fun r=>r=bl false):=by
 refine aG R8 rfl ?_
 refine cV ?_
 refine ez ?_
 simp
theorem rT (x y:Int):Pure Tryz.prog 62 [i64 x,i64 y] (fun r=>r=i64 (eX x y)):=by
 have c0:=CM x
 have c1:=CM y
 unfold eX
 by_cases h:x<y
 ·rw[if_pos h]
  refine aG O4 rfl ?_
  refine cV ?_
  first|exact rfl|trivial
 ·rw[if_neg h]
  by_cases h2:y<x
  ·rw[if_pos h2]
   refine aG O4 rfl ?_
   refine cV ?_
   first|exact rfl|trivial
  ·rw[if_neg h2]
   refine aG O4 rfl ?_
   refine cV ?_
   first|exact rfl|trivial
theorem uA (x y:Int):Pure Tryz.prog 152 [i64 x,i64 y] (fun r=>r=i64 (eX x y)):=by
 have c0:=xz x
 have c1:=xz y
 unfold eX
 by_cases h:x<y
 ·rw[if_pos h]
  refine aG I2 rfl ?_
  refine cV ?_
  first|exact rfl|trivial
 ·rw[if_neg h]
  by_cases h2:y<x
  ·rw[if_pos h2]
   refine aG I2 rfl ?_
   refine cV ?_
   first|exact rfl|trivial
  ·rw[if_neg h2]
   refine aG I2 rfl ?_
   refine cV ?_
   first|exact rfl|trivial
theorem JH {l:List Int} {i:Nat} (h:i<l.length):s7 (l.drop i)=if l.getD i 0=0 then s7 (l.drop (i+1)) else l.getD i 0:=by
 rw[List.drop_eq_getElem_cons h,s7]
 simp[List.getD,List.getElem?_eq_getElem h]
theorem wB (l:List Int) (hl:l.length<=1000):Pure Tryz.prog 61 [cL l] (fun r=>r=i64 (s7 l)):=by
 refine aG U9 rfl ?_
 refine cV ?_
 rw[List.length_map]
 refine aL (fun i:Nat=>[(3,i64 0),(6,cL l),(7,i64 l.length),(8,i64 i)]) (fun i H n=>i<=l.length/\s7 l=s7 (l.drop i)) (fun i=>l.length - i) 0 cI ⟨Nat.zero_le _,rfl⟩ ?_
 rintro i H n ⟨hi,ho⟩
 rw[ho]
 by_cases hil:i<l.length
 ·have e0:=fun d=>ints_at (l:=l) hil d
  have a0:(l.map i64).length=l.length:=by simp
  have hd:=JH hil
  by_cases hz:l.getD i 0=0
  ·have r0:=hz
   rw[if_pos hz] at hd
   refine cV ?_
   exact⟨i+1,by omega,cI,by omega,hd⟩
  ·have r0:=decide_eq_true hz
   rw[if_neg hz] at hd
   refine cV ?_
   rw[hd]
 ·rw[List.drop_of_length_le (by omega)]
  refine cV ?_
  first|exact rfl|trivial
theorem su {p:Prop} (h:Go p):p:=h
theorem DB {es:List AV} (hf:c8 0 es) (hl:es.length * 16<=140737488355328):cO Tryz.prog 184 [.im 2 .any es] [] 0 (fun r H _=>cp.dX H 6 r= .sc (.slice none 0 0)/\es=[]\/cp.dX H 6 r= .im 2 .any es):=by
 refine aJ R6 rfl ?_
 cases es with
 |nil=>
  refine cV ?_
  refine⟨su ?_,su ?_⟩
  ·refine cV ?_
   exact⟨.inl ⟨rfl,rfl⟩⟩
  ·refine cV ?_
   exact⟨.inr rfl⟩
 |cons x t=>
  have a0:(x::t).length * 16<=gC:=Nat.le_trans hl (by unfold gC;omega)
  simp only[List.length_cons] at hl
  refine cV ?_
  refine⟨.inr ((dZ (e:=155) (sz:=2) (es:=x::t) cA (Nat.zero_add _).symm).trans ?_)⟩
  rw[cx _ hf]
theorem DC {es:List AV} (hf:c8 0 es) (hl:es.length * 8<=140737488355328):cO Tryz.prog 185 [.im 1 .any es] [] 0 (fun r H _=>cp.dX H 6 r= .sc (.slice none 0 0)/\es=[]\/cp.dX H 6 r= .im 1 .any es):=by
 refine aJ R7 rfl ?_
 cases es with
 |nil=>
  refine cV ?_
  refine⟨su ?_,su ?_⟩
  ·refine cV ?_
   exact⟨.inl ⟨rfl,rfl⟩⟩
  ·refine cV ?_
   exact⟨.inr rfl⟩
 |cons x t=>
  have a0:(x::t).length * 8<=gC:=Nat.le_trans hl (by unfold gC;omega)
  simp only[List.length_cons] at hl
  refine cV ?_
  refine⟨.inr ((dZ (e:=2) (sz:=1) (es:=x::t) cA (Nat.zero_add _).symm).trans ?_)⟩
  rw[cx _ hf]
theorem wv (l:List dW) (hl:l.length * 16<=140737488355328):Pure Tryz.prog 184 [fq l] (fun r=>r=fq l):=
 mm (by simp[cK,cD]) (DB ((cD _ _).2 fun _ _=>by simp[cK]) (by rw[List.length_map];exact hl))
theorem wx (l:List Int) (hl:l.length * 8<=140737488355328):Pure Tryz.prog 185 [cL l] (fun r=>r=cL l):=
 mm (by simp[cK,cD]) (DC ((cD _ _).2 fun _ _=>by simp[cK]) (by rw[List.length_map];exact hl))
theorem E6 (u:bx) (m:MS) (hl:m.cQ.length * 16<=140737488355328):Pure Tryz.prog 147 [m.fz u] (fun r=>r=fq m.cQ):=by
 have c0:=wv m.cQ hl
 refine aG RQ rfl ?_
 refine cV ?_
 first|exact rfl|trivial
theorem EU (u:bx) (m:MS) (hl:m.mem.length * 8<=140737488355328):Pure Tryz.prog 148 [m.fz u] (fun r=>r=cL m.mem):=by
 have c0:=wx m.mem hl
 refine aG RR rfl ?_
 refine cV ?_
 first|exact rfl|trivial
def MS.stuck (u:bx) (m:MS):Bool:=(List.range m.at_.length).all fun t=>decide (m.kZ u t≠0)
def MS.end_ (u:bx) (m:MS):cn:=⟨m.cQ,m.mem,m.ended u⟩
def lG (u:bx) (m:MS):AV:=if m.stuck u then .dO [(m.end_ u).av,bl true] else .dO [.agg [.sc (.slice none 0 0), .sc (.slice none 0 0),bl false],bl false]
theorem ue (u:bx) (hr:cW u) (m:MS) (h:eN u m) (hp:m.cQ.length * 16<=140737488355328) (hm:m.mem.length * 8<=140737488355328):Pure Tryz.prog 94 [u.av,m.fz u] (fun r=>r=lG u m):=by
 have hl:=h.pV
 have hgl:=hr.qa
 have c1:=E6 u m hp
 have c2:=EU u m hm
 have c3:=HE u hr m h
 refine aG VN rfl ?_
 refine cV ?_
 rw[List.length_map,<-hl]
 refine aL (fun i:Nat=>[(1,m.fz u),(4, .pt 1 1 0 0),(9,i64 m.at_.length),(10,i64 i)]) (fun i H n=>i<=m.at_.length/\2<=n/\bw H 1=some (.row 105 3 (gN true [.slice none 0 0, .slice none 0 0, .bool false]) [gN true [.slice none 0 0, .slice none 0 0, .bool false]])/\∀j:Nat,j<i->m.kZ u j≠0) (fun i=>m.at_.length - i) 0 cI ⟨Nat.zero_le _,ca,cA,fun j hj=>by omega⟩ ?_
 rintro i H n ⟨hi,hn,hx,hall⟩
 by_cases hil:i<m.at_.length
 ·have c0:=yx u hr m h i
  by_cases hb:m.kZ u i=0
  ·have hs:m.stuck u=false:=by
    unfold MS.stuck
    rw[List.all_eq_false]
    exact⟨i,List.mem_range.2 hil,by simpa using hb⟩
   have r0:=decide_eq_true hb
   rw[lG,hs]
   refine cV ?_
   first|exact rfl|trivial
  ·have r0:=decide_eq_false hb
   refine cV ?_
   exact⟨i+1,by omega,cI,by omega,by omega,cA,fun j hj=>by
    by_cases e:j=i
    ·rw[e];exact hb
    ·exact hall j (by omega)⟩
 ·have hs:m.stuck u=true:=by
   unfold MS.stuck
   rw[List.all_eq_true]
   intro j hj
   exact decide_eq_true (hall j (by have:=List.mem_range.1 hj;omega))
  rw[lG,hs]
  refine cV ?_
  first|exact rfl|trivial
def eT (ids:List Nat) (l:List (List Int)):List AV:=(ids.zip l).map fun p=> .sl p.1 p.2.length
def MS.rows (u:bx) (m:MS) (a s me ho pr:Nat):AV:= .agg [cw u.shared,cw u.cG,df u.bz, .sl a m.at_.length, .sl s m.cC.length, .sl me m.mem.length, .sl ho m.hold.length, .sl pr m.cQ.length]
structure P0 (u:bx) (m:MS) (mr a s me ho pr:Nat) (ids:List Nat) (H:Hp):Prop where
 rM:∃d,bw H mr=some (.row 114 8 d [m.rows u a s me ho pr])
 rA:∃d,bw H a=some (.row 3 1 d (m.at_.map i64))
 rS:∃d,bw H s=some (.row 93 1 d (eT ids m.cC))
 rL:∀t,t<m.cC.length->∃d,bw H (ids.getD t 0)=some (.row 2 1 d ((m.cC.getD t []).map i64))
 rE:∃d,bw H me=some (.row 2 1 d (m.mem.map i64))
 rH:∃d,bw H ho=some (.row 3 1 d (m.hold.map i64))
 rP:∃d,bw H pr=some (.row 155 2 d (m.cQ.map dW.av))
 len:ids.length=m.cC.length
 nodup:(mr::a::s::me::ho::pr::ids).Nodup
theorem ui {ids:List Nat} {l:List (List Int)} (h:ids.length=l.length) (i:Nat) (x:List Int):eT (ids++[i]) (l++[x])=eT ids l++[.sl i x.length]:=by
 unfold eT
 rw[List.zip_append h]
 simp
theorem copied (es:List AV) (z:AV):List.take (es.length.min (es.length:Int).toNat) es++List.drop (es.length.min (es.length:Int).toNat) (List.replicate (es.length:Int).toNat z)=es:=by
 rw[Int.toNat_natCast,show es.length.min es.length=es.length from Nat.min_self _]
 simp
set_option maxHeartbeats 4000000 in
theorem zH (u:bx) (m:MS) (h1:m.at_.length<=4096) (h2:m.mem.length<=4096) (h3:m.hold.length<=4096) (h4:m.cQ.length<=1048576) (h5:m.cC.length<=4096) (h6:∀l∈m.cC,l.length<=1048576) (H0:Hp) (nx:Nat):cO Tryz.prog 146 [m.fz u] H0 nx (fun r H n=>∃mr a s me ho pr ids,r= .pt mr 1 0 0/\P0 u m mr a s me ho pr ids H/\(∀x∈mr::a::s::me::ho::pr::ids,nx<=x/\x<n)/\nx<=n/\∀y,y<nx->bw H y=bw H0 y):=by
 refine aJ RP rfl ?_
 refine cV ?_
 simp only[copied]
 simp only[List.length_map,Int.toNat_natCast]
 refine aU (fun σ:Nat×List Nat=>[(0,m.fz u),(3, .pt (nx+32) 1 0 0),(78,CU m.cC),(79,i64 m.cC.length),(80,i64 σ.1)])
  (fun σ H n=>σ.1<=m.cC.length/\nx+77<=n/\σ.2.length=σ.1/\σ.2.Nodup/\(∀x∈σ.2,nx+77<=x/\x<n)/\(∃d,bw H (nx+32)=some (.row 114 8 d [.agg [cw u.shared,cw u.cG,df u.bz, .sl (nx+12) m.at_.length, .sl (nx+76) σ.1, .sl (nx+18) m.mem.length, .sl (nx+24) m.hold.length, .sl (nx+30) m.cQ.length]]))/\(∃d,bw H (nx+12)=some (.row 3 1 d (m.at_.map i64)))/\(∃d,bw H (nx+18)=some (.row 2 1 d (m.mem.map i64)))/\(∃d,bw H (nx+24)=some (.row 3 1 d (m.hold.map i64)))/\(∃d,bw H (nx+30)=some (.row 155 2 d (m.cQ.map dW.av)))/\(∃d,bw H (nx+76)=some (.row 93 1 d (eT σ.2 (m.cC.take σ.1))))/\(∀t,t<σ.1->∃d,bw H (σ.2.getD t 0)=some (.row 2 1 d ((m.cC.getD t []).map i64)))/\∀y,y<nx->bw H y=bw H0 y) (fun σ=>m.cC.length - σ.1) (0,[])
  ⟨_,_,_,Rt.wk (Wk.og (b:=nx+32) (e:=93) (sz:=1) (by simp only[List.length_cons,List.length_nil];omega) (by omega) (te:=114) (tz:=8) (cs:=[cw u.shared,cw u.cG,df u.bz, .sl (nx+12) m.at_.length, .sc (.slice none 0 0), .sl (nx+18) m.mem.length, .sl (nx+24) m.hold.length, .sl (nx+30) m.cQ.length]) (j:=4) cA (by show 4<8;omega) rfl),cI,Nat.zero_le _,ca,rfl,List.nodup_nil,fun x hx=>by simp at hx,⟨_,cA⟩,⟨_,cA⟩,⟨_,cA⟩,⟨_,cA⟩,⟨_,cA⟩,⟨_,cA⟩,fun t ht=>absurd ht (Nat.not_lt_zero _),fun y hy=>cB⟩ ?_
 rintro⟨t,ids⟩ H n ⟨ht,hn,hil,hnd,hin,⟨d0,r0⟩,⟨d1,r1⟩,⟨d2,r2⟩,⟨d3,r3⟩,⟨d4,r4⟩,⟨d5,r5⟩,hls,hkp⟩
 dsimp only at ht hil hnd hin r0 r5 hls ⊢
 have htk:(m.cC.take t).length=t:=by rw[List.length_take];omega
 have hrl:(eT ids (m.cC.take t)).length=t:=by unfold eT;rw[List.length_map,List.length_zip,htk,hil];omega
 by_cases htl:t<m.cC.length
 ·have e0:∀d,(m.cC.map cL).getD ((t:Int)).toNat d=cL (m.cC.getD t []):=fun d=>by rw[Int.toNat_natCast];exact dJ cL m.cC t d htl
  have a0:(m.cC.map cL).length=m.cC.length:=by simp
  have hnx:eT (ids++[n+6]) (m.cC.take (t+1))=eT ids (m.cC.take t)++[.sl (n+6) (m.cC.getD t []).length]:=by
   rw[List.take_succ_eq_append_getElem htl,ui (by rw[hil,htk]),show m.cC.getD t []=m.cC[t] by simp[List.getD,htl]]
  have h7:=h6 _ (cS (l:=m.cC) [] htl)
  refine cV ?_
  simp only[copied]
  simp only[List.length_map,Int.toNat_natCast]
  refine⟨(t+1,ids++[n+6]),by dsimp only;omega,_,_,_,Rt.refl _ _ _,cI,by dsimp only;omega,by omega,by simp[hil], ?_, ?_,⟨_,cA⟩,⟨_,cA⟩,⟨_,cA⟩,⟨_,cA⟩,⟨_,cA⟩,⟨_,by dsimp only;rw[hnx];exact cA⟩, ?_,fun y hy=>Eq.trans cB (hkp y hy)⟩
  ·refine List.nodup_append.2 ⟨hnd,by simp,fun a ha b hb=> ?_⟩
   simp only[List.mem_cons,List.not_mem_nil,or_false] at hb
   have:=hin _ ha;omega
  ·intro x hx
   rcases List.mem_append.1 hx with hx|hx
   ·have:=hin _ hx;exact⟨this.1,Nat.lt_of_lt_of_le this.2 ca⟩
   ·simp only[List.mem_cons,List.not_mem_nil,or_false] at hx
    subst hx;exact⟨by omega,ca⟩
  ·intro q hq
   have hq:q<t+1:=hq
   by_cases e:q=t
   ·subst e
    have e2:(ids++[n+6]).getD q 0=n+6:=by rw[List.getD,List.getElem?_append_right (by omega),hil,Nat.sub_self];rfl
    dsimp only
    rw[e2];exact⟨_,cA⟩
   ·obtain⟨d,hd⟩:=hls q (by omega)
    have e2:(ids++[n+6]).getD q 0=ids.getD q 0:=by simp[List.getD,List.getElem?_append,show q<ids.length by omega]
    have:=hin _ (fI (l:=ids) (q:=q) (by omega))
    dsimp only
    rw[e2];exact⟨d,Eq.trans cB hd⟩
 ·have:t=m.cC.length:=by omega
  subst this
  rw[List.take_length] at r5
  refine cV ?_
  refine⟨⟨nx+32,nx+12,nx+76,nx+18,nx+24,nx+30,ids,rfl,⟨⟨_,cA⟩,⟨_,cA⟩,⟨_,cA⟩,fun t ht=> ?_,⟨_,cA⟩,⟨_,cA⟩,⟨_,cA⟩,hil, ?_⟩, ?_,ca,fun y hy=>Eq.trans cB (hkp y hy)⟩⟩
  ·obtain⟨d,hd⟩:=hls t ht
   have:=hin _ (fI (l:=ids) (q:=t) (by omega))
   exact⟨d,Eq.trans cB hd⟩
  ·have hno:∀k,k<nx+77->k∉ids:=fun k hk h=>by have:=hin _ h;omega
   simp only[List.nodup_cons,List.mem_cons,not_or]
   exact⟨⟨by omega,by omega,by omega,by omega,by omega,hno _ (by omega)⟩,⟨by omega,by omega,by omega,by omega,hno _ (by omega)⟩,⟨by omega,by omega,by omega,hno _ (by omega)⟩,⟨by omega,by omega,hno _ (by omega)⟩,⟨by omega,hno _ (by omega)⟩,hno _ (by omega),hnd⟩
  ·intro x hx
   simp only[List.mem_cons] at hx
   rcases hx with rfl|rfl|rfl|rfl|rfl|rfl|hx
   all_goals first
    |exact⟨by omega,by omega⟩
    |(have:=hin _ hx;exact⟨by omega,by omega⟩)
theorem vd {H:Hp} {k:Nat} {cs:List AV}:cp.dX H (k+1) (.agg cs)= .agg (cs.map (cp.dX H k)):=by simp only[dX]
theorem P0.dX {u:bx} {m:MS} {mr a s me ho pr:Nat} {ids:List Nat} {H:Hp} (h:P0 u m mr a s me ho pr ids H) (k:Nat):cp.dX H (k+5) (.pt mr 1 0 0)=m.fz u:=by
 obtain⟨d1,h1⟩:=h.rM
 obtain⟨d2,h2⟩:=h.rA
 obtain⟨d3,h3⟩:=h.rS
 obtain⟨d4,h4⟩:=h.rE
 obtain⟨d5,h5⟩:=h.rH
 obtain⟨d6,h6⟩:=h.rP
 have hsl:(eT ids m.cC).length=m.cC.length:=by unfold eT;rw[List.length_map,List.length_zip,h.len];simp
 have hs:(eT ids m.cC).map (cp.dX H (k+2))=m.cC.map cL:=by
  apply List.ext_getElem (by simp[hsl])
  intro t q1 q2
  have ht:t<m.cC.length:=by simpa using q2
  have hti:t<ids.length:=by rw[h.len];exact ht
  obtain⟨d,hd⟩:=h.rL t ht
  rw[show ids.getD t 0=ids[t] by simp[List.getD,hti],show m.cC.getD t []=m.cC[t] by simp[List.getD,ht]] at hd
  rw[List.getElem_map,List.getElem_map]
  simp only[eT,List.getElem_map,List.getElem_zip]
  rw[dZ hd (by simp),cx _ ((cD _ _).2 fun _ _=>by simp[cK])]
 simp only[cp.dX,h1]
 simp only[List.length_cons,List.length_nil,if_true,List.map_cons,List.map_nil,MS.rows]
 rw[vd]
 simp only[List.map_cons,List.map_nil]
 rw[dZ h2 (by simp),dZ h3 hsl,dZ h4 (by simp),dZ h5 (by simp),dZ h6 (by simp),hs]
 rw[cx _ ((cD _ _).2 fun _ _=>by simp[cK]),cx _ ((cD _ _).2 fun _ _=>by simp[cK]),cx _ ((cD _ _).2 fun _ _=>by simp[cK]),cx _ ((cD _ _).2 fun _ _=>by simp[cK])]
 rw[dj _ (show cK 0 (cw u.shared) by simp[cK,cD]),dj _ (show cK 0 (cw u.cG) by simp[cK,cD]),dj _ (show cK 0 (df u.bz) by simp[cK,cD])]
 rfl
def dQ (u:bx):MS:=⟨u.bz.map fun _=>0,u.bz.map fun g=>List.replicate g.cC.toNat 0,u.shared.map Decl.word,u.cG.map fun _=>-1,[]⟩
theorem CN (u:bx) (hr:cW u) (hw:∀d∈u.shared,eP d.word) (hn:∀t,t<u.bz.length->0<(u.gr t).nodes.length):eN u (dQ u) where
 pV:=by simp[dQ]
 gV:=fun t ht=>by
  have e:(dQ u).at_.getD t 0=0:=by simp[dQ,List.getD,ht]
  rw[e]
  exact⟨Int.le_refl _,by have:=hn t ht;omega⟩
 sl:=by simp[dQ]
 A7:=fun t ht=>by
  have e:(dQ u).cC.getD t []=List.replicate (u.gr t).cC.toNat 0:=by simp[dQ,List.getD,bx.gr,ht]
  rw[e,List.length_replicate]
 A8:=fun t ht w hw=>by
  have e:(dQ u).cC.getD t []=List.replicate (u.gr t).cC.toNat 0:=by simp[dQ,List.getD,bx.gr,ht]
  rw[e] at hw
  rw[List.eq_of_mem_replicate hw]
  exact⟨by omega,by omega⟩
 ml:=by simp[dQ]
 mw:=fun w h=>by
  obtain⟨d,hd,rfl⟩:=List.mem_map.1 h
  exact hw d hd
 hl:=by simp[dQ]
 hw:=fun w h=>by
  obtain⟨d,hd,rfl⟩:=List.mem_map.1 h
  exact⟨by omega,by omega⟩
 pw:=fun p h=>by simp[dQ] at h
abbrev wQ (n:Int):Int:=IntKind.i64.wrap n
def E8 (a b:Int):Int:=if b=0 then 0 else if b=-1 then wQ (0 - a) else wQ (a.tdiv b)
def JM (a b:Int):Int:=if b=0 then a else wQ (a - wQ (E8 a b * b))
def QL (a b:Int):Int:=wQ ((BitVec.ofInt 64 a&&& BitVec.ofInt 64 b).toNat:Int)
def V7 (a b:Int):Int:=wQ ((BitVec.ofInt 64 a|||BitVec.ofInt 64 b).toNat:Int)
def TX (a b:Int):Int:=wQ ((BitVec.ofInt 64 a^^^BitVec.ofInt 64 b).toNat:Int)
def G6 (b:Int):Int:=IntKind.u64.wrap ((BitVec.ofInt 64 (IntKind.u64.wrap b)&&& BitVec.ofInt 64 63).toNat:Int)
def TK (a b:Int):Int:=wQ (a * 2^(min (G6 b).toNat 64))
def MM (a b:Int):Int:=a.fdiv (2^(min (G6 b).toNat 64))
def tr (t:Bool):Int:=if t=true then 1 else 0
theorem cu (t:Bool):Pure Tryz.prog 226 [bl t] (fun r=>r=i64 (tr t)):=by
 refine aG SX rfl ?_
 repeat' (first|refine aQ ?_|exact aC|with_reducible refine aD ?_ ?_|(apply aA;(·exact cU))|refine aH ?_|((with_reducible refine aE ?_ ?_)<;>intro hc<;>try(exfalso;omega)))
 all_goals simp_all[tr]
theorem oB (a b:Int):Pure Tryz.prog 206 [i64 a,i64 b] (fun r=>r=i64 (wQ (a+b))):=by
 refine aG SD rfl ?_
 repeat' (first|refine aQ ?_|exact aC|with_reducible refine aD ?_ ?_|(apply aA;(·exact cU))|refine aH ?_|((with_reducible refine aE ?_ ?_)<;>intro hc<;>try(exfalso;omega)))
 all_goals exact rfl
theorem pG (a b:Int):Pure Tryz.prog 207 [i64 a,i64 b] (fun r=>r=i64 (wQ (a - b))):=by
 refine aG SE rfl ?_
 repeat' (first|refine aQ ?_|exact aC|with_reducible refine aD ?_ ?_|(apply aA;(·exact cU))|refine aH ?_|((with_reducible refine aE ?_ ?_)<;>intro hc<;>try(exfalso;omega)))
 all_goals exact rfl
theorem od (a b:Int):Pure Tryz.prog 208 [i64 a,i64 b] (fun r=>r=i64 (wQ (a * b))):=by
 refine aG SF rfl ?_
 repeat' (first|refine aQ ?_|exact aC|with_reducible refine aD ?_ ?_|(apply aA;(·exact cU))|refine aH ?_|((with_reducible refine aE ?_ ?_)<;>intro hc<;>try(exfalso;omega)))
 all_goals exact rfl
theorem iH (a b:Int):Pure Tryz.prog 209 [i64 a,i64 b] (fun r=>r=i64 (E8 a b)):=by
 refine aG SG rfl ?_
 repeat' (first|refine aQ ?_|exact aC|with_reducible refine aD ?_ ?_|(apply aA;(·exact cU))|refine aH ?_|((with_reducible refine aE ?_ ?_)<;>intro hc<;>try(exfalso;omega)))
 all_goals simp_all[E8]
theorem oy (a b:Int):Pure Tryz.prog 210 [i64 a,i64 b] (fun r=>r=i64 (JM a b)):=by
 refine aG SH rfl ?_
 repeat' (first|refine aQ ?_|exact aC|with_reducible refine aD ?_ ?_|(apply aA;(·exact cU))|((with_reducible refine aP (iH _ _) ?_ ?_);(·exact cH))|((with_reducible refine aO (fun _=>iH _ _) ?_ ?_);(·exact cH))|((with_reducible refine aM (iH _ _) ?_ ?_);(·exact cH))|((with_reducible refine aN (fun _=>iH _ _) ?_ ?_);(·exact cH))|refine aH ?_|((with_reducible refine aE ?_ ?_)<;>intro hc<;>try(exfalso;omega)))
 all_goals simp_all[JM]
theorem oE (a b:Int):Pure Tryz.prog 211 [i64 a,i64 b] (fun r=>r=i64 (QL a b)):=by
 refine aG SI rfl ?_
 repeat' (first|refine aQ ?_|exact aC|with_reducible refine aD ?_ ?_|(apply aA;(·exact cU))|refine aH ?_|((with_reducible refine aE ?_ ?_)<;>intro hc<;>try(exfalso;omega)))
 all_goals exact rfl
theorem oo (a b:Int):Pure Tryz.prog 212 [i64 a,i64 b] (fun r=>r=i64 (V7 a b)):=by
 refine aG SJ rfl ?_
 repeat' (first|refine aQ ?_|exact aC|with_reducible refine aD ?_ ?_|(apply aA;(·exact cU))|refine aH ?_|((with_reducible refine aE ?_ ?_)<;>intro hc<;>try(exfalso;omega)))
 all_goals exact rfl
theorem pK (a b:Int):Pure Tryz.prog 213 [i64 a,i64 b] (fun r=>r=i64 (TX a b)):=by
 refine aG SK rfl ?_
 repeat' (first|refine aQ ?_|exact aC|with_reducible refine aD ?_ ?_|(apply aA;(·exact cU))|refine aH ?_|((with_reducible refine aE ?_ ?_)<;>intro hc<;>try(exfalso;omega)))
 all_goals exact rfl
theorem pB (a b:Int):Pure Tryz.prog 214 [i64 a,i64 b] (fun r=>r=i64 (TK a b)):=by
 refine aG SL rfl ?_
 repeat' (first|refine aQ ?_|exact aC|with_reducible refine aD ?_ ?_|(apply aA;(·exact cU))|refine aH ?_|((with_reducible refine aE ?_ ?_)<;>intro hc<;>try(exfalso;omega)))
 all_goals exact rfl
theorem pC (a b:Int):Pure Tryz.prog 215 [i64 a,i64 b] (fun r=>r=i64 (MM a b)):=by
 refine aG SM rfl ?_
 repeat' (first|refine aQ ?_|exact aC|with_reducible refine aD ?_ ?_|(apply aA;(·exact cU))|refine aH ?_|((with_reducible refine aE ?_ ?_)<;>intro hc<;>try(exfalso;omega)))
 all_goals exact rfl
theorem qm (a b:Int):Pure Tryz.prog 216 [i64 a,i64 b] (fun r=>r=i64 (tr (decide (a=b)))):=by
 refine aG SN rfl ?_
 repeat' (first|refine aQ ?_|exact aC|with_reducible refine aD ?_ ?_|(apply aA;(·exact cU))|((with_reducible refine aP (cu _) ?_ ?_);(·exact cH))|((with_reducible refine aO (fun _=>cu _) ?_ ?_);(·exact cH))|((with_reducible refine aM (cu _) ?_ ?_);(·exact cH))|((with_reducible refine aN (fun _=>cu _) ?_ ?_);(·exact cH))|refine aH ?_|((with_reducible refine aE ?_ ?_)<;>intro hc<;>try(exfalso;omega)))
 all_goals exact rfl
theorem lB (a b:Int):Pure Tryz.prog 217 [i64 a,i64 b] (fun r=>r=i64 (tr (decide (a≠b)))):=by
 refine aG SO rfl ?_
 repeat' (first|refine aQ ?_|exact aC|with_reducible refine aD ?_ ?_|(apply aA;(·exact cU))|((with_reducible refine aP (cu _) ?_ ?_);(·exact cH))|((with_reducible refine aO (fun _=>cu _) ?_ ?_);(·exact cH))|((with_reducible refine aM (cu _) ?_ ?_);(·exact cH))|((with_reducible refine aN (fun _=>cu _) ?_ ?_);(·exact cH))|refine aH ?_|((with_reducible refine aE ?_ ?_)<;>intro hc<;>try(exfalso;omega)))
 all_goals exact rfl
theorem mf (a b:Int):Pure Tryz.prog 218 [i64 a,i64 b] (fun r=>r=i64 (tr (decide (a<b)))):=by
 refine aG SP rfl ?_
 repeat' (first|refine aQ ?_|exact aC|with_reducible refine aD ?_ ?_|(apply aA;(·exact cU))|((with_reducible refine aP (cu _) ?_ ?_);(·exact cH))|((with_reducible refine aO (fun _=>cu _) ?_ ?_);(·exact cH))|((with_reducible refine aM (cu _) ?_ ?_);(·exact cH))|((with_reducible refine aN (fun _=>cu _) ?_ ?_);(·exact cH))|refine aH ?_|((with_reducible refine aE ?_ ?_)<;>intro hc<;>try(exfalso;omega)))
 all_goals exact rfl
theorem mi (a b:Int):Pure Tryz.prog 219 [i64 a,i64 b] (fun r=>r=i64 (tr (decide (a<=b)))):=by
 refine aG SQ rfl ?_
 repeat' (first|refine aQ ?_|exact aC|with_reducible refine aD ?_ ?_|(apply aA;(·exact cU))|((with_reducible refine aP (cu _) ?_ ?_);(·exact cH))|((with_reducible refine aO (fun _=>cu _) ?_ ?_);(·exact cH))|((with_reducible refine aM (cu _) ?_ ?_);(·exact cH))|((with_reducible refine aN (fun _=>cu _) ?_ ?_);(·exact cH))|refine aH ?_|((with_reducible refine aE ?_ ?_)<;>intro hc<;>try(exfalso;omega)))
 all_goals exact rfl
theorem k9 (a b:Int):Pure Tryz.prog 220 [i64 a,i64 b] (fun r=>r=i64 (tr (decide (b<a)))):=by
 refine aG SR rfl ?_
 repeat' (first|refine aQ ?_|exact aC|with_reducible refine aD ?_ ?_|(apply aA;(·exact cU))|((with_reducible refine aP (cu _) ?_ ?_);(·exact cH))|((with_reducible refine aO (fun _=>cu _) ?_ ?_);(·exact cH))|((with_reducible refine aM (cu _) ?_ ?_);(·exact cH))|((with_reducible refine aN (fun _=>cu _) ?_ ?_);(·exact cH))|refine aH ?_|((with_reducible refine aE ?_ ?_)<;>intro hc<;>try(exfalso;omega)))
 all_goals exact rfl
theorem lD (a b:Int):Pure Tryz.prog 221 [i64 a,i64 b] (fun r=>r=i64 (tr (decide (b<=a)))):=by
 refine aG SS rfl ?_
 repeat' (first|refine aQ ?_|exact aC|with_reducible refine aD ?_ ?_|(apply aA;(·exact cU))|((with_reducible refine aP (cu _) ?_ ?_);(·exact cH))|((with_reducible refine aO (fun _=>cu _) ?_ ?_);(·exact cH))|((with_reducible refine aM (cu _) ?_ ?_);(·exact cH))|((with_reducible refine aN (fun _=>cu _) ?_ ?_);(·exact cH))|refine aH ?_|((with_reducible refine aE ?_ ?_)<;>intro hc<;>try(exfalso;omega)))
 all_goals exact rfl
theorem lF (a:Int):Pure Tryz.prog 222 [i64 a] (fun r=>r=i64 (wQ (0 - a))):=by
 refine aG SU rfl ?_
 repeat' (first|refine aQ ?_|exact aC|with_reducible refine aD ?_ ?_|(apply aA;(·exact cU))|refine aH ?_|((with_reducible refine aE ?_ ?_)<;>intro hc<;>try(exfalso;omega)))
 all_goals exact rfl
theorem oh (a:Int):Pure Tryz.prog 223 [i64 a] (fun r=>r=i64 (tr (decide (a=0)))):=by
 refine aG SV rfl ?_
 repeat' (first|refine aQ ?_|exact aC|with_reducible refine aD ?_ ?_|(apply aA;(·exact cU))|((with_reducible refine aP (cu _) ?_ ?_);(·exact cH))|((with_reducible refine aO (fun _=>cu _) ?_ ?_);(·exact cH))|((with_reducible refine aM (cu _) ?_ ?_);(·exact cH))|((with_reducible refine aN (fun _=>cu _) ?_ ?_);(·exact cH))|refine aH ?_|((with_reducible refine aE ?_ ?_)<;>intro hc<;>try(exfalso;omega)))
 all_goals exact rfl
def NW:AV:= .agg [.sc .nilFunc, .sc .nilFunc, .fn (.func 206) [] [], .sc .nilFunc, .fn (.func 207) [] [], .sc .nilFunc, .fn (.func 208) [] [], .sc .nilFunc, .fn (.func 209) [] [], .sc .nilFunc, .fn (.func 210) [] [], .sc .nilFunc, .fn (.func 211) [] [], .sc .nilFunc, .fn (.func 212) [] [], .sc .nilFunc, .fn (.func 213) [] [], .sc .nilFunc, .fn (.func 214) [] [], .sc .nilFunc, .fn (.func 215) [] [], .sc .nilFunc, .fn (.func 216) [] [], .sc .nilFunc, .fn (.func 217) [] [], .sc .nilFunc, .fn (.func 218) [] [], .sc .nilFunc, .fn (.func 219) [] [], .sc .nilFunc, .fn (.func 220) [] [], .sc .nilFunc, .fn (.func 221) [] [], .sc .nilFunc, .sc .nilFunc, .fn (.func 222) [] [], .sc .nilFunc, .fn (.func 223) [] []]
theorem mC:Pure Tryz.prog 197 [] (fun r=>r=NW):=by
 refine cm ?_ (by simp[NW,cK,c8])
 refine aJ SA rfl ?_
 refine cV ?_
 exact⟨rfl⟩
def M4 (op a b:Int):Int:=if op=1 then wQ (a+b) else if op=2 then wQ (a - b) else if op=3 then wQ (a * b) else if op=4 then E8 a b else if op=5 then JM a b else if op=6 then QL a b else if op=7 then V7 a b else if op=8 then TX a b else if op=9 then TK a b else if op=10 then MM a b else if op=11 then tr (decide (a=b)) else if op=12 then tr (decide (a≠b)) else if op=13 then tr (decide (a<b)) else if op=14 then tr (decide (a<=b)) else if op=15 then tr (decide (b<a)) else tr (decide (b<=a))
def L5 (op a:Int):Int:=if op=17 then wQ (0 - a) else tr (decide (a=0))
theorem FW {op:Int} (h:eA op=true):op=1\/op=2\/op=3\/op=4\/op=5\/op=6\/op=7\/op=8\/op=9\/op=10\/op=11\/op=12\/op=13\/op=14\/op=15\/op=16:=by
 simp only[eA,Bool.and_eq_true,decide_eq_true_eq] at h;omega
theorem N1 (op a b:Int) (h:eA op=true):Pure Tryz.prog 160 [u8 op,i64 a,i64 b] (fun r=>r= .dO [i64 (M4 op a b),i64 0]):=by
 refine aG RW rfl ?_
 rcases FW h with rfl|rfl|rfl|rfl|rfl|rfl|rfl|rfl|rfl|rfl|rfl|rfl|rfl|rfl|rfl|rfl
 all_goals repeat' (first|refine aQ ?_|exact aC|with_reducible refine aD ?_ ?_|(apply aA;(·exact cU))|((with_reducible refine aP (fN _ (by omega)) ?_ ?_);(·exact cH))|((with_reducible refine aO (fun _=>fN _ (by omega)) ?_ ?_);(·exact cH))|((with_reducible refine aM (fN _ (by omega)) ?_ ?_);(·exact cH))|((with_reducible refine aN (fun _=>fN _ (by omega)) ?_ ?_);(·exact cH))|refine aK (mC) ?_|((with_reducible refine aP (oB _ _) ?_ ?_);(·exact cH))|((with_reducible refine aO (fun _=>oB _ _) ?_ ?_);(·exact cH))|((with_reducible refine aM (oB _ _) ?_ ?_);(·exact cH))|((with_reducible refine aN (fun _=>oB _ _) ?_ ?_);(·exact cH))|((with_reducible refine aP (pG _ _) ?_ ?_);(·exact cH))|((with_reducible refine aO (fun _=>pG _ _) ?_ ?_);(·exact cH))|((with_reducible refine aM (pG _ _) ?_ ?_);(·exact cH))|((with_reducible refine aN (fun _=>pG _ _) ?_ ?_);(·exact cH))|((with_reducible refine aP (od _ _) ?_ ?_);(·exact cH))|((with_reducible refine aO (fun _=>od _ _) ?_ ?_);(·exact cH))|((with_reducible refine aM (od _ _) ?_ ?_);(·exact cH))|((with_reducible refine aN (fun _=>od _ _) ?_ ?_);(·exact cH))|((with_reducible refine aP (iH _ _) ?_ ?_);(·exact cH))|((with_reducible refine aO (fun _=>iH _ _) ?_ ?_);(·exact cH))|((with_reducible refine aM (iH _ _) ?_ ?_);(·exact cH))|((with_reducible refine aN (fun _=>iH _ _) ?_ ?_);(·exact cH))|((with_reducible refine aP (oy _ _) ?_ ?_);(·exact cH))|((with_reducible refine aO (fun _=>oy _ _) ?_ ?_);(·exact cH))|((with_reducible refine aM (oy _ _) ?_ ?_);(·exact cH))|((with_reducible refine aN (fun _=>oy _ _) ?_ ?_);(·exact cH))|((with_reducible refine aP (oE _ _) ?_ ?_);(·exact cH))|((with_reducible refine aO (fun _=>oE _ _) ?_ ?_);(·exact cH))|((with_reducible refine aM (oE _ _) ?_ ?_);(·exact cH))|((with_reducible refine aN (fun _=>oE _ _) ?_ ?_);(·exact cH))|((with_reducible refine aP (oo _ _) ?_ ?_);(·exact cH))|((with_reducible refine aO (fun _=>oo _ _) ?_ ?_);(·exact cH))|((with_reducible refine aM (oo _ _) ?_ ?_);(·exact cH))|((with_reducible refine aN (fun _=>oo _ _) ?_ ?_);(·exact cH))|((with_reducible refine aP (pK _ _) ?_ ?_);(·exact cH))|((with_reducible refine aO (fun _=>pK _ _) ?_ ?_);(·exact cH))|((with_reducible refine aM (pK _ _) ?_ ?_);(·exact cH))|((with_reducible refine aN (fun _=>pK _ _) ?_ ?_);(·exact cH))|((with_reducible refine aP (pB _ _) ?_ ?_);(·exact cH))|((with_reducible refine aO (fun _=>pB _ _) ?_ ?_);(·exact cH))|((with_reducible refine aM (pB _ _) ?_ ?_);(·exact cH))|((with_reducible refine aN (fun _=>pB _ _) ?_ ?_);(·exact cH))|((with_reducible refine aP (pC _ _) ?_ ?_);(·exact cH))|((with_reducible refine aO (fun _=>pC _ _) ?_ ?_);(·exact cH))|((with_reducible refine aM (pC _ _) ?_ ?_);(·exact cH))|((with_reducible refine aN (fun _=>pC _ _) ?_ ?_);(·exact cH))|((with_reducible refine aP (qm _ _) ?_ ?_);(·exact cH))|((with_reducible refine aO (fun _=>qm _ _) ?_ ?_);(·exact cH))|((with_reducible refine aM (qm _ _) ?_ ?_);(·exact cH))|((with_reducible refine aN (fun _=>qm _ _) ?_ ?_);(·exact cH))|((with_reducible refine aP (lB _ _) ?_ ?_);(·exact cH))|((with_reducible refine aO (fun _=>lB _ _) ?_ ?_);(·exact cH))|((with_reducible refine aM (lB _ _) ?_ ?_);(·exact cH))|((with_reducible refine aN (fun _=>lB _ _) ?_ ?_);(·exact cH))|((with_reducible refine aP (mf _ _) ?_ ?_);(·exact cH))|((with_reducible refine aO (fun _=>mf _ _) ?_ ?_);(·exact cH))|((with_reducible refine aM (mf _ _) ?_ ?_);(·exact cH))|((with_reducible refine aN (fun _=>mf _ _) ?_ ?_);(·exact cH))|((with_reducible refine aP (mi _ _) ?_ ?_);(·exact cH))|((with_reducible refine aO (fun _=>mi _ _) ?_ ?_);(·exact cH))|((with_reducible refine aM (mi _ _) ?_ ?_);(·exact cH))|((with_reducible refine aN (fun _=>mi _ _) ?_ ?_);(·exact cH))|((with_reducible refine aP (k9 _ _) ?_ ?_);(·exact cH))|((with_reducible refine aO (fun _=>k9 _ _) ?_ ?_);(·exact cH))|((with_reducible refine aM (k9 _ _) ?_ ?_);(·exact cH))|((with_reducible refine aN (fun _=>k9 _ _) ?_ ?_);(·exact cH))|((with_reducible refine aP (lD _ _) ?_ ?_);(·exact cH))|((with_reducible refine aO (fun _=>lD _ _) ?_ ?_);(·exact cH))|((with_reducible refine aM (lD _ _) ?_ ?_);(·exact cH))|((with_reducible refine aN (fun _=>lD _ _) ?_ ?_);(·exact cH))|refine aH ?_|((with_reducible refine aE ?_ ?_)<;>intro hc<;>try(exfalso;omega)))
 all_goals (first|exact rfl|trace_state)
theorem KJ (op a:Int) (h:op=17\/op=18):Pure Tryz.prog 161 [u8 op,i64 a] (fun r=>r= .dO [i64 (L5 op a),i64 0]):=by
 refine aG RX rfl ?_
 rcases h with rfl|rfl
 all_goals repeat' (first|refine aQ ?_|exact aC|with_reducible refine aD ?_ ?_|(apply aA;(·exact cU))|((with_reducible refine aP (fp _) ?_ ?_);(·exact cH))|((with_reducible refine aO (fun _=>fp _) ?_ ?_);(·exact cH))|((with_reducible refine aM (fp _) ?_ ?_);(·exact cH))|((with_reducible refine aN (fun _=>fp _) ?_ ?_);(·exact cH))|((with_reducible refine aP (fN _ (by omega)) ?_ ?_);(·exact cH))|((with_reducible refine aO (fun _=>fN _ (by omega)) ?_ ?_);(·exact cH))|((with_reducible refine aM (fN _ (by omega)) ?_ ?_);(·exact cH))|((with_reducible refine aN (fun _=>fN _ (by omega)) ?_ ?_);(·exact cH))|refine aK (mC) ?_|((with_reducible refine aP (lF _) ?_ ?_);(·exact cH))|((with_reducible refine aO (fun _=>lF _) ?_ ?_);(·exact cH))|((with_reducible refine aM (lF _) ?_ ?_);(·exact cH))|((with_reducible refine aN (fun _=>lF _) ?_ ?_);(·exact cH))|((with_reducible refine aP (oh _) ?_ ?_);(·exact cH))|((with_reducible refine aO (fun _=>oh _) ?_ ?_);(·exact cH))|((with_reducible refine aM (oh _) ?_ ?_);(·exact cH))|((with_reducible refine aN (fun _=>oh _) ?_ ?_);(·exact cH))|refine aH ?_|((with_reducible refine aE ?_ ?_)<;>intro hc<;>try(exfalso;omega)))
 all_goals (first|exact rfl|trace_state)
structure gR where
 dc:Int
 node:Int
 kind:Int
 cR:Int
 word:Int
 put:Int
 deriving Inhabited,DecidableEq
def gR.cells (d:gR):List AV:=[i64 d.dc,i64 d.node,u8 d.kind,i64 d.cR,i64 d.word,i64 d.put]
abbrev gR.av (d:gR):AV:= .agg d.cells
def MS.val (m:MS) (t:Nat) (v:lX):Int:=if v.jK then(m.cC.getD t []).getD v.slot.toNat 0 else v.word
def MS.gb (m:MS) (t:Nat) (k:Int) (w:Int):MS:={ m with cC:=m.cC.set t ((m.cC.getD t []).set k.toNat w) }
def MS.AZ (m:MS) (t:Nat) (n:Node):Int:=if eA n.op then M4 n.op (m.val t n.a) (m.val t n.b) else if n.op≠0 then L5 n.op (m.val t n.a) else m.val t n.a
def MS.act (m:MS) (t:Nat) (n:Node):MS×Int×Int×Int×Int:=
 if n.kind=1 then(m.gb t n.slot (m.AZ t n),n.next,0,m.AZ t n,0)
 else if n.kind=2 then(m.gb t n.slot (m.mem.getD n.cR.toNat 0),n.next,n.cR,m.mem.getD n.cR.toNat 0,0)
 else if n.kind=3 then({ m with mem:=m.mem.set n.cR.toNat (m.val t n.a) },n.next,n.cR,m.val t n.a,0)
 else if n.kind=4 then({ m.gb t n.slot (m.mem.getD n.cR.toNat 0) with mem:=m.mem.set n.cR.toNat (m.val t n.a) },n.next,n.cR,m.mem.getD n.cR.toNat 0,m.val t n.a)
 else if n.kind=5 then({ m with hold:=m.hold.set n.cR.toNat t },n.next,n.cR,0,0)
 else if n.kind=6 then({ m with hold:=m.hold.set n.cR.toNat (-1) },n.next,n.cR,0,0)
 else if n.kind=7 then({ m with cQ:=m.cQ++[⟨t,m.val t n.a⟩] },n.next,0,m.val t n.a,0)
 else(m,if m.val t n.a=0 then n.rk else n.next,0,m.val t n.a,0)
def MS.step (u:bx) (m:MS) (t:Nat):MS×gR:=
 let n:=m.node u t
 let r:=m.act t n
 ({ r.1 with at_:=m.at_.set t r.2.1 },⟨t,m.at_.getD t 0,n.kind,r.2.2.1,r.2.2.2.1,r.2.2.2.2⟩)
section
theorem sy (n:Int):eP (wQ n):=by unfold eP wQ;rw[IntKind.wrap_i64];omega
theorem OV {p:Prop} [Decidable p] {a b:Int} (h1:eP a) (h2:eP b):eP (if p then a else b):=by
 split
 ·exact h1
 ·exact h2
theorem NZ (t:Bool):eP (tr t):=by unfold tr eP;split<;>omega
theorem MN {a:Int} (h:eP a) (b:Int):eP (MM a b):=by
 unfold MM
 have hd:(1:Int)<=2^(min (G6 b).toNat 64):=Int.le_of_lt_add_one (by have:(0:Int)<2^(min (G6 b).toNat 64):=Int.pow_pos (by omega);omega)
 generalize (2:Int)^(min (G6 b).toNat 64)=d at *
 rw[Int.fdiv_eq_ediv_of_nonneg _ (by omega)]
 have h1:=Int.mul_ediv_add_emod a d
 have h2:=Int.emod_nonneg a (b:=d) (by omega)
 have h3:=Int.emod_lt_of_pos a (b:=d) (by omega)
 obtain⟨h4,h5⟩:=h
 generalize a /d=q at *
 generalize a%d=r at *
 constructor
 ·apply Int.not_lt.1
  intro hq
  have:d * (q+1)<=1 * (q+1):=Int.mul_le_mul_of_nonpos_right hd (by omega)
  rw[Int.mul_add] at this
  omega
 ·apply Int.not_le.1
  intro hq
  have:1 * q<=d * q:=Int.mul_le_mul_of_nonneg_right hd (by omega)
  omega
theorem M5 {a b:Int} (ha:eP a) (op:Int):eP (M4 op a b):=by
 have hq:eP (E8 a b):=by
  unfold E8
  split
  ·exact⟨by omega,by omega⟩
  ·split
   ·exact sy _
   ·exact sy _
 have hm:eP (JM a b):=by
  unfold JM
  split
  ·exact ha
  ·exact sy _
 unfold M4
 repeat' (with_reducible refine OV ?_ ?_)
 all_goals first
  |exact NZ _
  |exact MN ha _
  |exact hq
  |exact hm
  |exact sy _
theorem L6 (op a:Int):eP (L5 op a):=by
 unfold L5
 split
 ·exact sy _
 ·exact NZ _
theorem getD_none {α:Type} {l:List α} {k:Nat} {d:α} (h:l.length<=k):l.getD k d=d:=by simp[List.getD,List.getElem?_eq_none h]
section
variable {u:bx} {m:MS} {t:Nat}
theorem MP (h:eN u m) (ht:t<u.bz.length) (k:Nat):eP ((m.cC.getD t []).getD k 0):=by
 by_cases hk:k<(m.cC.getD t []).length
 ·exact h.A8 t ht _ (cS 0 hk)
 ·rw[getD_none (Nat.le_of_not_lt hk)]
  exact⟨by omega,by omega⟩
theorem BM (h:eN u m) (ht:t<u.bz.length) {v:lX} (hv:v.Wf):eP (m.val t v):=by
 unfold MS.val
 split
 ·exact MP h ht _
 ·exact hv.word
theorem MK (h:eN u m) (ht:t<u.bz.length) {n:Node} (hn:n.Wf):eP (m.AZ t n):=by
 unfold MS.AZ
 split
 ·exact M5 (BM h ht hn.a) _
 ·split
  ·exact L6 _ _
  ·exact BM h ht hn.a
theorem nh {α:Type} {l:List α} {i:Nat} {a x:α} (h:x∈l.set i a):x∈l\/x=a:=by
 rcases List.mem_or_eq_of_mem_set h with h|h
 ·exact .inl h
 ·exact .inr h
theorem getD_set_ne {α:Type} {l:List α} {i j:Nat} {v d:α} (h:i≠j):(l.set i v).getD j d=l.getD j d:=by simp[List.getD,List.getElem?_set_ne h]
theorem eN.gb (h:eN u m) (k w:Int) (hw:eP w):eN u (m.gb t k w) where
 pV:=h.pV
 gV:=h.gV
 sl:=by simp only[MS.gb,List.length_set];exact h.sl
 A7:=fun s hs=>by
  simp only[MS.gb]
  by_cases e:t=s
  ·subst e
   rw[ed (by rw[h.sl];exact hs),List.length_set]
   exact h.A7 t hs
  ·rw[getD_set_ne e];exact h.A7 s hs
 A8:=fun s hs x hx=>by
  simp only[MS.gb] at hx
  by_cases e:t=s
  ·subst e
   rw[ed (by rw[h.sl];exact hs)] at hx
   rcases nh hx with hx|rfl
   ·exact h.A8 t hs x hx
   ·exact hw
  ·rw[getD_set_ne e] at hx;exact h.A8 s hs x hx
 ml:=h.ml
 mw:=h.mw
 hl:=h.hl
 hw:=h.hw
 pw:=h.pw
theorem eN.mem (h:eN u m) (k:Nat) (w:Int) (hw:eP w):eN u { m with mem:=m.mem.set k w } where
 pV:=h.pV
 gV:=h.gV
 sl:=h.sl
 A7:=h.A7
 A8:=h.A8
 ml:=by simp only[List.length_set];exact h.ml
 mw:=fun x hx=>by
  rcases nh hx with hx|rfl
  ·exact h.mw x hx
  ·exact hw
 hl:=h.hl
 hw:=h.hw
 pw:=h.pw
theorem eN.hold (h:eN u m) (k:Nat) (w:Int) (hw:-1<=w/\w<u.bz.length):eN u { m with hold:=m.hold.set k w } where
 pV:=h.pV
 gV:=h.gV
 sl:=h.sl
 A7:=h.A7
 A8:=h.A8
 ml:=h.ml
 mw:=h.mw
 hl:=by simp only[List.length_set];exact h.hl
 hw:=fun x hx=>by
  rcases nh hx with hx|rfl
  ·exact h.hw x hx
  ·exact hw
 pw:=h.pw
theorem eN.print (h:eN u m) (p:dW) (hp:0<=p.dc/\p.dc<u.bz.length/\eP p.word):eN u { m with cQ:=m.cQ++[p] } where
 pV:=h.pV
 gV:=h.gV
 sl:=h.sl
 A7:=h.A7
 A8:=h.A8
 ml:=h.ml
 mw:=h.mw
 hl:=h.hl
 hw:=h.hw
 pw:=fun x hx=>by
  rcases List.mem_append.1 hx with hx|hx
  ·exact h.pw x hx
  ·simp only[List.mem_cons,List.not_mem_nil,or_false] at hx
   subst hx;exact hp
theorem eN.UC (h:eN u m) (k:Int) (hk:t<u.bz.length->0<=k/\k<(u.gr t).nodes.length):eN u { m with at_:=m.at_.set t k } where
 pV:=by simp only[List.length_set];exact h.pV
 gV:=fun s hs=>by
  by_cases e:t=s
  ·subst e
   dsimp only
   rw[ed (by rw[h.pV];exact hs)]
   exact hk hs
  ·dsimp only
   rw[getD_set_ne e];exact h.gV s hs
 sl:=h.sl
 A7:=h.A7
 A8:=h.A8
 ml:=h.ml
 mw:=h.mw
 hl:=h.hl
 hw:=h.hw
 pw:=h.pw
theorem kE (h:eN u m) (ht:t<u.bz.length) (hb:m.kZ u t=0):(m.node u t).kind≠9/\¬((m.node u t).kind=5/\0<=m.hold.getD (m.node u t).cR.toNat 0):=by
 unfold MS.kZ at hb
 rw[if_neg (by have:=h.pV;omega),Int.toNat_natCast] at hb
 refine⟨fun e=> ?_,fun e=> ?_⟩
 ·rw[if_pos e] at hb;cases hb
 ·rw[if_neg (by omega)] at hb
  rw[if_pos e] at hb
  cases hb
theorem CO (hu:u.Wf) (h:eN u m) (ht:t<u.bz.length):(m.node u t).Wf:=by
 have h1:=h.gV t ht
 exact(hu.bz _ (cS default ht)).nodes _ (cS default (show(m.at_.getD t 0).toNat<(u.gr t).nodes.length by omega))
theorem N8 (hu:u.Wf) (hr:cW u) (h:eN u m) (ht:t<u.bz.length):eN u (m.act t (m.node u t)).1:=by
 have hn:=h.node hr ht
 have hw:=CO hu h ht
 have hst:=MK h ht hw
 have hva:=BM h ht hw.a
 have hmw:eP (m.mem.getD (m.node u t).cR.toNat 0):=by
  by_cases hk:(m.node u t).cR.toNat<m.mem.length
  ·exact h.mw _ (cS 0 hk)
  ·rw[getD_none (Nat.le_of_not_lt hk)];exact⟨by omega,by omega⟩
 generalize m.node u t=n at *
 unfold MS.act
 split
 ·exact h.gb _ _ hst
 split
 ·exact h.gb _ _ hmw
 split
 ·exact h.mem _ _ hva
 split
 ·exact(h.gb (t:=t) n.slot _ hmw).mem _ _ hva
 split
 ·exact h.hold _ _ ⟨by omega,by omega⟩
 split
 ·exact h.hold _ _ ⟨by omega,by omega⟩
 split
 ·exact h.print _ ⟨by dsimp only;omega,by dsimp only;omega,hva⟩
 ·exact h
theorem GJ (hr:cW u) (h:eN u m) (ht:t<u.bz.length) (hk:(m.node u t).kind≠9):0<=(m.act t (m.node u t)).2.1/\(m.act t (m.node u t)).2.1<(u.gr t).nodes.length:=by
 have hn:=h.node hr ht
 generalize m.node u t=n at *
 have hkd:=hn.kind
 have hnx:=hn.next.1 (by unfold jV;exact decide_eq_true (by omega))
 unfold MS.act
 repeat' split
 all_goals first
  |exact hnx
  |exact hn.rk.1 (by omega)
theorem wK (hu:u.Wf) (hr:cW u) (h:eN u m) (ht:t<u.bz.length) (hk:(m.node u t).kind≠9):eN u (m.step u t).1:=by
 have h1:=N8 hu hr h ht
 have h2:=GJ hr h ht hk
 have h3:(m.step u t).1={ (m.act t (m.node u t)).1 with at_:=m.at_.set t (m.act t (m.node u t)).2.1 }:=rfl
 have h4:(m.act t (m.node u t)).1.at_=m.at_:=by
  unfold MS.act
  repeat' split
  all_goals rfl
 rw[h3,<-h4]
 exact h1.UC _ fun _=>h2
end
end
section
structure ML where
 mr:Nat
 a:Nat
 s:Nat
 me:Nat
 ho:Nat
 pr:Nat
 ids:List Nat
abbrev ML.all (L:ML):List Nat:=L.mr::L.a::L.s::L.me::L.ho::L.pr::L.ids
abbrev ML.it (L:ML) (t:Nat):Nat:=L.ids.getD t 0
abbrev ML.At (L:ML) (u:bx) (m:MS) (H:Hp):Prop:=P0 u m L.mr L.a L.s L.me L.ho L.pr L.ids H
theorem P0.DW {u:bx} {m:MS} {mr a s me ho pr:Nat} {ids:List Nat} {H:Hp} (h:P0 u m mr a s me ho pr ids H) (k:Nat):cp.dX H (k+4) (.pt mr 1 0 0)=m.fz u:=by
 obtain⟨d1,h1⟩:=h.rM
 obtain⟨d2,h2⟩:=h.rA
 obtain⟨d3,h3⟩:=h.rS
 obtain⟨d4,h4⟩:=h.rE
 obtain⟨d5,h5⟩:=h.rH
 obtain⟨d6,h6⟩:=h.rP
 have hsl:(eT ids m.cC).length=m.cC.length:=by unfold eT;rw[List.length_map,List.length_zip,h.len];simp
 have hs:(eT ids m.cC).map (cp.dX H (k+1))=m.cC.map cL:=by
  apply List.ext_getElem (by simp[hsl])
  intro t q1 q2
  have ht:t<m.cC.length:=by simpa using q2
  have hti:t<ids.length:=by rw[h.len];exact ht
  obtain⟨d,hd⟩:=h.rL t ht
  rw[show ids.getD t 0=ids[t] by simp[List.getD,hti],show m.cC.getD t []=m.cC[t] by simp[List.getD,ht]] at hd
  rw[List.getElem_map,List.getElem_map]
  simp only[eT,List.getElem_map,List.getElem_zip]
  rw[dZ hd (by simp),cx _ ((cD _ _).2 fun _ _=>by simp[cK])]
 simp only[cp.dX,h1]
 simp only[List.length_cons,List.length_nil,if_true,List.map_cons,List.map_nil,MS.rows]
 rw[vd]
 simp only[List.map_cons,List.map_nil]
 rw[dZ h2 (by simp),dZ h3 hsl,dZ h4 (by simp),dZ h5 (by simp),dZ h6 (by simp),hs]
 rw[cx _ ((cD _ _).2 fun _ _=>by simp[cK]),cx _ ((cD _ _).2 fun _ _=>by simp[cK]),cx _ ((cD _ _).2 fun _ _=>by simp[cK]),cx _ ((cD _ _).2 fun _ _=>by simp[cK])]
 rw[dj _ (show cK 0 (cw u.shared) by simp[cK,cD]),dj _ (show cK 0 (cw u.cG) by simp[cK,cD]),dj _ (show cK 0 (df u.bz) by simp[cK,cD])]
 rfl
section
variable {u:bx} {m:MS} {L:ML} {H H':Hp}
theorem mP {p:Prop} (h:p:=by first|assumption|(refine Ne.symm ?_;assumption)):p:=h
theorem ML.At.mem (h:L.At u m H):(∀x∈[L.a,L.s,L.me,L.ho,L.pr],x∈L.all):=by
 intro x hx
 simp only[List.mem_cons,List.not_mem_nil,or_false] at hx
 simp only[ML.all,List.mem_cons]
 omega
theorem lC (h:L.At u m H) {t:Nat} (ht:t<m.cC.length):L.it t∈L.all:=by
 have:L.it t∈L.ids:=fI (by rw[h.len];exact ht)
 simp only[ML.all,List.mem_cons]
 exact .inr (.inr (.inr (.inr (.inr (.inr this)))))
theorem Q4 (h:L.At u m H) {t s:Nat} (ht:t<m.cC.length) (hs:s<m.cC.length) (e:s≠t):L.it s≠L.it t:=by
 have h1:=(List.nodup_cons.1 (List.nodup_cons.1 (List.nodup_cons.1 (List.nodup_cons.1 (List.nodup_cons.1 (List.nodup_cons.1 h.nodup).2).2).2).2).2).2
 have hl:=h.len
 intro he
 have ht':t<L.ids.length:=by omega
 have hs':s<L.ids.length:=by omega
 have:L.ids[s]=L.ids[t]:=by simpa[ML.it,List.getD,ht',hs'] using he
 exact e ((List.getElem_inj h1).1 this)
structure ML.QC (L:ML) (t:Nat):Prop where
 ne:L.mr≠L.a/\L.mr≠L.s/\L.mr≠L.me/\L.mr≠L.ho/\L.mr≠L.pr/\L.a≠L.s/\L.a≠L.me/\L.a≠L.ho/\L.a≠L.pr/\L.s≠L.me/\L.s≠L.ho/\L.s≠L.pr/\L.me≠L.ho/\L.me≠L.pr/\L.ho≠L.pr
 it:L.it t≠L.mr/\L.it t≠L.a/\L.it t≠L.s/\L.it t≠L.me/\L.it t≠L.ho/\L.it t≠L.pr
theorem apart (h:L.At u m H) {t:Nat} (ht:t<m.cC.length):L.QC t:=by
 have hn:=h.nodup
 have hi:L.it t∈L.ids:=fI (by rw[h.len];exact ht)
 have hne:∀x,x∉L.ids->L.it t≠x:=fun x hx e=>hx (e▸hi)
 simp only[List.nodup_cons,List.mem_cons,not_or] at hn
 obtain⟨⟨a1,a2,a3,a4,a5,a6⟩,⟨b1,b2,b3,b4,b5⟩,⟨c1,c2,c3,c4⟩,⟨d1,d2,d3⟩,⟨e1,e2⟩,f1,_⟩:=hn
 exact⟨⟨a1,a2,a3,a4,a5,b1,b2,b3,b4,c1,c2,c3,d1,d2,e1⟩,hne _ a6,hne _ b5,hne _ c4,hne _ d3,hne _ e2,hne _ f1⟩
theorem ML.At.cT (h:L.At u m H) (hk:∀y∈L.all,bw H' y=bw H y):L.At u m H':=by
 have hm:=h.mem
 obtain⟨d1,h1⟩:=h.rM
 obtain⟨d2,h2⟩:=h.rA
 obtain⟨d3,h3⟩:=h.rS
 obtain⟨d4,h4⟩:=h.rE
 obtain⟨d5,h5⟩:=h.rH
 obtain⟨d6,h6⟩:=h.rP
 refine⟨⟨d1,(hk _ (by simp)).trans h1⟩,⟨d2,(hk _ (hm _ (by simp))).trans h2⟩,⟨d3,(hk _ (hm _ (by simp))).trans h3⟩,fun t ht=> ?_,⟨d4,(hk _ (hm _ (by simp))).trans h4⟩,⟨d5,(hk _ (hm _ (by simp))).trans h5⟩,⟨d6,(hk _ (hm _ (by simp))).trans h6⟩,h.len,h.nodup⟩
 obtain⟨d,hd⟩:=h.rL t ht
 exact⟨d,(hk _ (lC h ht)).trans hd⟩
theorem ML.At.gb (h:L.At u m H) {t:Nat} (ht:t<m.cC.length) (k w:Int) (hit:∃d,bw H' (L.it t)=some (.row 2 1 d (((m.cC.getD t []).map i64).set k.toNat (i64 w)))) (hk:∀y∈L.all,y≠L.it t->bw H' y=bw H y):L.At u (m.gb t k w) H':=by
 obtain⟨-,n1,n2,n3,n4,n5,n6⟩:=apart h ht
 have hm:=h.mem
 obtain⟨d1,h1⟩:=h.rM
 obtain⟨d2,h2⟩:=h.rA
 obtain⟨d3,h3⟩:=h.rS
 obtain⟨d4,h4⟩:=h.rE
 obtain⟨d5,h5⟩:=h.rH
 obtain⟨d6,h6⟩:=h.rP
 have hl:(m.gb t k w).cC.length=m.cC.length:=by simp[MS.gb]
 have hrow:eT L.ids (m.gb t k w).cC=eT L.ids m.cC:=by
  unfold eT MS.gb
  apply List.ext_getElem (by simp)
  intro i q1 q2
  simp only[List.getElem_map,List.getElem_zip,AV.sl.injEq,true_and]
  rw[List.getElem_set]
  have hi:i<m.cC.length:=by simp at q2;omega
  split
  ·rename_i e;subst e;rw[List.length_set];simp[List.getD,hi]
  ·rfl
 refine⟨⟨d1, ?_⟩,⟨d2,(hk _ (hm _ (by simp)) mP).trans h2⟩,⟨d3,by rw[hrow];exact(hk _ (hm _ (by simp)) mP).trans h3⟩,fun s hs=> ?_,⟨d4,(hk _ (hm _ (by simp)) mP).trans h4⟩,⟨d5,(hk _ (hm _ (by simp)) mP).trans h5⟩,⟨d6,(hk _ (hm _ (by simp)) mP).trans h6⟩,by rw[hl];exact h.len,h.nodup⟩
 ·rw[show(m.gb t k w).rows u L.a L.s L.me L.ho L.pr=m.rows u L.a L.s L.me L.ho L.pr by simp[MS.rows,MS.gb]]
  exact(hk _ (by simp) mP).trans h1
 ·rw[hl] at hs
  by_cases e:s=t
  ·subst e
   obtain⟨d,hd⟩:=hit
   refine⟨d,hd.trans ?_⟩
   rw[show(m.gb s k w).cC.getD s []=(m.cC.getD s []).set k.toNat w from ed hs,List.map_set]
  ·obtain⟨d,hd⟩:=h.rL s hs
   refine⟨d, ?_⟩
   rw[show(m.gb t k w).cC.getD s []=m.cC.getD s [] from getD_set_ne (Ne.symm e)]
   exact(hk _ (lC h hs) (Q4 h ht hs e)).trans hd
theorem ML.At.jX (h:L.At u m H) {t:Nat} (ht:t<m.cC.length) (k w:Int) (hme:∃d,bw H' L.me=some (.row 2 1 d ((m.mem.map i64).set k.toNat (i64 w)))) (hk:∀y∈L.all,y≠L.me->bw H' y=bw H y):L.At u { m with mem:=m.mem.set k.toNat w } H':=by
 obtain⟨⟨a1,a2,a3,a4,a5,b1,b2,b3,b4,c1,c2,c3,e1,e2,f1⟩,n1,n2,n3,n4,n5,n6⟩:=apart h ht
 have hm:=h.mem
 obtain⟨d1,h1⟩:=h.rM
 obtain⟨d2,h2⟩:=h.rA
 obtain⟨d3,h3⟩:=h.rS
 obtain⟨d4,h4⟩:=hme
 obtain⟨d5,h5⟩:=h.rH
 obtain⟨d6,h6⟩:=h.rP
 refine⟨⟨d1, ?_⟩,⟨d2,(hk _ (hm _ (by simp)) mP).trans h2⟩,⟨d3,(hk _ (hm _ (by simp)) mP).trans h3⟩,fun s hs=> ?_,⟨d4,by rw[List.map_set];exact h4⟩,⟨d5,(hk _ (hm _ (by simp)) mP).trans h5⟩,⟨d6,(hk _ (hm _ (by simp)) mP).trans h6⟩,h.len,h.nodup⟩
 ·rw[show({ m with mem:=m.mem.set k.toNat w }:MS).rows u L.a L.s L.me L.ho L.pr=m.rows u L.a L.s L.me L.ho L.pr by simp[MS.rows]]
  exact(hk _ (by simp) mP).trans h1
 ·obtain⟨d,hd⟩:=h.rL s hs
  obtain⟨m1,m2,m3,m4,m5,m6⟩:=(apart h hs).it
  exact⟨d,(hk _ (lC h hs) mP).trans hd⟩
theorem ML.At.NN (h:L.At u m H) {t:Nat} (ht:t<m.cC.length) (k w:Int) (hho:∃d,bw H' L.ho=some (.row 3 1 d ((m.hold.map i64).set k.toNat (i64 w)))) (hk:∀y∈L.all,y≠L.ho->bw H' y=bw H y):L.At u { m with hold:=m.hold.set k.toNat w } H':=by
 obtain⟨⟨a1,a2,a3,a4,a5,b1,b2,b3,b4,c1,c2,c3,e1,e2,f1⟩,n1,n2,n3,n4,n5,n6⟩:=apart h ht
 have hm:=h.mem
 obtain⟨d1,h1⟩:=h.rM
 obtain⟨d2,h2⟩:=h.rA
 obtain⟨d3,h3⟩:=h.rS
 obtain⟨d4,h4⟩:=h.rE
 obtain⟨d5,h5⟩:=hho
 obtain⟨d6,h6⟩:=h.rP
 refine⟨⟨d1, ?_⟩,⟨d2,(hk _ (hm _ (by simp)) mP).trans h2⟩,⟨d3,(hk _ (hm _ (by simp)) mP).trans h3⟩,fun s hs=> ?_,⟨d4,(hk _ (hm _ (by simp)) mP).trans h4⟩,⟨d5,by rw[List.map_set];exact h5⟩,⟨d6,(hk _ (hm _ (by simp)) mP).trans h6⟩,h.len,h.nodup⟩
 ·rw[show({ m with hold:=m.hold.set k.toNat w }:MS).rows u L.a L.s L.me L.ho L.pr=m.rows u L.a L.s L.me L.ho L.pr by simp[MS.rows]]
  exact(hk _ (by simp) mP).trans h1
 ·obtain⟨d,hd⟩:=h.rL s hs
  obtain⟨m1,m2,m3,m4,m5,m6⟩:=(apart h hs).it
  exact⟨d,(hk _ (lC h hs) mP).trans hd⟩
theorem ML.At.UC (h:L.At u m H) {t:Nat} (ht:t<m.cC.length) (k:Nat) (w:Int) (hat:∃d,bw H' L.a=some (.row 3 1 d ((m.at_.map i64).set k (i64 w)))) (hk:∀y∈L.all,y≠L.a->bw H' y=bw H y):L.At u { m with at_:=m.at_.set k w } H':=by
 obtain⟨⟨a1,a2,a3,a4,a5,b1,b2,b3,b4,c1,c2,c3,e1,e2,f1⟩,n1,n2,n3,n4,n5,n6⟩:=apart h ht
 have hm:=h.mem
 obtain⟨d1,h1⟩:=h.rM
 obtain⟨d2,h2⟩:=hat
 obtain⟨d3,h3⟩:=h.rS
 obtain⟨d4,h4⟩:=h.rE
 obtain⟨d5,h5⟩:=h.rH
 obtain⟨d6,h6⟩:=h.rP
 refine⟨⟨d1, ?_⟩,⟨d2,by rw[List.map_set];exact h2⟩,⟨d3,(hk _ (hm _ (by simp)) mP).trans h3⟩,fun s hs=> ?_,⟨d4,(hk _ (hm _ (by simp)) mP).trans h4⟩,⟨d5,(hk _ (hm _ (by simp)) mP).trans h5⟩,⟨d6,(hk _ (hm _ (by simp)) mP).trans h6⟩,h.len,h.nodup⟩
 ·rw[show({ m with at_:=m.at_.set k w }:MS).rows u L.a L.s L.me L.ho L.pr=m.rows u L.a L.s L.me L.ho L.pr by simp[MS.rows]]
  exact(hk _ (by simp) mP).trans h1
 ·obtain⟨d,hd⟩:=h.rL s hs
  obtain⟨m1,m2,m3,m4,m5,m6⟩:=(apart h hs).it
  exact⟨d,(hk _ (lC h hs) mP).trans hd⟩
theorem ML.At.PD (h:L.At u m H) {t:Nat} (ht:t<m.cC.length) (p:dW) (hmr:∃d,bw H' L.mr=some (.row 114 8 d [({ m with cQ:=m.cQ++[p] }:MS).rows u L.a L.s L.me L.ho L.pr])) (hpr:∃d,bw H' L.pr=some (.row 155 2 d (m.cQ.map dW.av++[p.av]))) (hk:∀y∈L.all,y≠L.pr->y≠L.mr->bw H' y=bw H y):L.At u { m with cQ:=m.cQ++[p] } H':=by
 obtain⟨⟨a1,a2,a3,a4,a5,b1,b2,b3,b4,c1,c2,c3,e1,e2,f1⟩,n1,n2,n3,n4,n5,n6⟩:=apart h ht
 have hm:=h.mem
 obtain⟨d2,h2⟩:=h.rA
 obtain⟨d3,h3⟩:=h.rS
 obtain⟨d4,h4⟩:=h.rE
 obtain⟨d5,h5⟩:=h.rH
 obtain⟨d6,h6⟩:=hpr
 refine⟨hmr,⟨d2,(hk _ (hm _ (by simp)) mP mP).trans h2⟩,⟨d3,(hk _ (hm _ (by simp)) mP mP).trans h3⟩,fun s hs=> ?_,⟨d4,(hk _ (hm _ (by simp)) mP mP).trans h4⟩,⟨d5,(hk _ (hm _ (by simp)) mP mP).trans h5⟩,⟨d6,by rw[List.map_append];exact h6⟩,h.len,h.nodup⟩
 obtain⟨d,hd⟩:=h.rL s hs
 obtain⟨m1,m2,m3,m4,m5,m6⟩:=(apart h hs).it
 exact⟨d,(hk _ (lC h hs) mP mP).trans hd⟩
end
end
def AC (x:AV) (t:Int) (n:Node) (d:gR):List AV:=[x,i64 t,u8 n.kind,u8 n.op,i64 n.slot,i64 n.cR,bl n.a.jK,i64 n.a.slot,i64 n.a.word,bl n.b.jK,i64 n.b.slot,i64 n.b.word,i64 n.next,i64 n.rk,i64 n.origin,i64 d.dc,i64 d.node,u8 d.kind,i64 d.cR,i64 d.word,i64 d.put]
abbrev nD (u:bx) (m:MS) (t:Int) (n:Node) (d:gR):AV:= .ip 21 .any [.agg (AC (m.fz u) t n d)] 0 0
@[simp] theorem UF (k:Nat) (u:bx) (m:MS) (t:Int) (n:Node) (d:gR):c8 k (AC (m.fz u) t n d):=by
  simp[cK,c8,AC]
structure tW (u:bx) (m:MS) (t:Nat) (n:Node) (d:gR) (ab:Nat) (L:ML) (H:Hp):Prop where
 M:L.At u m H
 row:∃dd,bw H ab=some (.row 118 21 dd [.agg (AC (.pt L.mr 1 0 0) t n d)])
 out:ab∉L.all
theorem tW.dX {u:bx} {m:MS} {t:Nat} {n:Node} {d:gR} {ab:Nat} {L:ML} {H:Hp} (h:tW u m t n d ab L H):cp.dX H 6 (.pt ab 1 0 0)=nD u m t n d:=by
 obtain⟨dd,hr⟩:=h.row
 rw[show cp.dX H 6 (.pt ab 1 0 0)= .ip 21 .any (([.agg (AC (.pt L.mr 1 0 0) t n d)]:List AV).map (cp.dX H 5)) 0 0 from OR hr rfl]
 simp only[List.map_cons,List.map_nil]
 rw[vd]
 simp only[AC,List.map_cons,List.map_nil]
 have:=h.M.DW 0
 rw[this]
 simp only[cp.dX]
 rfl
theorem tW.cT {u:bx} {m:MS} {t:Nat} {n:Node} {d:gR} {ab:Nat} {L:ML} {H H':Hp} (h:tW u m t n d ab L H) (hk:∀y∈ab::L.all,bw H' y=bw H y):tW u m t n d ab L H':=by
 obtain⟨dd,hr⟩:=h.row
 exact⟨h.M.cT fun y hy=>hk y (List.mem_cons_of_mem _ hy),⟨dd,(hk ab (by simp)).trans hr⟩,h.out⟩
def nC (m:MS) (t:Nat) (v:lX):Prop:=v.jK=true->0<=v.slot/\v.slot<(m.cC.getD t []).length
theorem iq (u:bx) (m:MS) {t:Nat} (n:Node) (d:gR) (v:lX) (ht:t<m.cC.length) (hl:m.cC.length<=8) (hv:nC m t v):Pure Tryz.prog 158 [nD u m t n d,v.av] (fun r=>r=i64 (m.val t v)):=by
 unfold MS.val
 have e0:∀d,(m.cC.map cL).getD ((t:Int)).toNat d=cL (m.cC.getD t []):=fun d=>by rw[Int.toNat_natCast];exact dJ cL m.cC t d ht
 have a0:(m.cC.map cL).length=m.cC.length:=by simp
 cases hs:v.jK with
 |true=>
  have r0:=hs
  obtain⟨v1,v2⟩:=hv hs
  have a1:((m.cC.getD t []).map i64).length=(m.cC.getD t []).length:=by simp
  have e1:=fun d=>oV (l:=m.cC.getD t []) (k:=v.slot) (by omega) d
  rw[if_pos rfl]
  refine aG NS rfl ?_
  refine cV ?_
  first|exact rfl|trivial
 |false=>
  have r0:=hs
  rw[if_neg (by decide)]
  refine aG NS rfl ?_
  refine cV ?_
  first|exact rfl|trivial
abbrev tE (u:bx) (m:MS) (t:Nat) (n:Node) (d:gR) (ab:Nat) (L:ML) (H0:Hp) (nx:Nat) (H:Hp) (k:Nat):Prop:=tW u m t n d ab L H/\nx<=k/\∀y,y<nx->y≠ab->y∉L.all->bw H y=bw H0 y
theorem JW {L:ML} {m:MS} {t:Nat} (hl:L.ids.length=m.cC.length) (ht:t<m.cC.length) (d:AV):(eT L.ids m.cC).getD t d= .sl (L.it t) (m.cC.getD t []).length:=by
 have h1:t<L.ids.length:=by omega
 have h2:t<(L.ids.zip m.cC).length:=by rw[List.length_zip];omega
 simp[eT,List.getD,ht,h1,List.getElem?_eq_getElem h2]
theorem uj {L:ML} {m:MS} (hl:L.ids.length=m.cC.length):(eT L.ids m.cC).length=m.cC.length:=by
 unfold eT;rw[List.length_map,List.length_zip,hl];simp
theorem dP {x y:Nat} {l:List Nat} (h:x∉l) (hy:y∈l):y≠x:=fun e=>h (e▸hy)
set_option maxHeartbeats 1000000 in
theorem kN {u:bx} {m:MS} {t:Nat} {n:Node} {d:gR} {ab:Nat} {L:ML} {H:Hp} {nx:Nat} (h:tW u m t n d ab L H) (hlt:∀y∈ab::L.all,y<nx) (ht:t<m.cC.length) (hl:m.cC.length<=8) (hs:0<=n.slot/\n.slot<(m.cC.getD t []).length) (w:Int):
 cO Tryz.prog 162 [.pt ab 1 0 0,i64 w] H nx (fun _ H' k=>tE u (m.gb t n.slot w) t n { d with word:=w } ab L H nx H' k):=by
 obtain⟨hM,⟨dd,ra⟩,hout⟩:=h
 obtain⟨⟨a1,a2,a3,a4,a5,b1,b2,b3,b4,c1,c2,c3,e1,e2,f1⟩,n1,n2,n3,n4,n5,n6⟩:=apart hM ht
 have hmem:=hM.mem
 have k0:=hlt ab (by simp)
 have km:=hlt L.mr (by simp)
 have ks:=hlt L.s (List.mem_cons_of_mem _ (hmem _ (by simp)))
 have ki:=hlt (L.it t) (List.mem_cons_of_mem _ (lC hM ht))
 have o1:=dP hout (List.mem_cons_self (a:=L.mr))
 have o2:=dP hout (hmem L.s (by simp))
 have o3:=dP hout (lC hM ht)
 obtain⟨d1,r1⟩:=hM.rM
 obtain⟨d3,r3⟩:=hM.rS
 obtain⟨d7,r7⟩:=hM.rL t ht
 have e0:∀d,(eT L.ids m.cC).getD ((t:Int)).toNat d= .sl (L.it t) (m.cC.getD t []).length:=fun d=>by rw[Int.toNat_natCast];exact JW hM.len ht d
 have q0:=uj hM.len
 have q1:((m.cC.getD t []).map i64).length=(m.cC.getD t []).length:=by simp
 obtain⟨hs1,hs2⟩:=hs
 refine aJ RY rfl ?_
 refine cV ?_
 exact⟨⟨hM.gb ht _ _ ⟨_,cA⟩ fun y hy hne=>by have:=dP hout hy;exact cB,⟨_,cA⟩,hout⟩,ca,fun y y1 y2 y3=>by have y4:=dP y3 (lC hM ht);exact cB⟩
end Go.Proofs.YtjopoheligmmoaaGreatDoor
