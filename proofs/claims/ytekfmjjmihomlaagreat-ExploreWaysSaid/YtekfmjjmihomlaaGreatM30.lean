import Derived.Test.YtekfmjjmihomlaaGreatM26
import Derived.Test.YtekfmjjmihomlaaGreatM27
import Derived.Test.YtekfmjjmihomlaaGreatM28
import Derived.Test.YtekfmjjmihomlaaGreatM29
section
/- The source machine in plain data. -/
namespace Go.Proofs.YtekfmjjmihomlaaGreat
open Go Go.cV Go.Proofs
set_option linter.unusedSimpArgs false
set_option linter.unusedVariables false
structure cM where
 cS:Int
 word:Int
 deriving Inhabited,DecidableEq
def cM.cells (p:cM):List AV:=[i64 p.cS,i64 p.word]
abbrev cM.av (p:cM):AV:= .agg p.cells
structure MS where
 at_:List Int
 bg:List (List Int)
 mem:List Int
 hold:List Int
 bk:List cM
 deriving Inhabited,DecidableEq
abbrev cW (l:List Int):AV:= .im 1 .any (l.map i64)
abbrev pc (l:List (List Int)):AV:= .im 1 .any (l.map cW)
abbrev dE (l:List cM):AV:= .im 2 .any (l.map cM.av)
def MS.cells (u:bj) (m:MS):List AV:=[bn u.shared,bn u.bo,cL u.bh,cW m.at_,pc m.bg,cW m.mem,cW m.hold,dE m.bk]
abbrev MS.fz (u:bj) (m:MS):AV:= .ip 8 .any [.agg (m.cells u)] 0 0
@[simp] theorem OL (n:Nat) (p:cM):cP n p.cells:=by simp[cM.cells,cP,bw]
@[simp] theorem QV (n:Nat) (u:bj) (m:MS):cP n (m.cells u):=by simp[MS.cells,cP,bw,bu]
theorem oX (n:Nat) (u:bj) (m:MS):bw n (m.fz u):=by simp[bw,cP]
structure eN (u:bj) (m:MS):Prop where
 nD:m.at_.length=u.bh.length
 gn:∀t,t<u.bh.length→0≤m.at_.getD t 0∧m.at_.getD t 0<(u.gr t).nodes.length
 sl:m.bg.length=u.bh.length
 xi:∀t,t<u.bh.length→(m.bg.getD t []).length=(u.gr t).bg.toNat
 zZ:∀t,t<u.bh.length→∀w∈m.bg.getD t [],dz w
 ml:m.mem.length=u.shared.length
 mw:∀w∈m.mem,dz w
 hl:m.hold.length=u.bo.length
 hw:∀w∈m.hold,-1≤w∧w<u.bh.length
 pw:∀p∈m.bk,0≤p.cS∧p.cS<u.bh.length∧dz p.word
abbrev MS.node (u:bj) (m:MS) (t:Nat):Node:=(u.gr t).nd (m.at_.getD t 0).toNat
def MS.mC (u:bj) (m:MS) (t:Int):Int:=if t<0∨(m.at_.length:Int)≤t then 2 else if(m.node u t.toNat).kind=9 then 70 else if(m.node u t.toNat).kind=5∧0≤m.hold.getD (m.node u t.toNat).bx.toNat 0 then 71 else 0
theorem eG {l:List Int} {k:Nat} (h:k<l.length) (d:AV):(l.map i64).getD ((k:Int)).toNat d=i64 (l.getD k 0):=by
 rw[Int.toNat_natCast];exact cu i64 l k d h
theorem gW {l:List Int} {k:Int} (h:k.toNat<l.length) (d:AV):(l.map i64).getD k.toNat d=i64 (l.getD k.toNat 0):=cu i64 l k.toNat d h
theorem eN.node {u:bj} {m:MS} (hr:ct u) (h:eN u m) {t:Nat} (ht:t<u.bh.length):oP u (u.gr t) (m.node u t):=by
 have:=h.gn t ht
 exact(hr.gr ht).nodes _ (cX default (by omega))
theorem zo {u:bj} {m:MS} {t:Int} (h:t<0∨(m.at_.length:Int)≤t):m.mC u t=2:=by unfold MS.mC;rw[if_pos h]
theorem IW (u:bj) (m:MS) (t:Int):Pure Tryz.prog 81 [m.fz u,i64 t] (fun r=>r=bl (decide (¬(t<0∨(m.at_.length:Int)≤t)))):=by
 refine aI G7 rfl ?_
 refine cN ?_
 refine dW ?_
 rw[List.length_map]
 by_cases h1:0≤t<;>by_cases h2:t<m.at_.length<;>simp[h1,h2]<;>omega
set_option maxRecDepth 8000 in
set_option maxHeartbeats 2000000 in
theorem xp (u:bj) (hr:ct u) (m:MS) (h:eN u m) (t:Int):Pure Tryz.prog 54 [m.fz u,i64 t] (fun r=>r=i64 (m.mC u t)):=by
 have c0:=IW u m t
 have hl:=h.nD
 by_cases ht:t<0∨(m.at_.length:Int)≤t
 ·rw[zo ht]
  rw[decide_eq_false (fun e=>e ht)] at c0
  refine aI uE rfl ?_
  refine cN ?_
  first|exact rfl|trivial
 ·rw[decide_eq_true ht] at c0
  obtain⟨k,rfl⟩:∃k:Nat,t=k:=⟨t.toNat,by omega⟩
  have hk:k<u.bh.length:=by omega
  have hbar:m.mC u k=if(m.node u k).kind=9 then 70 else if(m.node u k).kind=5∧0≤m.hold.getD (m.node u k).bx.toNat 0 then 71 else 0:=by
   unfold MS.mC;rw[if_neg ht,Int.toNat_natCast]
  rw[hbar]
  have hno:=h.node hr hk
  obtain⟨p0,p1⟩:=h.gn k hk
  have e0:=fun d=>oz (l:=u.bh) hk d
  have e1:=fun d=>eG (l:=m.at_) (k:=k) (by omega) d
  obtain⟨j,hj⟩:∃j:Nat,m.at_.getD k 0=j:=⟨(m.at_.getD k 0).toNat,by omega⟩
  rw[hj] at e1 p1
  have hnd:m.node u k=(u.gr k).nd j:=by unfold MS.node;rw[hj,Int.toNat_natCast]
  rw[hnd] at hno ⊢
  have hgr:u.bh.getD k default=u.gr k:=rfl
  rw[hgr] at e0
  generalize u.gr k=g at *
  have e2:=fun d=>gb (l:=g.nodes) (i:=j) (by omega) d
  rw[show g.nodes.getD j default=g.nd j from rfl] at e2
  generalize g.nd j=n at *
  have a0:(u.bh.map cB.av).length=u.bh.length:=by simp
  have a1:(m.at_.map i64).length=u.bh.length:=by simp[hl]
  have a2:(g.nodes.map Node.av).length=g.nodes.length:=by simp
  have a3:(m.hold.map i64).length=u.bo.length:=by simp[h.hl]
  by_cases h9:n.kind=9
  ·have r0:=h9
   rw[if_pos h9]
   refine aI uE rfl ?_
   refine cN ?_
   first|exact rfl|trivial
  ·rw[if_neg h9]
   by_cases h5:n.kind=5
   ·have hth:=hno.bx.1 (by unfold eS;exact decide_eq_true (by omega))
    rw[if_pos (.inl h5)] at hth
    have hhl:=h.hl
    have e3:=fun d=>gW (l:=m.hold) (k:=n.bx) (by omega) d
    have r0:=h5
    by_cases hh:0≤m.hold.getD n.bx.toNat 0
    ·rw[if_pos ⟨h5,hh⟩]
     have r1:=decide_eq_true hh
     refine aI uE rfl ?_
     refine cN ?_
     first|exact rfl|trivial
    ·rw[if_neg fun e=>hh e.2]
     have r1:=decide_eq_false hh
     refine aI uE rfl ?_
     refine cN ?_
     first|exact rfl|trivial
   ·rw[if_neg fun e=>h5 e.1]
    have r1:=decide_eq_false h5
    refine aI uE rfl ?_
    refine cN ?_
    first|exact rfl|trivial
theorem EM (u:bj) (hr:ct u) (m:MS) (h:eN u m) (t:Int):Pure Tryz.prog 22 [m.fz u,i64 t] (fun r=>r=bl (decide (m.mC u t=0))):=by
 have c0:=xp u hr m h t
 refine aI F1 rfl ?_
 refine cN ?_
 first|exact rfl|trivial
def MS.ended (u:bj) (m:MS):Bool:=(List.range m.at_.length).all fun t=>decide (m.mC u t=70)
theorem EW (u:bj) (hr:ct u) (m:MS) (h:eN u m):Pure Tryz.prog 57 [m.fz u] (fun r=>r=bl (m.ended u)):=by
 have hl:=h.nD
 have hgl:=hr.tv
 refine aI GN rfl ?_
 refine cN ?_
 rw[List.length_map]
 refine aP (fun i:Nat=>[(0,m.fz u),(10,i64 m.at_.length),(11,i64 i)]) (fun i H n=>i≤m.at_.length∧∀j:Nat,j<i→m.mC u j=70) (fun i=>m.at_.length - i) 0 cC ⟨Nat.zero_le _,fun j hj=>by omega⟩ ?_
 rintro i H n ⟨hi,hall⟩
 by_cases hil:i<m.at_.length
 ·have c0:=xp u hr m h i
  by_cases hb:m.mC u i=70
  ·have r0:=hb
   refine cN ?_
   exact⟨i+1,by omega,cC,by omega,fun j hj=>by
    by_cases e:j=i
    ·rw[e];exact hb
    ·exact hall j (by omega)⟩
  ·have r0:=decide_eq_true hb
   refine cN ?_
   refine dW (Eq.symm ?_)
   unfold MS.ended
   rw[List.all_eq_false]
   exact⟨i,List.mem_range.2 hil,by simpa using hb⟩
 ·refine cN ?_
  refine dW (Eq.symm ?_)
  unfold MS.ended
  rw[List.all_eq_true]
  intro j hj
  exact decide_eq_true (hall j (by have:=List.mem_range.1 hj;omega))
end Go.Proofs.YtekfmjjmihomlaaGreat
end
section
/- Ends compared: plain data, the small functions of the code. -/
namespace Go.Proofs.YtekfmjjmihomlaaGreat
open Go Go.cV Go.Proofs
set_option linter.unusedSimpArgs false
set_option linter.unusedVariables false
structure dc where
 bk:List cM
 mem:List Int
 ended:Bool
 deriving Inhabited,DecidableEq
def dc.cells (e:dc):List AV:=[dE e.bk,cW e.mem,bl e.ended]
abbrev dc.av (e:dc):AV:= .agg e.cells
@[simp] theorem P6 (n:Nat) (e:dc):cP n e.cells:=by simp[dc.cells,cP,bw,bu]
def er (x y:Int):Int:=if x<y then -1 else if y<x then 1 else 0
def kW:List Int→Int
 |[]=>0
 |x::l=>if x=0 then kW l else x
def fi (p q:cM):Int:=kW [er p.cS q.cS,er p.word q.word]
def e8 {α:Type} (f:α→α→Int):List α→List α→Int
 |[],[]=>0
 |[],_::_=>-1
 |_::_,[]=>1
 |x::a,y::b=>if f x y=0 then e8 f a b else f x y
def rb (a b:Bool):Int:=if a=b then 0 else if b then -1 else 1
def ep (a b:dc):Int:=kW [e8 fi a.bk b.bk,e8 er a.mem b.mem,rb a.ended b.ended]
theorem pW {α:Type} (f:α→α→Int) (d:α) {a b:List α} {i:Nat} (h1:i<a.length) (h2:i<b.length):e8 f (a.drop i) (b.drop i)=if f (a.getD i d) (b.getD i d)=0 then e8 f (a.drop (i+1)) (b.drop (i+1)) else f (a.getD i d) (b.getD i d):=by
 rw[List.drop_eq_getElem_cons h1,List.drop_eq_getElem_cons h2,e8]
 simp[List.getD,List.getElem?_eq_getElem h1,List.getElem?_eq_getElem h2]
theorem nT {α:Type} (f:α→α→Int) {a b:List α} {i:Nat} (h1:i<a.length) (h2:b.length≤i):e8 f (a.drop i) (b.drop i)=1:=by
 rw[List.drop_eq_getElem_cons h1,List.drop_of_length_le h2,e8]
theorem nS {α:Type} (f:α→α→Int) {a b:List α} {i:Nat} (h1:a.length≤i) (h2:i≤b.length):e8 f (a.drop i) (b.drop i)=if i<b.length then -1 else 0:=by
 rw[List.drop_of_length_le h1]
 split
 ·rename_i h;rw[List.drop_eq_getElem_cons h,e8]
 ·rw[List.drop_of_length_le (by omega),e8]
theorem A0 (x:Int):Pure Tryz.prog 76 [i64 x] (fun r=>r=bl false):=by
 refine aI G2 rfl ?_
 refine cN ?_
 refine dW ?_
 simp
theorem wv (x:Int):Pure Tryz.prog 77 [i64 x] (fun r=>r=bl false):=by
 refine aI G3 rfl ?_
 refine cN ?_
 refine dW ?_
 simp
theorem EP (x y:Int):Pure Tryz.prog 48 [i64 x,i64 y] (fun r=>r=i64 (er x y)):=by
 have c0:=A0 x
 have c1:=A0 y
 unfold er
 by_cases h:x<y
 ·rw[if_pos h]
  refine aI y0 rfl ?_
  refine cN ?_
  first|exact rfl|trivial
 ·rw[if_neg h]
  by_cases h2:y<x
  ·rw[if_pos h2]
   refine aI y0 rfl ?_
   refine cN ?_
   first|exact rfl|trivial
  ·rw[if_neg h2]
   refine aI y0 rfl ?_
   refine cN ?_
   first|exact rfl|trivial
theorem sN (x y:Int):Pure Tryz.prog 49 [i64 x,i64 y] (fun r=>r=i64 (er x y)):=by
 have c0:=wv x
 have c1:=wv y
 unfold er
 by_cases h:x<y
 ·rw[if_pos h]
  refine aI yb rfl ?_
  refine cN ?_
  first|exact rfl|trivial
 ·rw[if_neg h]
  by_cases h2:y<x
  ·rw[if_pos h2]
   refine aI yb rfl ?_
   refine cN ?_
   first|exact rfl|trivial
  ·rw[if_neg h2]
   refine aI yb rfl ?_
   refine cN ?_
   first|exact rfl|trivial
theorem H5 {l:List Int} {i:Nat} (h:i<l.length):kW (l.drop i)=if l.getD i 0=0 then kW (l.drop (i+1)) else l.getD i 0:=by
 rw[List.drop_eq_getElem_cons h,kW]
 simp[List.getD,List.getElem?_eq_getElem h]
theorem A2 (l:List Int) (hl:l.length≤1000):Pure Tryz.prog 47 [cW l] (fun r=>r=i64 (kW l)):=by
 refine aI GH rfl ?_
 refine cN ?_
 rw[List.length_map]
 refine aP (fun i:Nat=>[(3,i64 0),(6,cW l),(7,i64 l.length),(8,i64 i)]) (fun i H n=>i≤l.length∧kW l=kW (l.drop i)) (fun i=>l.length - i) 0 cC ⟨Nat.zero_le _,rfl⟩ ?_
 rintro i H n ⟨hi,ho⟩
 rw[ho]
 by_cases hil:i<l.length
 ·have e0:=fun d=>eG (l:=l) hil d
  have a0:(l.map i64).length=l.length:=by simp
  have hd:=H5 hil
  by_cases hz:l.getD i 0=0
  ·have r0:=hz
   rw[if_pos hz] at hd
   refine cN ?_
   exact⟨i+1,by omega,cC,by omega,hd⟩
  ·have r0:=decide_eq_true hz
   rw[if_neg hz] at hd
   refine cN ?_
   rw[hd]
 ·rw[List.drop_of_length_le (by omega)]
  refine cN ?_
  first|exact rfl|trivial
end Go.Proofs.YtekfmjjmihomlaaGreat
end
section
/- Copies of lists; what a machine shows. -/
namespace Go.Proofs.YtekfmjjmihomlaaGreat
open Go Go.cV Go.Proofs
set_option linter.unusedSimpArgs false
set_option linter.unusedVariables false
theorem rK {p:Prop} (h:Go p):p:=h
theorem BS {es:List AV} (hf:cP 0 es) (hl:es.length * 16≤140737488355328):cJ Tryz.prog 63 [.im 2 .any es] [] 0 (fun r H _=>cV.dR H 6 r= .sc (.slice none 0 0)∧es=[]∨cV.dR H 6 r= .im 2 .any es):=by
 refine aQ GR rfl ?_
 cases es with
 |nil=>
  refine cN ?_
  refine⟨rK ?_,rK ?_⟩
  ·refine cN ?_
   exact⟨.inl ⟨rfl,rfl⟩⟩
  ·refine cN ?_
   exact⟨.inr rfl⟩
 |cons x t=>
  have a0:(x::t).length * 16≤iR:=hl
  simp only[List.length_cons] at hl
  refine cN ?_
  refine⟨.inr ((dG (e:=89) (sz:=2) (es:=x::t) bf (Nat.zero_add _).symm).trans ?_)⟩
  rw[cc _ hf]
theorem BT {es:List AV} (hf:cP 0 es) (hl:es.length * 8≤140737488355328):cJ Tryz.prog 90 [.im 1 .any es] [] 0 (fun r H _=>cV.dR H 6 r= .sc (.slice none 0 0)∧es=[]∨cV.dR H 6 r= .im 1 .any es):=by
 refine aQ HE rfl ?_
 cases es with
 |nil=>
  refine cN ?_
  refine⟨rK ?_,rK ?_⟩
  ·refine cN ?_
   exact⟨.inl ⟨rfl,rfl⟩⟩
  ·refine cN ?_
   exact⟨.inr rfl⟩
 |cons x t=>
  have a0:(x::t).length * 8≤iR:=hl
  simp only[List.length_cons] at hl
  refine cN ?_
  refine⟨.inr ((dG (e:=2) (sz:=1) (es:=x::t) bf (Nat.zero_add _).symm).trans ?_)⟩
  rw[cc _ hf]
theorem vC (l:List cM) (hl:l.length * 16≤140737488355328):Pure Tryz.prog 63 [dE l] (fun r=>r=dE l):=
 lu (by simp[bw,bu]) (BS ((bu _ _).2 fun _ _=>by simp[bw]) (by rw[List.length_map];exact hl))
theorem vD (l:List Int) (hl:l.length * 8≤140737488355328):Pure Tryz.prog 90 [cW l] (fun r=>r=cW l):=
 lu (by simp[bw,bu]) (BT ((bu _ _).2 fun _ _=>by simp[bw]) (by rw[List.length_map];exact hl))
theorem tE (u:bj) (m:MS) (hl:m.bk.length * 16≤140737488355328):Pure Tryz.prog 30 [m.fz u] (fun r=>r=dE m.bk):=by
 have c0:=vC m.bk hl
 refine aI F8 rfl ?_
 refine cN ?_
 first|exact rfl|trivial
theorem C0 (u:bj) (m:MS) (hl:m.mem.length * 8≤140737488355328):Pure Tryz.prog 56 [m.fz u] (fun r=>r=cW m.mem):=by
 have c0:=vD m.mem hl
 refine aI GM rfl ?_
 refine cN ?_
 first|exact rfl|trivial
end Go.Proofs.YtekfmjjmihomlaaGreat
end
section
/- Whether a situation is an end. -/
namespace Go.Proofs.YtekfmjjmihomlaaGreat
open Go Go.cV Go.Proofs
set_option linter.unusedSimpArgs false
set_option linter.unusedVariables false
def MS.stuck (u:bj) (m:MS):Bool:=(List.range m.at_.length).all fun t=>decide (m.mC u t≠0)
def MS.end_ (u:bj) (m:MS):dc:=⟨m.bk,m.mem,m.ended u⟩
def kX (u:bj) (m:MS):AV:=if m.stuck u then .dH [(m.end_ u).av,bl true] else .dH [.agg [.sc (.slice none 0 0), .sc (.slice none 0 0),bl false],bl false]
theorem tD (u:bj) (hr:ct u) (m:MS) (h:eN u m) (hp:m.bk.length * 16≤140737488355328) (hm:m.mem.length * 8≤140737488355328):Pure Tryz.prog 36 [u.av,m.fz u] (fun r=>r=kX u m):=by
 have hl:=h.nD
 have hgl:=hr.tv
 have c1:=tE u m hp
 have c2:=C0 u m hm
 have c3:=EW u hr m h
 refine aI GA rfl ?_
 refine cN ?_
 rw[List.length_map,←hl]
 refine aP (fun i:Nat=>[(1,m.fz u),(4, .pt 1 1 0 0),(9,i64 m.at_.length),(10,i64 i)]) (fun i H n=>i≤m.at_.length∧2≤n∧bd H 1=some (.row 40 3 (fU true [.slice none 0 0, .slice none 0 0, .bool false]) [fU true [.slice none 0 0, .slice none 0 0, .bool false]])∧∀j:Nat,j<i→m.mC u j≠0) (fun i=>m.at_.length - i) 0 cC ⟨Nat.zero_le _,cU,bf,fun j hj=>by omega⟩ ?_
 rintro i H n ⟨hi,hn,hx,hall⟩
 by_cases hil:i<m.at_.length
 ·have c0:=EM u hr m h i
  by_cases hb:m.mC u i=0
  ·have hs:m.stuck u=false:=by
    unfold MS.stuck
    rw[List.all_eq_false]
    exact⟨i,List.mem_range.2 hil,by simpa using hb⟩
   have r0:=decide_eq_true hb
   rw[kX,hs]
   refine cN ?_
   first|exact rfl|trivial
  ·have r0:=decide_eq_false hb
   refine cN ?_
   exact⟨i+1,by omega,cC,by omega,by omega,bf,fun j hj=>by
    by_cases e:j=i
    ·rw[e];exact hb
    ·exact hall j (by omega)⟩
 ·have hs:m.stuck u=true:=by
   unfold MS.stuck
   rw[List.all_eq_true]
   intro j hj
   exact decide_eq_true (hall j (by have:=List.mem_range.1 hj;omega))
  rw[kX,hs]
  refine cN ?_
  first|exact rfl|trivial
end Go.Proofs.YtekfmjjmihomlaaGreat
end
section
/- The machine in rows: Copy. -/
namespace Go.Proofs.YtekfmjjmihomlaaGreat
open Go Go.cV Go.Proofs
set_option linter.unusedSimpArgs false
set_option linter.unusedVariables false
def cx (ids:List Nat) (l:List (List Int)):List AV:=(ids.zip l).map fun p=> .sl p.1 p.2.length
def MS.rows (u:bj) (m:MS) (a s me ho pr:Nat):AV:= .agg [bn u.shared,bn u.bo,cL u.bh, .sl a m.at_.length, .sl s m.bg.length, .sl me m.mem.length, .sl ho m.hold.length, .sl pr m.bk.length]
structure OH (u:bj) (m:MS) (mr a s me ho pr:Nat) (ids:List Nat) (H:Hp):Prop where
 rM:∃d,bd H mr=some (.row 100 8 d [m.rows u a s me ho pr])
 rA:∃d,bd H a=some (.row 3 1 d (m.at_.map i64))
 rS:∃d,bd H s=some (.row 38 1 d (cx ids m.bg))
 rL:∀t,t<m.bg.length→∃d,bd H (ids.getD t 0)=some (.row 2 1 d ((m.bg.getD t []).map i64))
 rE:∃d,bd H me=some (.row 2 1 d (m.mem.map i64))
 rH:∃d,bd H ho=some (.row 3 1 d (m.hold.map i64))
 rP:∃d,bd H pr=some (.row 89 2 d (m.bk.map cM.av))
 len:ids.length=m.bg.length
 nodup:(mr::a::s::me::ho::pr::ids).Nodup
theorem mB {ids:List Nat} {l:List (List Int)} (h:ids.length=l.length) (i:Nat) (x:List Int):cx (ids++[i]) (l++[x])=cx ids l++[.sl i x.length]:=by
 unfold cx
 rw[List.zip_append h]
 simp
theorem copied (es:List AV) (z:AV):List.take (es.length.min (es.length:Int).toNat) es++List.drop (es.length.min (es.length:Int).toNat) (List.replicate (es.length:Int).toNat z)=es:=by
 rw[Int.toNat_natCast,show es.length.min es.length=es.length from Nat.min_self _]
 simp
set_option maxHeartbeats 4000000 in
theorem yA (u:bj) (m:MS) (h1:m.at_.length≤4096) (h2:m.mem.length≤4096) (h3:m.hold.length≤4096) (h4:m.bk.length≤1048576) (h5:m.bg.length≤4096) (h6:∀l∈m.bg,l.length≤1048576) (H0:Hp) (nx:Nat):cJ Tryz.prog 65 [m.fz u] H0 nx (fun r H n=>∃mr a s me ho pr ids,r= .pt mr 1 0 0∧OH u m mr a s me ho pr ids H∧(∀x∈mr::a::s::me::ho::pr::ids,nx≤x∧x<n)∧nx≤n∧∀y,y<nx→bd H y=bd H0 y):=by
 refine aQ GU rfl ?_
 refine cN ?_
 simp only[copied]
 simp only[List.length_map,Int.toNat_natCast]
 refine aU (fun σ:Nat×List Nat=>[(0,m.fz u),(3, .pt (nx+32) 1 0 0),(78,pc m.bg),(79,i64 m.bg.length),(80,i64 σ.1)])
  (fun σ H n=>σ.1≤m.bg.length∧nx+77≤n∧σ.2.length=σ.1∧σ.2.Nodup∧(∀x∈σ.2,nx+77≤x∧x<n)∧(∃d,bd H (nx+32)=some (.row 100 8 d [.agg [bn u.shared,bn u.bo,cL u.bh, .sl (nx+12) m.at_.length, .sl (nx+76) σ.1, .sl (nx+18) m.mem.length, .sl (nx+24) m.hold.length, .sl (nx+30) m.bk.length]]))∧(∃d,bd H (nx+12)=some (.row 3 1 d (m.at_.map i64)))∧(∃d,bd H (nx+18)=some (.row 2 1 d (m.mem.map i64)))∧(∃d,bd H (nx+24)=some (.row 3 1 d (m.hold.map i64)))∧(∃d,bd H (nx+30)=some (.row 89 2 d (m.bk.map cM.av)))∧(∃d,bd H (nx+76)=some (.row 38 1 d (cx σ.2 (m.bg.take σ.1))))∧(∀t,t<σ.1→∃d,bd H (σ.2.getD t 0)=some (.row 2 1 d ((m.bg.getD t []).map i64)))∧∀y,y<nx→bd H y=bd H0 y) (fun σ=>m.bg.length - σ.1) (0,[])
  ⟨_,_,_,Rt.wk (Wk.fV (b:=nx+32) (e:=38) (sz:=1) (by simp only[List.length_cons,List.length_nil];omega) (by omega) (te:=100) (tz:=8) (cs:=[bn u.shared,bn u.bo,cL u.bh, .sl (nx+12) m.at_.length, .sc (.slice none 0 0), .sl (nx+18) m.mem.length, .sl (nx+24) m.hold.length, .sl (nx+30) m.bk.length]) (j:=4) bf (by show 4<8;omega) rfl),cC,Nat.zero_le _,cU,rfl,List.nodup_nil,fun x hx=>by simp at hx,⟨_,bf⟩,⟨_,bf⟩,⟨_,bf⟩,⟨_,bf⟩,⟨_,bf⟩,⟨_,bf⟩,fun t ht=>absurd ht (Nat.not_lt_zero _),fun y hy=>br⟩ ?_
 rintro⟨t,ids⟩ H n ⟨ht,hn,hil,hnd,hin,⟨d0,r0⟩,⟨d1,r1⟩,⟨d2,r2⟩,⟨d3,r3⟩,⟨d4,r4⟩,⟨d5,r5⟩,hls,hkp⟩
 dsimp only at ht hil hnd hin r0 r5 hls ⊢
 have htk:(m.bg.take t).length=t:=by rw[List.length_take];omega
 have hrl:(cx ids (m.bg.take t)).length=t:=by unfold cx;rw[List.length_map,List.length_zip,htk,hil];omega
 by_cases htl:t<m.bg.length
 ·have e0:∀d,(m.bg.map cW).getD ((t:Int)).toNat d=cW (m.bg.getD t []):=fun d=>by rw[Int.toNat_natCast];exact cu cW m.bg t d htl
  have a0:(m.bg.map cW).length=m.bg.length:=by simp
  have hnx:cx (ids++[n+6]) (m.bg.take (t+1))=cx ids (m.bg.take t)++[.sl (n+6) (m.bg.getD t []).length]:=by
   rw[List.take_succ_eq_append_getElem htl,mB (by rw[hil,htk]),show m.bg.getD t []=m.bg[t] by simp[List.getD,htl]]
  have h7:=h6 _ (cX (l:=m.bg) [] htl)
  refine cN ?_
  simp only[copied]
  simp only[List.length_map,Int.toNat_natCast]
  refine⟨(t+1,ids++[n+6]),by dsimp only;omega,_,_,_,Rt.refl _ _ _,cC,by dsimp only;omega,by omega,by simp[hil], ?_, ?_,⟨_,bf⟩,⟨_,bf⟩,⟨_,bf⟩,⟨_,bf⟩,⟨_,bf⟩,⟨_,by dsimp only;rw[hnx];exact bf⟩, ?_,fun y hy=>Eq.trans br (hkp y hy)⟩
  ·refine List.nodup_append.2 ⟨hnd,by simp,fun a ha b hb=> ?_⟩
   simp only[List.mem_cons,List.not_mem_nil,or_false] at hb
   have:=hin _ ha;omega
  ·intro x hx
   rcases List.mem_append.1 hx with hx|hx
   ·have:=hin _ hx;exact⟨this.1,Nat.lt_of_lt_of_le this.2 cU⟩
   ·simp only[List.mem_cons,List.not_mem_nil,or_false] at hx
    subst hx;exact⟨by omega,cU⟩
  ·intro q hq
   have hq:q<t+1:=hq
   by_cases e:q=t
   ·subst e
    have e2:(ids++[n+6]).getD q 0=n+6:=by rw[List.getD,List.getElem?_append_right (by omega),hil,Nat.sub_self];rfl
    dsimp only
    rw[e2];exact⟨_,bf⟩
   ·obtain⟨d,hd⟩:=hls q (by omega)
    have e2:(ids++[n+6]).getD q 0=ids.getD q 0:=by simp[List.getD,List.getElem?_append,show q<ids.length by omega]
    have:=hin _ (dU (l:=ids) (q:=q) (by omega))
    dsimp only
    rw[e2];exact⟨d,Eq.trans br hd⟩
 ·have:t=m.bg.length:=by omega
  subst this
  rw[List.take_length] at r5
  refine cN ?_
  refine⟨⟨nx+32,nx+12,nx+76,nx+18,nx+24,nx+30,ids,rfl,⟨⟨_,bf⟩,⟨_,bf⟩,⟨_,bf⟩,fun t ht=> ?_,⟨_,bf⟩,⟨_,bf⟩,⟨_,bf⟩,hil, ?_⟩, ?_,cU,fun y hy=>Eq.trans br (hkp y hy)⟩⟩
  ·obtain⟨d,hd⟩:=hls t ht
   have:=hin _ (dU (l:=ids) (q:=t) (by omega))
   exact⟨d,Eq.trans br hd⟩
  ·have hno:∀k,k<nx+77→k∉ids:=fun k hk h=>by have:=hin _ h;omega
   simp only[List.nodup_cons,List.mem_cons,not_or]
   exact⟨⟨by omega,by omega,by omega,by omega,by omega,hno _ (by omega)⟩,⟨by omega,by omega,by omega,by omega,hno _ (by omega)⟩,⟨by omega,by omega,by omega,hno _ (by omega)⟩,⟨by omega,by omega,hno _ (by omega)⟩,⟨by omega,hno _ (by omega)⟩,hno _ (by omega),hnd⟩
  ·intro x hx
   simp only[List.mem_cons] at hx
   rcases hx with rfl|rfl|rfl|rfl|rfl|rfl|hx
   all_goals first
    |exact⟨by omega,by omega⟩
    |(have:=hin _ hx;exact⟨by omega,by omega⟩)
end Go.Proofs.YtekfmjjmihomlaaGreat
end
section
/- The machine in rows, frozen. -/
namespace Go.Proofs.YtekfmjjmihomlaaGreat
open Go Go.cV Go.Proofs
set_option linter.unusedSimpArgs false
set_option linter.unusedVariables false
theorem lh {H:Hp} {k:Nat} {cs:List AV}:cV.dR H (k+1) (.agg cs)= .agg (cs.map (cV.dR H k)):=by simp only[dR]
theorem OH.dR {u:bj} {m:MS} {mr a s me ho pr:Nat} {ids:List Nat} {H:Hp} (h:OH u m mr a s me ho pr ids H) (k:Nat):cV.dR H (k+5) (.pt mr 1 0 0)=m.fz u:=by
 obtain⟨d1,h1⟩:=h.rM
 obtain⟨d2,h2⟩:=h.rA
 obtain⟨d3,h3⟩:=h.rS
 obtain⟨d4,h4⟩:=h.rE
 obtain⟨d5,h5⟩:=h.rH
 obtain⟨d6,h6⟩:=h.rP
 have hsl:(cx ids m.bg).length=m.bg.length:=by unfold cx;rw[List.length_map,List.length_zip,h.len];simp
 have hs:(cx ids m.bg).map (cV.dR H (k+2))=m.bg.map cW:=by
  apply List.ext_getElem (by simp[hsl])
  intro t q1 q2
  have ht:t<m.bg.length:=by simpa using q2
  have hti:t<ids.length:=by rw[h.len];exact ht
  obtain⟨d,hd⟩:=h.rL t ht
  rw[show ids.getD t 0=ids[t] by simp[List.getD,hti],show m.bg.getD t []=m.bg[t] by simp[List.getD,ht]] at hd
  rw[List.getElem_map,List.getElem_map]
  simp only[cx,List.getElem_map,List.getElem_zip]
  rw[dG hd (by simp),cc _ ((bu _ _).2 fun _ _=>by simp[bw])]
 simp only[cV.dR,h1]
 simp only[List.length_cons,List.length_nil,if_true,List.map_cons,List.map_nil,MS.rows]
 rw[lh]
 simp only[List.map_cons,List.map_nil]
 rw[dG h2 (by simp),dG h3 hsl,dG h4 (by simp),dG h5 (by simp),dG h6 (by simp),hs]
 rw[cc _ ((bu _ _).2 fun _ _=>by simp[bw]),cc _ ((bu _ _).2 fun _ _=>by simp[bw]),cc _ ((bu _ _).2 fun _ _=>by simp[bw]),cc _ ((bu _ _).2 fun _ _=>by simp[bw])]
 rw[cr _ (show bw 0 (bn u.shared) by simp[bw,bu]),cr _ (show bw 0 (bn u.bo) by simp[bw,bu]),cr _ (show bw 0 (cL u.bh) by simp[bw,bu])]
 rfl
end Go.Proofs.YtekfmjjmihomlaaGreat
end
section
/- The machine that has done nothing. -/
namespace Go.Proofs.YtekfmjjmihomlaaGreat
open Go Go.cV Go.Proofs
set_option linter.unusedSimpArgs false
set_option linter.unusedVariables false
def cq (u:bj):MS:=⟨u.bh.map fun _=>0,u.bh.map fun g=>List.replicate g.bg.toNat 0,u.shared.map Decl.word,u.bo.map fun _=>-1,[]⟩
theorem KV (u:bj) (hr:ct u) (hw:∀d∈u.shared,dz d.word) (hn:∀t,t<u.bh.length→0<(u.gr t).nodes.length):eN u (cq u) where
 nD:=by simp[cq]
 gn:=fun t ht=>by
  have e:(cq u).at_.getD t 0=0:=by simp[cq,List.getD,ht]
  rw[e]
  exact⟨Int.le_refl _,by have:=hn t ht;omega⟩
 sl:=by simp[cq]
 xi:=fun t ht=>by
  have e:(cq u).bg.getD t []=List.replicate (u.gr t).bg.toNat 0:=by simp[cq,List.getD,bj.gr,ht]
  rw[e,List.length_replicate]
 zZ:=fun t ht w hw=>by
  have e:(cq u).bg.getD t []=List.replicate (u.gr t).bg.toNat 0:=by simp[cq,List.getD,bj.gr,ht]
  rw[e] at hw
  rw[List.eq_of_mem_replicate hw]
  exact⟨by omega,by omega⟩
 ml:=by simp[cq]
 mw:=fun w h=>by
  obtain⟨d,hd,rfl⟩:=List.mem_map.1 h
  exact hw d hd
 hl:=by simp[cq]
 hw:=fun w h=>by
  obtain⟨d,hd,rfl⟩:=List.mem_map.1 h
  exact⟨by omega,by omega⟩
 pw:=fun p h=>by simp[cq] at h
end Go.Proofs.YtekfmjjmihomlaaGreat
end
section
/- Operators. -/
namespace Go.Proofs.YtekfmjjmihomlaaGreat
open Go Go.cV Go.Proofs
set_option linter.unusedSimpArgs false
set_option linter.unusedVariables false
set_option maxHeartbeats 1000000
abbrev u9 (n:Int):Int:=IntKind.i64.wrap n
def xF (a b:Int):Int:=if b=0 then 0 else if b=-1 then u9 (0 - a) else u9 (a.tdiv b)
def uO (a b:Int):Int:=if b=0 then a else u9 (a - u9 (xF a b * b))
def OU (a b:Int):Int:=u9 ((BitVec.ofInt 64 a&&& BitVec.ofInt 64 b).toNat:Int)
def RA (a b:Int):Int:=u9 ((BitVec.ofInt 64 a|||BitVec.ofInt 64 b).toNat:Int)
def P1 (a b:Int):Int:=u9 ((BitVec.ofInt 64 a^^^BitVec.ofInt 64 b).toNat:Int)
def tn (b:Int):Int:=IntKind.u64.wrap ((BitVec.ofInt 64 (IntKind.u64.wrap b)&&& BitVec.ofInt 64 63).toNat:Int)
def K9 (a b:Int):Int:=u9 (a * 2^(min (tn b).toNat 64))
def DK (a b:Int):Int:=a.fdiv (2^(min (tn b).toNat 64))
def tr (t:Bool):Int:=if t=true then 1 else 0
theorem cn (t:Bool):Pure Tryz.prog 173 [bl t] (fun r=>r=i64 (tr t)):=by
 refine aI wa rfl ?_
 repeat' (first|((with_reducible refine aF ?_);conv=>whnf)|refine aG ?_|exact aC|with_reducible refine aD ?_ ?_|(apply aA;(·exact cA))|refine aH ?_|((with_reducible refine aB ?_ ?_)<;>intro hc<;>(try simp only[List.length_map,ne_eq,dC] at hc)<;>try(exfalso;omega)))
 all_goals simp_all[tr]
theorem nL (a b:Int):Pure Tryz.prog 155 [i64 a,i64 b] (fun r=>r=i64 (u9 (a+b))):=by
 refine aI wP rfl ?_
 repeat' (first|((with_reducible refine aF ?_);conv=>whnf)|refine aG ?_|exact aC|with_reducible refine aD ?_ ?_|(apply aA;(·exact cA))|refine aH ?_|((with_reducible refine aB ?_ ?_)<;>intro hc<;>(try simp only[List.length_map,ne_eq,dC] at hc)<;>try(exfalso;omega)))
 all_goals exact rfl
theorem oI (a b:Int):Pure Tryz.prog 156 [i64 a,i64 b] (fun r=>r=i64 (u9 (a - b))):=by
 refine aI wQ rfl ?_
 repeat' (first|((with_reducible refine aF ?_);conv=>whnf)|refine aG ?_|exact aC|with_reducible refine aD ?_ ?_|(apply aA;(·exact cA))|refine aH ?_|((with_reducible refine aB ?_ ?_)<;>intro hc<;>(try simp only[List.length_map,ne_eq,dC] at hc)<;>try(exfalso;omega)))
 all_goals exact rfl
theorem nn (a b:Int):Pure Tryz.prog 157 [i64 a,i64 b] (fun r=>r=i64 (u9 (a * b))):=by
 refine aI wR rfl ?_
 repeat' (first|((with_reducible refine aF ?_);conv=>whnf)|refine aG ?_|exact aC|with_reducible refine aD ?_ ?_|(apply aA;(·exact cA))|refine aH ?_|((with_reducible refine aB ?_ ?_)<;>intro hc<;>(try simp only[List.length_map,ne_eq,dC] at hc)<;>try(exfalso;omega)))
 all_goals exact rfl
theorem iJ (a b:Int):Pure Tryz.prog 158 [i64 a,i64 b] (fun r=>r=i64 (xF a b)):=by
 refine aI wS rfl ?_
 repeat' (first|((with_reducible refine aF ?_);conv=>whnf)|refine aG ?_|exact aC|with_reducible refine aD ?_ ?_|(apply aA;(·exact cA))|refine aH ?_|((with_reducible refine aB ?_ ?_)<;>intro hc<;>(try simp only[List.length_map,ne_eq,dC] at hc)<;>try(exfalso;omega)))
 all_goals simp_all[xF]
theorem oB (a b:Int):Pure Tryz.prog 159 [i64 a,i64 b] (fun r=>r=i64 (uO a b)):=by
 refine aI wT rfl ?_
 repeat' (first|((with_reducible refine aF ?_);conv=>whnf)|refine aG ?_|exact aC|with_reducible refine aD ?_ ?_|(apply aA;(·exact cA))|((with_reducible refine aO (iJ _ _) ?_ ?_);(·exact bq))|((with_reducible refine aJ (fun _=>iJ _ _) ?_ ?_);(·exact bq))|((with_reducible refine aM (iJ _ _) ?_ ?_);(·exact bq))|((with_reducible refine aN (fun _=>iJ _ _) ?_ ?_);(·exact bq))|refine aH ?_|((with_reducible refine aB ?_ ?_)<;>intro hc<;>(try simp only[List.length_map,ne_eq,dC] at hc)<;>try(exfalso;omega)))
 all_goals simp_all[uO]
theorem nO (a b:Int):Pure Tryz.prog 160 [i64 a,i64 b] (fun r=>r=i64 (OU a b)):=by
 refine aI wU rfl ?_
 repeat' (first|((with_reducible refine aF ?_);conv=>whnf)|refine aG ?_|exact aC|with_reducible refine aD ?_ ?_|(apply aA;(·exact cA))|refine aH ?_|((with_reducible refine aB ?_ ?_)<;>intro hc<;>(try simp only[List.length_map,ne_eq,dC] at hc)<;>try(exfalso;omega)))
 all_goals exact rfl
theorem ny (a b:Int):Pure Tryz.prog 161 [i64 a,i64 b] (fun r=>r=i64 (RA a b)):=by
 refine aI wV rfl ?_
 repeat' (first|((with_reducible refine aF ?_);conv=>whnf)|refine aG ?_|exact aC|with_reducible refine aD ?_ ?_|(apply aA;(·exact cA))|refine aH ?_|((with_reducible refine aB ?_ ?_)<;>intro hc<;>(try simp only[List.length_map,ne_eq,dC] at hc)<;>try(exfalso;omega)))
 all_goals exact rfl
theorem oK (a b:Int):Pure Tryz.prog 162 [i64 a,i64 b] (fun r=>r=i64 (P1 a b)):=by
 refine aI wW rfl ?_
 repeat' (first|((with_reducible refine aF ?_);conv=>whnf)|refine aG ?_|exact aC|with_reducible refine aD ?_ ?_|(apply aA;(·exact cA))|refine aH ?_|((with_reducible refine aB ?_ ?_)<;>intro hc<;>(try simp only[List.length_map,ne_eq,dC] at hc)<;>try(exfalso;omega)))
 all_goals exact rfl
theorem oD (a b:Int):Pure Tryz.prog 163 [i64 a,i64 b] (fun r=>r=i64 (K9 a b)):=by
 refine aI wX rfl ?_
 repeat' (first|((with_reducible refine aF ?_);conv=>whnf)|refine aG ?_|exact aC|with_reducible refine aD ?_ ?_|(apply aA;(·exact cA))|refine aH ?_|((with_reducible refine aB ?_ ?_)<;>intro hc<;>(try simp only[List.length_map,ne_eq,dC] at hc)<;>try(exfalso;omega)))
 all_goals exact rfl
theorem oF (a b:Int):Pure Tryz.prog 164 [i64 a,i64 b] (fun r=>r=i64 (DK a b)):=by
 refine aI wY rfl ?_
 repeat' (first|((with_reducible refine aF ?_);conv=>whnf)|refine aG ?_|exact aC|with_reducible refine aD ?_ ?_|(apply aA;(·exact cA))|refine aH ?_|((with_reducible refine aB ?_ ?_)<;>intro hc<;>(try simp only[List.length_map,ne_eq,dC] at hc)<;>try(exfalso;omega)))
 all_goals exact rfl
theorem p7 (a b:Int):Pure Tryz.prog 165 [i64 a,i64 b] (fun r=>r=i64 (tr (decide (a=b)))):=by
 refine aI wZ rfl ?_
 repeat' (first|((with_reducible refine aF ?_);conv=>whnf)|refine aG ?_|exact aC|with_reducible refine aD ?_ ?_|(apply aA;(·exact cA))|((with_reducible refine aO (cn _) ?_ ?_);(·exact bq))|((with_reducible refine aJ (fun _=>cn _) ?_ ?_);(·exact bq))|((with_reducible refine aM (cn _) ?_ ?_);(·exact bq))|((with_reducible refine aN (fun _=>cn _) ?_ ?_);(·exact bq))|refine aH ?_|((with_reducible refine aB ?_ ?_)<;>intro hc<;>(try simp only[List.length_map,ne_eq,dC] at hc)<;>try(exfalso;omega)))
 all_goals exact rfl
theorem kP (a b:Int):Pure Tryz.prog 166 [i64 a,i64 b] (fun r=>r=i64 (tr (decide (a≠b)))):=by
 refine aI w3 rfl ?_
 repeat' (first|((with_reducible refine aF ?_);conv=>whnf)|refine aG ?_|exact aC|with_reducible refine aD ?_ ?_|(apply aA;(·exact cA))|((with_reducible refine aO (cn _) ?_ ?_);(·exact bq))|((with_reducible refine aJ (fun _=>cn _) ?_ ?_);(·exact bq))|((with_reducible refine aM (cn _) ?_ ?_);(·exact bq))|((with_reducible refine aN (fun _=>cn _) ?_ ?_);(·exact bq))|refine aH ?_|((with_reducible refine aB ?_ ?_)<;>intro hc<;>(try simp only[List.length_map,ne_eq,dC] at hc)<;>try(exfalso;omega)))
 all_goals exact rfl
theorem ll (a b:Int):Pure Tryz.prog 167 [i64 a,i64 b] (fun r=>r=i64 (tr (decide (a<b)))):=by
 refine aI w4 rfl ?_
 repeat' (first|((with_reducible refine aF ?_);conv=>whnf)|refine aG ?_|exact aC|with_reducible refine aD ?_ ?_|(apply aA;(·exact cA))|((with_reducible refine aO (cn _) ?_ ?_);(·exact bq))|((with_reducible refine aJ (fun _=>cn _) ?_ ?_);(·exact bq))|((with_reducible refine aM (cn _) ?_ ?_);(·exact bq))|((with_reducible refine aN (fun _=>cn _) ?_ ?_);(·exact bq))|refine aH ?_|((with_reducible refine aB ?_ ?_)<;>intro hc<;>(try simp only[List.length_map,ne_eq,dC] at hc)<;>try(exfalso;omega)))
 all_goals exact rfl
theorem ln (a b:Int):Pure Tryz.prog 168 [i64 a,i64 b] (fun r=>r=i64 (tr (decide (a≤b)))):=by
 refine aI w5 rfl ?_
 repeat' (first|((with_reducible refine aF ?_);conv=>whnf)|refine aG ?_|exact aC|with_reducible refine aD ?_ ?_|(apply aA;(·exact cA))|((with_reducible refine aO (cn _) ?_ ?_);(·exact bq))|((with_reducible refine aJ (fun _=>cn _) ?_ ?_);(·exact bq))|((with_reducible refine aM (cn _) ?_ ?_);(·exact bq))|((with_reducible refine aN (fun _=>cn _) ?_ ?_);(·exact bq))|refine aH ?_|((with_reducible refine aB ?_ ?_)<;>intro hc<;>(try simp only[List.length_map,ne_eq,dC] at hc)<;>try(exfalso;omega)))
 all_goals exact rfl
theorem kF (a b:Int):Pure Tryz.prog 169 [i64 a,i64 b] (fun r=>r=i64 (tr (decide (b<a)))):=by
 refine aI w6 rfl ?_
 repeat' (first|((with_reducible refine aF ?_);conv=>whnf)|refine aG ?_|exact aC|with_reducible refine aD ?_ ?_|(apply aA;(·exact cA))|((with_reducible refine aO (cn _) ?_ ?_);(·exact bq))|((with_reducible refine aJ (fun _=>cn _) ?_ ?_);(·exact bq))|((with_reducible refine aM (cn _) ?_ ?_);(·exact bq))|((with_reducible refine aN (fun _=>cn _) ?_ ?_);(·exact bq))|refine aH ?_|((with_reducible refine aB ?_ ?_)<;>intro hc<;>(try simp only[List.length_map,ne_eq,dC] at hc)<;>try(exfalso;omega)))
 all_goals exact rfl
theorem kR (a b:Int):Pure Tryz.prog 170 [i64 a,i64 b] (fun r=>r=i64 (tr (decide (b≤a)))):=by
 refine aI w7 rfl ?_
 repeat' (first|((with_reducible refine aF ?_);conv=>whnf)|refine aG ?_|exact aC|with_reducible refine aD ?_ ?_|(apply aA;(·exact cA))|((with_reducible refine aO (cn _) ?_ ?_);(·exact bq))|((with_reducible refine aJ (fun _=>cn _) ?_ ?_);(·exact bq))|((with_reducible refine aM (cn _) ?_ ?_);(·exact bq))|((with_reducible refine aN (fun _=>cn _) ?_ ?_);(·exact bq))|refine aH ?_|((with_reducible refine aB ?_ ?_)<;>intro hc<;>(try simp only[List.length_map,ne_eq,dC] at hc)<;>try(exfalso;omega)))
 all_goals exact rfl
theorem kV (a:Int):Pure Tryz.prog 171 [i64 a] (fun r=>r=i64 (u9 (0 - a))):=by
 refine aI w8 rfl ?_
 repeat' (first|((with_reducible refine aF ?_);conv=>whnf)|refine aG ?_|exact aC|with_reducible refine aD ?_ ?_|(apply aA;(·exact cA))|refine aH ?_|((with_reducible refine aB ?_ ?_)<;>intro hc<;>(try simp only[List.length_map,ne_eq,dC] at hc)<;>try(exfalso;omega)))
 all_goals exact rfl
theorem nq (a:Int):Pure Tryz.prog 172 [i64 a] (fun r=>r=i64 (tr (decide (a=0)))):=by
 refine aI w9 rfl ?_
 repeat' (first|((with_reducible refine aF ?_);conv=>whnf)|refine aG ?_|exact aC|with_reducible refine aD ?_ ?_|(apply aA;(·exact cA))|((with_reducible refine aO (cn _) ?_ ?_);(·exact bq))|((with_reducible refine aJ (fun _=>cn _) ?_ ?_);(·exact bq))|((with_reducible refine aM (cn _) ?_ ?_);(·exact bq))|((with_reducible refine aN (fun _=>cn _) ?_ ?_);(·exact bq))|refine aH ?_|((with_reducible refine aB ?_ ?_)<;>intro hc<;>(try simp only[List.length_map,ne_eq,dC] at hc)<;>try(exfalso;omega)))
 all_goals exact rfl
def MK:AV:= .agg [.sc .nilFunc, .sc .nilFunc, .fn (.func 155) [] [], .sc .nilFunc, .fn (.func 156) [] [], .sc .nilFunc, .fn (.func 157) [] [], .sc .nilFunc, .fn (.func 158) [] [], .sc .nilFunc, .fn (.func 159) [] [], .sc .nilFunc, .fn (.func 160) [] [], .sc .nilFunc, .fn (.func 161) [] [], .sc .nilFunc, .fn (.func 162) [] [], .sc .nilFunc, .fn (.func 163) [] [], .sc .nilFunc, .fn (.func 164) [] [], .sc .nilFunc, .fn (.func 165) [] [], .sc .nilFunc, .fn (.func 166) [] [], .sc .nilFunc, .fn (.func 167) [] [], .sc .nilFunc, .fn (.func 168) [] [], .sc .nilFunc, .fn (.func 169) [] [], .sc .nilFunc, .fn (.func 170) [] [], .sc .nilFunc, .sc .nilFunc, .fn (.func 171) [] [], .sc .nilFunc, .fn (.func 172) [] []]
theorem lM:Pure Tryz.prog 147 [] (fun r=>r=MK):=mA (by simp[MK,bw,cP]) (by kernel_rfl)
def IX (op a b:Int):Int:=if op=1 then u9 (a+b) else if op=2 then u9 (a - b) else if op=3 then u9 (a * b) else if op=4 then xF a b else if op=5 then uO a b else if op=6 then OU a b else if op=7 then RA a b else if op=8 then P1 a b else if op=9 then K9 a b else if op=10 then DK a b else if op=11 then tr (decide (a=b)) else if op=12 then tr (decide (a≠b)) else if op=13 then tr (decide (a<b)) else if op=14 then tr (decide (a≤b)) else if op=15 then tr (decide (b<a)) else tr (decide (b≤a))
def HX (op a:Int):Int:=if op=17 then u9 (0 - a) else tr (decide (a=0))
theorem tK {op:Int} (h:dN op=true):op=1∨op=2∨op=3∨op=4∨op=5∨op=6∨op=7∨op=8∨op=9∨op=10∨op=11∨op=12∨op=13∨op=14∨op=15∨op=16:=by
 simp only[dN,Bool.and_eq_true,decide_eq_true_eq] at h;omega
theorem MQ (op a b:Int) (h:dN op=true):Pure Tryz.prog 124 [u8 op,i64 a,i64 b] (fun r=>r= .dH [i64 (IX op a b),i64 0]):=by
 refine aI vv rfl ?_
 rcases tK h with rfl|rfl|rfl|rfl|rfl|rfl|rfl|rfl|rfl|rfl|rfl|rfl|rfl|rfl|rfl|rfl
 all_goals repeat' (first|((with_reducible refine aF ?_);conv=>whnf)|refine aG ?_|exact aC|with_reducible refine aD ?_ ?_|(apply aA;(·exact cA))|((with_reducible refine aO (fI _ (by omega)) ?_ ?_);(·exact bq))|((with_reducible refine aJ (fun _=>fI _ (by omega)) ?_ ?_);(·exact bq))|((with_reducible refine aM (fI _ (by omega)) ?_ ?_);(·exact bq))|((with_reducible refine aN (fun _=>fI _ (by omega)) ?_ ?_);(·exact bq))|refine aK (lM) ?_|((with_reducible refine aO (nL _ _) ?_ ?_);(·exact bq))|((with_reducible refine aJ (fun _=>nL _ _) ?_ ?_);(·exact bq))|((with_reducible refine aM (nL _ _) ?_ ?_);(·exact bq))|((with_reducible refine aN (fun _=>nL _ _) ?_ ?_);(·exact bq))|((with_reducible refine aO (oI _ _) ?_ ?_);(·exact bq))|((with_reducible refine aJ (fun _=>oI _ _) ?_ ?_);(·exact bq))|((with_reducible refine aM (oI _ _) ?_ ?_);(·exact bq))|((with_reducible refine aN (fun _=>oI _ _) ?_ ?_);(·exact bq))|((with_reducible refine aO (nn _ _) ?_ ?_);(·exact bq))|((with_reducible refine aJ (fun _=>nn _ _) ?_ ?_);(·exact bq))|((with_reducible refine aM (nn _ _) ?_ ?_);(·exact bq))|((with_reducible refine aN (fun _=>nn _ _) ?_ ?_);(·exact bq))|((with_reducible refine aO (iJ _ _) ?_ ?_);(·exact bq))|((with_reducible refine aJ (fun _=>iJ _ _) ?_ ?_);(·exact bq))|((with_reducible refine aM (iJ _ _) ?_ ?_);(·exact bq))|((with_reducible refine aN (fun _=>iJ _ _) ?_ ?_);(·exact bq))|((with_reducible refine aO (oB _ _) ?_ ?_);(·exact bq))|((with_reducible refine aJ (fun _=>oB _ _) ?_ ?_);(·exact bq))|((with_reducible refine aM (oB _ _) ?_ ?_);(·exact bq))|((with_reducible refine aN (fun _=>oB _ _) ?_ ?_);(·exact bq))|((with_reducible refine aO (nO _ _) ?_ ?_);(·exact bq))|((with_reducible refine aJ (fun _=>nO _ _) ?_ ?_);(·exact bq))|((with_reducible refine aM (nO _ _) ?_ ?_);(·exact bq))|((with_reducible refine aN (fun _=>nO _ _) ?_ ?_);(·exact bq))|((with_reducible refine aO (ny _ _) ?_ ?_);(·exact bq))|((with_reducible refine aJ (fun _=>ny _ _) ?_ ?_);(·exact bq))|((with_reducible refine aM (ny _ _) ?_ ?_);(·exact bq))|((with_reducible refine aN (fun _=>ny _ _) ?_ ?_);(·exact bq))|((with_reducible refine aO (oK _ _) ?_ ?_);(·exact bq))|((with_reducible refine aJ (fun _=>oK _ _) ?_ ?_);(·exact bq))|((with_reducible refine aM (oK _ _) ?_ ?_);(·exact bq))|((with_reducible refine aN (fun _=>oK _ _) ?_ ?_);(·exact bq))|((with_reducible refine aO (oD _ _) ?_ ?_);(·exact bq))|((with_reducible refine aJ (fun _=>oD _ _) ?_ ?_);(·exact bq))|((with_reducible refine aM (oD _ _) ?_ ?_);(·exact bq))|((with_reducible refine aN (fun _=>oD _ _) ?_ ?_);(·exact bq))|((with_reducible refine aO (oF _ _) ?_ ?_);(·exact bq))|((with_reducible refine aJ (fun _=>oF _ _) ?_ ?_);(·exact bq))|((with_reducible refine aM (oF _ _) ?_ ?_);(·exact bq))|((with_reducible refine aN (fun _=>oF _ _) ?_ ?_);(·exact bq))|((with_reducible refine aO (p7 _ _) ?_ ?_);(·exact bq))|((with_reducible refine aJ (fun _=>p7 _ _) ?_ ?_);(·exact bq))|((with_reducible refine aM (p7 _ _) ?_ ?_);(·exact bq))|((with_reducible refine aN (fun _=>p7 _ _) ?_ ?_);(·exact bq))|((with_reducible refine aO (kP _ _) ?_ ?_);(·exact bq))|((with_reducible refine aJ (fun _=>kP _ _) ?_ ?_);(·exact bq))|((with_reducible refine aM (kP _ _) ?_ ?_);(·exact bq))|((with_reducible refine aN (fun _=>kP _ _) ?_ ?_);(·exact bq))|((with_reducible refine aO (ll _ _) ?_ ?_);(·exact bq))|((with_reducible refine aJ (fun _=>ll _ _) ?_ ?_);(·exact bq))|((with_reducible refine aM (ll _ _) ?_ ?_);(·exact bq))|((with_reducible refine aN (fun _=>ll _ _) ?_ ?_);(·exact bq))|((with_reducible refine aO (ln _ _) ?_ ?_);(·exact bq))|((with_reducible refine aJ (fun _=>ln _ _) ?_ ?_);(·exact bq))|((with_reducible refine aM (ln _ _) ?_ ?_);(·exact bq))|((with_reducible refine aN (fun _=>ln _ _) ?_ ?_);(·exact bq))|((with_reducible refine aO (kF _ _) ?_ ?_);(·exact bq))|((with_reducible refine aJ (fun _=>kF _ _) ?_ ?_);(·exact bq))|((with_reducible refine aM (kF _ _) ?_ ?_);(·exact bq))|((with_reducible refine aN (fun _=>kF _ _) ?_ ?_);(·exact bq))|((with_reducible refine aO (kR _ _) ?_ ?_);(·exact bq))|((with_reducible refine aJ (fun _=>kR _ _) ?_ ?_);(·exact bq))|((with_reducible refine aM (kR _ _) ?_ ?_);(·exact bq))|((with_reducible refine aN (fun _=>kR _ _) ?_ ?_);(·exact bq))|refine aH ?_|((with_reducible refine aB ?_ ?_)<;>intro hc<;>(try simp only[List.length_map,ne_eq,dC] at hc)<;>try(exfalso;omega)))
 all_goals (first|exact rfl|trace_state)
theorem I7 (op a:Int) (h:op=17∨op=18):Pure Tryz.prog 125 [u8 op,i64 a] (fun r=>r= .dH [i64 (HX op a),i64 0]):=by
 refine aI vw rfl ?_
 rcases h with rfl|rfl
 all_goals repeat' (first|((with_reducible refine aF ?_);conv=>whnf)|refine aG ?_|exact aC|with_reducible refine aD ?_ ?_|(apply aA;(·exact cA))|((with_reducible refine aO (fc _) ?_ ?_);(·exact bq))|((with_reducible refine aJ (fun _=>fc _) ?_ ?_);(·exact bq))|((with_reducible refine aM (fc _) ?_ ?_);(·exact bq))|((with_reducible refine aN (fun _=>fc _) ?_ ?_);(·exact bq))|((with_reducible refine aO (fI _ (by omega)) ?_ ?_);(·exact bq))|((with_reducible refine aJ (fun _=>fI _ (by omega)) ?_ ?_);(·exact bq))|((with_reducible refine aM (fI _ (by omega)) ?_ ?_);(·exact bq))|((with_reducible refine aN (fun _=>fI _ (by omega)) ?_ ?_);(·exact bq))|refine aK (lM) ?_|((with_reducible refine aO (kV _) ?_ ?_);(·exact bq))|((with_reducible refine aJ (fun _=>kV _) ?_ ?_);(·exact bq))|((with_reducible refine aM (kV _) ?_ ?_);(·exact bq))|((with_reducible refine aN (fun _=>kV _) ?_ ?_);(·exact bq))|((with_reducible refine aO (nq _) ?_ ?_);(·exact bq))|((with_reducible refine aJ (fun _=>nq _) ?_ ?_);(·exact bq))|((with_reducible refine aM (nq _) ?_ ?_);(·exact bq))|((with_reducible refine aN (fun _=>nq _) ?_ ?_);(·exact bq))|refine aH ?_|((with_reducible refine aB ?_ ?_)<;>intro hc<;>(try simp only[List.length_map,ne_eq,dC] at hc)<;>try(exfalso;omega)))
 all_goals (first|exact rfl|trace_state)
end Go.Proofs.YtekfmjjmihomlaaGreat
end
section
/- A step in plain data. -/
namespace Go.Proofs.YtekfmjjmihomlaaGreat
open Go Go.cV Go.Proofs
set_option linter.unusedSimpArgs false
set_option linter.unusedVariables false
structure fC where
 cS:Int
 node:Int
 kind:Int
 bx:Int
 word:Int
 put:Int
 deriving Inhabited,DecidableEq
def fC.cells (d:fC):List AV:=[i64 d.cS,i64 d.node,u8 d.kind,i64 d.bx,i64 d.word,i64 d.put]
abbrev fC.av (d:fC):AV:= .agg d.cells
def MS.val (m:MS) (t:Nat) (v:jH):Int:=if v.gX then(m.bg.getD t []).getD v.slot.toNat 0 else v.word
def MS.dS (m:MS) (t:Nat) (k:Int) (w:Int):MS:={ m with bg:=m.bg.set t ((m.bg.getD t []).set k.toNat w) }
def MS.lQ (m:MS) (t:Nat) (n:Node):Int:=if dN n.op then IX n.op (m.val t n.a) (m.val t n.b) else if n.op≠0 then HX n.op (m.val t n.a) else m.val t n.a
def MS.act (m:MS) (t:Nat) (n:Node):MS×Int×Int×Int×Int:=
 if n.kind=1 then(m.dS t n.slot (m.lQ t n),n.next,0,m.lQ t n,0)
 else if n.kind=2 then(m.dS t n.slot (m.mem.getD n.bx.toNat 0),n.next,n.bx,m.mem.getD n.bx.toNat 0,0)
 else if n.kind=3 then({ m with mem:=m.mem.set n.bx.toNat (m.val t n.a) },n.next,n.bx,m.val t n.a,0)
 else if n.kind=4 then({ m.dS t n.slot (m.mem.getD n.bx.toNat 0) with mem:=m.mem.set n.bx.toNat (m.val t n.a) },n.next,n.bx,m.mem.getD n.bx.toNat 0,m.val t n.a)
 else if n.kind=5 then({ m with hold:=m.hold.set n.bx.toNat t },n.next,n.bx,0,0)
 else if n.kind=6 then({ m with hold:=m.hold.set n.bx.toNat (-1) },n.next,n.bx,0,0)
 else if n.kind=7 then({ m with bk:=m.bk++[⟨t,m.val t n.a⟩] },n.next,0,m.val t n.a,0)
 else(m,if m.val t n.a=0 then n.oV else n.next,0,m.val t n.a,0)
def MS.step (u:bj) (m:MS) (t:Nat):MS×fC:=
 let n:=m.node u t
 let r:=m.act t n
 ({ r.1 with at_:=m.at_.set t r.2.1 },⟨t,m.at_.getD t 0,n.kind,r.2.2.1,r.2.2.2.1,r.2.2.2.2⟩)
end Go.Proofs.YtekfmjjmihomlaaGreat
end
