import Derived.Test.YtekfmjjmihomlaaGreatM26
import Derived.Test.YtekfmjjmihomlaaGreatM27
import Derived.Test.YtekfmjjmihomlaaGreatM28
import Derived.Test.YtekfmjjmihomlaaGreatM29
section
/- The source machine in plain data. -/
namespace Go.Proofs.YtekfmjjmihomlaaGreat
open Go Go.cO Go.Proofs
set_option linter.unusedSimpArgs false
set_option linter.unusedVariables false
structure cL where
 cR:Int
 word:Int
 deriving Inhabited,DecidableEq
def cL.cells (p:cL):List AV:=[i64 p.cR,i64 p.word]
abbrev cL.av (p:cL):AV:= .agg p.cells
structure MS where
 at_:List Int
 bj:List (List Int)
 mem:List Int
 hold:List Int
 bh:List cL
 deriving Inhabited,DecidableEq
abbrev cr (l:List Int):AV:= .im 1 .any (l.map i64)
abbrev yb (l:List (List Int)):AV:= .im 1 .any (l.map cr)
abbrev dH (l:List cL):AV:= .im 2 .any (l.map cL.av)
def MS.cells (u:bf) (m:MS):List AV:=[cY u.shared,cY u.cB,dV u.bk,cr m.at_,yb m.bj,cr m.mem,cr m.hold,dH m.bh]
abbrev MS.fz (u:bf) (m:MS):AV:= .ip 8 .any [.agg (m.cells u)] 0 0
@[simp] theorem KE (n:Nat) (p:cL):cN n p.cells:=by simp[cL.cells,cN,bx]
@[simp] theorem MX (n:Nat) (u:bf) (m:MS):cN n (m.cells u):=by simp[MS.cells,cN,bx,bz]
theorem mq (n:Nat) (u:bf) (m:MS):bx n (m.fz u):=by simp[bx,cN]
structure eG (u:bf) (m:MS):Prop where
 nz:m.at_.length=u.bk.length
 gE:∀t,t<u.bk.length→0≤m.at_.getD t 0∧m.at_.getD t 0<(u.gr t).nodes.length
 sl:m.bj.length=u.bk.length
 xC:∀t,t<u.bk.length→(m.bj.getD t []).length=(u.gr t).bj.toNat
 xD:∀t,t<u.bk.length→∀w∈m.bj.getD t [],di w
 ml:m.mem.length=u.shared.length
 mw:∀w∈m.mem,di w
 hl:m.hold.length=u.cB.length
 hw:∀w∈m.hold,-1≤w∧w<u.bk.length
 pw:∀p∈m.bh,0≤p.cR∧p.cR<u.bk.length∧di p.word
abbrev MS.node (u:bf) (m:MS) (t:Nat):Node:=(u.gr t).nd (m.at_.getD t 0).toNat
def MS.pj (u:bf) (m:MS) (t:Int):Int:=if t<0∨(m.at_.length:Int)≤t then 2 else if(m.node u t.toNat).kind=9 then 70 else if(m.node u t.toNat).kind=5∧0≤m.hold.getD (m.node u t.toNat).cH.toNat 0 then 71 else 0
theorem eV {l:List Int} {k:Nat} (h:k<l.length) (d:AV):(l.map i64).getD ((k:Int)).toNat d=i64 (l.getD k 0):=by
 rw[Int.toNat_natCast];exact dJ i64 l k d h
theorem ly {l:List Int} {k:Int} (h:k.toNat<l.length) (d:AV):(l.map i64).getD k.toNat d=i64 (l.getD k.toNat 0):=dJ i64 l k.toNat d h
theorem eG.node {u:bf} {m:MS} (hr:ch u) (h:eG u m) {t:Nat} (ht:t<u.bk.length):mb u (u.gr t) (m.node u t):=by
 have:=h.gE t ht
 exact(hr.gr ht).nodes _ (cU default (by omega))
theorem E1 {u:bf} {m:MS} {t:Int} (h:t<0∨(m.at_.length:Int)≤t):m.pj u t=2:=by unfold MS.pj;rw[if_pos h]
theorem EH (u:bf) (m:MS) (t:Int):Pure Tryz.prog 81 [m.fz u,i64 t] (fun r=>r=bl (decide (¬(t<0∨(m.at_.length:Int)≤t)))):=by
 refine aI DF rfl ?_
 refine cM ?_
 refine ee ?_
 rw[List.length_map]
 by_cases h1:0≤t<;>by_cases h2:t<m.at_.length<;>simp[h1,h2]<;>omega
set_option maxRecDepth 8000 in
set_option maxHeartbeats 2000000 in
theorem vc (u:bf) (hr:ch u) (m:MS) (h:eG u m) (t:Int):Pure Tryz.prog 54 [m.fz u,i64 t] (fun r=>r=i64 (m.pj u t)):=by
 have c0:=EH u m t
 have hl:=h.nz
 by_cases ht:t<0∨(m.at_.length:Int)≤t
 ·rw[E1 ht]
  rw[decide_eq_false (fun e=>e ht)] at c0
  refine aI sE rfl ?_
  refine cM ?_
  first|exact rfl|trivial
 ·rw[decide_eq_true ht] at c0
  obtain⟨k,rfl⟩:∃k:Nat,t=k:=⟨t.toNat,by omega⟩
  have hk:k<u.bk.length:=by omega
  have hbar:m.pj u k=if(m.node u k).kind=9 then 70 else if(m.node u k).kind=5∧0≤m.hold.getD (m.node u k).cH.toNat 0 then 71 else 0:=by
   unfold MS.pj;rw[if_neg ht,Int.toNat_natCast]
  rw[hbar]
  have hno:=h.node hr hk
  obtain⟨p0,p1⟩:=h.gE k hk
  have e0:=fun d=>xe (l:=u.bk) hk d
  have e1:=fun d=>eV (l:=m.at_) (k:=k) (by omega) d
  obtain⟨j,hj⟩:∃j:Nat,m.at_.getD k 0=j:=⟨(m.at_.getD k 0).toNat,by omega⟩
  rw[hj] at e1 p1
  have hnd:m.node u k=(u.gr k).nd j:=by unfold MS.node;rw[hj,Int.toNat_natCast]
  rw[hnd] at hno ⊢
  have hgr:u.bk.getD k default=u.gr k:=rfl
  rw[hgr] at e0
  generalize u.gr k=g at *
  have e2:=fun d=>kr (l:=g.nodes) (i:=j) (by omega) d
  rw[show g.nodes.getD j default=g.nd j from rfl] at e2
  generalize g.nd j=n at *
  have a0:(u.bk.map cC.av).length=u.bk.length:=by simp
  have a1:(m.at_.map i64).length=u.bk.length:=by simp[hl]
  have a2:(g.nodes.map Node.av).length=g.nodes.length:=by simp
  have a3:(m.hold.map i64).length=u.cB.length:=by simp[h.hl]
  by_cases h9:n.kind=9
  ·have r0:=h9
   rw[if_pos h9]
   refine aI sE rfl ?_
   refine cM ?_
   first|exact rfl|trivial
  ·rw[if_neg h9]
   by_cases h5:n.kind=5
   ·have hth:=hno.cH.1 (by unfold gA;exact decide_eq_true (by omega))
    rw[if_pos (.inl h5)] at hth
    have hhl:=h.hl
    have e3:=fun d=>ly (l:=m.hold) (k:=n.cH) (by omega) d
    have r0:=h5
    by_cases hh:0≤m.hold.getD n.cH.toNat 0
    ·rw[if_pos ⟨h5,hh⟩]
     have r1:=decide_eq_true hh
     refine aI sE rfl ?_
     refine cM ?_
     first|exact rfl|trivial
    ·rw[if_neg fun e=>hh e.2]
     have r1:=decide_eq_false hh
     refine aI sE rfl ?_
     refine cM ?_
     first|exact rfl|trivial
   ·rw[if_neg fun e=>h5 e.1]
    have r1:=decide_eq_false h5
    refine aI sE rfl ?_
    refine cM ?_
    first|exact rfl|trivial
theorem rZ (u:bf) (hr:ch u) (m:MS) (h:eG u m) (t:Int):Pure Tryz.prog 22 [m.fz u,i64 t] (fun r=>r=bl (decide (m.pj u t=0))):=by
 have c0:=vc u hr m h t
 refine aI CM rfl ?_
 refine cM ?_
 first|exact rfl|trivial
def MS.ended (u:bf) (m:MS):Bool:=(List.range m.at_.length).all fun t=>decide (m.pj u t=70)
theorem tF (u:bf) (hr:ch u) (m:MS) (h:eG u m):Pure Tryz.prog 57 [m.fz u] (fun r=>r=bl (m.ended u)):=by
 have hl:=h.nz
 have hgl:=hr.AP
 refine aI C4 rfl ?_
 refine cM ?_
 rw[List.length_map]
 refine aR (fun i:Nat=>[(0,m.fz u),(10,i64 m.at_.length),(11,i64 i)]) (fun i H n=>i≤m.at_.length∧∀j:Nat,j<i→m.pj u j=70) (fun i=>m.at_.length - i) 0 cJ ⟨Nat.zero_le _,fun j hj=>by omega⟩ ?_
 rintro i H n ⟨hi,hall⟩
 by_cases hil:i<m.at_.length
 ·have c0:=vc u hr m h i
  by_cases hb:m.pj u i=70
  ·have r0:=hb
   refine cM ?_
   exact⟨i+1,by omega,cJ,by omega,fun j hj=>by
    by_cases e:j=i
    ·rw[e];exact hb
    ·exact hall j (by omega)⟩
  ·have r0:=decide_eq_true hb
   refine cM ?_
   refine ee (Eq.symm ?_)
   unfold MS.ended
   rw[List.all_eq_false]
   exact⟨i,List.mem_range.2 hil,by simpa using hb⟩
 ·refine cM ?_
  refine ee (Eq.symm ?_)
  unfold MS.ended
  rw[List.all_eq_true]
  intro j hj
  exact decide_eq_true (hall j (by have:=List.mem_range.1 hj;omega))
end Go.Proofs.YtekfmjjmihomlaaGreat
end
section
/- Ends compared: plain data, the small functions of the code. -/
namespace Go.Proofs.YtekfmjjmihomlaaGreat
open Go Go.cO Go.Proofs
set_option linter.unusedSimpArgs false
set_option linter.unusedVariables false
structure dD where
 bh:List cL
 mem:List Int
 ended:Bool
 deriving Inhabited,DecidableEq
def dD.cells (e:dD):List AV:=[dH e.bh,cr e.mem,bl e.ended]
abbrev dD.av (e:dD):AV:= .agg e.cells
@[simp] theorem L8 (n:Nat) (e:dD):cN n e.cells:=by simp[dD.cells,cN,bx,bz]
def eH (x y:Int):Int:=if x<y then -1 else if y<x then 1 else 0
def j0:List Int→Int
 |[]=>0
 |x::l=>if x=0 then j0 l else x
def ew (p q:cL):Int:=j0 [eH p.cR q.cR,eH p.word q.word]
def eD {α:Type} (f:α→α→Int):List α→List α→Int
 |[],[]=>0
 |[],_::_=>-1
 |_::_,[]=>1
 |x::a,y::b=>if f x y=0 then eD f a b else f x y
def pq (a b:Bool):Int:=if a=b then 0 else if b then -1 else 1
def dq (a b:dD):Int:=j0 [eD ew a.bh b.bh,eD eH a.mem b.mem,pq a.ended b.ended]
theorem oB {α:Type} (f:α→α→Int) (d:α) {a b:List α} {i:Nat} (h1:i<a.length) (h2:i<b.length):eD f (a.drop i) (b.drop i)=if f (a.getD i d) (b.getD i d)=0 then eD f (a.drop (i+1)) (b.drop (i+1)) else f (a.getD i d) (b.getD i d):=by
 rw[List.drop_eq_getElem_cons h1,List.drop_eq_getElem_cons h2,eD]
 simp[List.getD,List.getElem?_eq_getElem h1,List.getElem?_eq_getElem h2]
theorem ll {α:Type} (f:α→α→Int) {a b:List α} {i:Nat} (h1:i<a.length) (h2:b.length≤i):eD f (a.drop i) (b.drop i)=1:=by
 rw[List.drop_eq_getElem_cons h1,List.drop_of_length_le h2,eD]
theorem lj {α:Type} (f:α→α→Int) {a b:List α} {i:Nat} (h1:a.length≤i) (h2:i≤b.length):eD f (a.drop i) (b.drop i)=if i<b.length then -1 else 0:=by
 rw[List.drop_of_length_le h1]
 split
 ·rename_i h;rw[List.drop_eq_getElem_cons h,eD]
 ·rw[List.drop_of_length_le (by omega),eD]
theorem yX (x:Int):Pure Tryz.prog 76 [i64 x] (fun r=>r=bl false):=by
 refine aI DA rfl ?_
 refine cM ?_
 refine ee ?_
 simp
theorem uj (x:Int):Pure Tryz.prog 77 [i64 x] (fun r=>r=bl false):=by
 refine aI DB rfl ?_
 refine cM ?_
 refine ee ?_
 simp
theorem BE (x y:Int):Pure Tryz.prog 48 [i64 x,i64 y] (fun r=>r=i64 (eH x y)):=by
 have c0:=yX x
 have c1:=yX y
 unfold eH
 by_cases h:x<y
 ·rw[if_pos h]
  refine aI wP rfl ?_
  refine cM ?_
  first|exact rfl|trivial
 ·rw[if_neg h]
  by_cases h2:y<x
  ·rw[if_pos h2]
   refine aI wP rfl ?_
   refine cM ?_
   first|exact rfl|trivial
  ·rw[if_neg h2]
   refine aI wP rfl ?_
   refine cM ?_
   first|exact rfl|trivial
theorem qQ (x y:Int):Pure Tryz.prog 49 [i64 x,i64 y] (fun r=>r=i64 (eH x y)):=by
 have c0:=uj x
 have c1:=uj y
 unfold eH
 by_cases h:x<y
 ·rw[if_pos h]
  refine aI wQ rfl ?_
  refine cM ?_
  first|exact rfl|trivial
 ·rw[if_neg h]
  by_cases h2:y<x
  ·rw[if_pos h2]
   refine aI wQ rfl ?_
   refine cM ?_
   first|exact rfl|trivial
  ·rw[if_neg h2]
   refine aI wQ rfl ?_
   refine cM ?_
   first|exact rfl|trivial
theorem DX {l:List Int} {i:Nat} (h:i<l.length):j0 (l.drop i)=if l.getD i 0=0 then j0 (l.drop (i+1)) else l.getD i 0:=by
 rw[List.drop_eq_getElem_cons h,j0]
 simp[List.getD,List.getElem?_eq_getElem h]
theorem yZ (l:List Int) (hl:l.length≤1000):Pure Tryz.prog 47 [cr l] (fun r=>r=i64 (j0 l)):=by
 refine aI CY rfl ?_
 refine cM ?_
 rw[List.length_map]
 refine aR (fun i:Nat=>[(3,i64 0),(6,cr l),(7,i64 l.length),(8,i64 i)]) (fun i H n=>i≤l.length∧j0 l=j0 (l.drop i)) (fun i=>l.length - i) 0 cJ ⟨Nat.zero_le _,rfl⟩ ?_
 rintro i H n ⟨hi,ho⟩
 rw[ho]
 by_cases hil:i<l.length
 ·have e0:=fun d=>eV (l:=l) hil d
  have a0:(l.map i64).length=l.length:=by simp
  have hd:=DX hil
  by_cases hz:l.getD i 0=0
  ·have r0:=hz
   rw[if_pos hz] at hd
   refine cM ?_
   exact⟨i+1,by omega,cJ,by omega,hd⟩
  ·have r0:=decide_eq_true hz
   rw[if_neg hz] at hd
   refine cM ?_
   rw[hd]
 ·rw[List.drop_of_length_le (by omega)]
  refine cM ?_
  first|exact rfl|trivial
end Go.Proofs.YtekfmjjmihomlaaGreat
end
section
/- Copies of lists; what a machine shows. -/
namespace Go.Proofs.YtekfmjjmihomlaaGreat
open Go Go.cO Go.Proofs
set_option linter.unusedSimpArgs false
set_option linter.unusedVariables false
theorem pb {p:Prop} (h:Go p):p:=h
theorem yr {es:List AV} (hf:cN 0 es) (hl:es.length * 16≤140737488355328):cD Tryz.prog 63 [.im 2 .any es] [] 0 (fun r H _=>cO.dR H 6 r= .sc (.slice none 0 0)∧es=[]∨cO.dR H 6 r= .im 2 .any es):=by
 refine aQ C7 rfl ?_
 cases es with
 |nil=>
  refine cM ?_
  refine⟨pb ?_,pb ?_⟩
  ·refine cM ?_
   exact⟨.inl ⟨rfl,rfl⟩⟩
  ·refine cM ?_
   exact⟨.inr rfl⟩
 |cons x t=>
  have a0:(x::t).length * 16≤gI:=hl
  simp only[List.length_cons] at hl
  refine cM ?_
  refine⟨.inr ((dz (e:=89) (sz:=2) (es:=x::t) bg (Nat.zero_add _).symm).trans ?_)⟩
  rw[dG _ hf]
theorem yu {es:List AV} (hf:cN 0 es) (hl:es.length * 8≤140737488355328):cD Tryz.prog 90 [.im 1 .any es] [] 0 (fun r H _=>cO.dR H 6 r= .sc (.slice none 0 0)∧es=[]∨cO.dR H 6 r= .im 1 .any es):=by
 refine aQ DM rfl ?_
 cases es with
 |nil=>
  refine cM ?_
  refine⟨pb ?_,pb ?_⟩
  ·refine cM ?_
   exact⟨.inl ⟨rfl,rfl⟩⟩
  ·refine cM ?_
   exact⟨.inr rfl⟩
 |cons x t=>
  have a0:(x::t).length * 8≤gI:=hl
  simp only[List.length_cons] at hl
  refine cM ?_
  refine⟨.inr ((dz (e:=2) (sz:=1) (es:=x::t) bg (Nat.zero_add _).symm).trans ?_)⟩
  rw[dG _ hf]
theorem tB (l:List cL) (hl:l.length * 16≤140737488355328):Pure Tryz.prog 63 [dH l] (fun r=>r=dH l):=
 mN (by simp[bx,bz]) (yr ((bz _ _).2 fun _ _=>by simp[bx]) (by rw[List.length_map];exact hl))
theorem tC (l:List Int) (hl:l.length * 8≤140737488355328):Pure Tryz.prog 90 [cr l] (fun r=>r=cr l):=
 mN (by simp[bx,bz]) (yu ((bz _ _).2 fun _ _=>by simp[bx]) (by rw[List.length_map];exact hl))
theorem nJ (u:bf) (m:MS) (hl:m.bh.length * 16≤140737488355328):Pure Tryz.prog 30 [m.fz u] (fun r=>r=dH m.bh):=by
 have c0:=tB m.bh hl
 refine aI CR rfl ?_
 refine cM ?_
 first|exact rfl|trivial
theorem qj (u:bf) (m:MS) (hl:m.mem.length * 8≤140737488355328):Pure Tryz.prog 56 [m.fz u] (fun r=>r=cr m.mem):=by
 have c0:=tC m.mem hl
 refine aI C3 rfl ?_
 refine cM ?_
 first|exact rfl|trivial
end Go.Proofs.YtekfmjjmihomlaaGreat
end
section
/- Whether a situation is an end. -/
namespace Go.Proofs.YtekfmjjmihomlaaGreat
open Go Go.cO Go.Proofs
set_option linter.unusedSimpArgs false
set_option linter.unusedVariables false
def MS.stuck (u:bf) (m:MS):Bool:=(List.range m.at_.length).all fun t=>decide (m.pj u t≠0)
def MS.end_ (u:bf) (m:MS):dD:=⟨m.bh,m.mem,m.ended u⟩
def j1 (u:bf) (m:MS):AV:=if m.stuck u then .dc [(m.end_ u).av,bl true] else .dc [.agg [.sc (.slice none 0 0), .sc (.slice none 0 0),bl false],bl false]
theorem qn (u:bf) (hr:ch u) (m:MS) (h:eG u m) (hp:m.bh.length * 16≤140737488355328) (hm:m.mem.length * 8≤140737488355328):Pure Tryz.prog 36 [u.av,m.fz u] (fun r=>r=j1 u m):=by
 have hl:=h.nz
 have hgl:=hr.AP
 have c1:=nJ u m hp
 have c2:=qj u m hm
 have c3:=tF u hr m h
 refine aI CT rfl ?_
 refine cM ?_
 rw[List.length_map,←hl]
 refine aR (fun i:Nat=>[(1,m.fz u),(4, .pt 1 1 0 0),(9,i64 m.at_.length),(10,i64 i)]) (fun i H n=>i≤m.at_.length∧2≤n∧bd H 1=some (.row 40 3 (fI true [.slice none 0 0, .slice none 0 0, .bool false]) [fI true [.slice none 0 0, .slice none 0 0, .bool false]])∧∀j:Nat,j<i→m.pj u j≠0) (fun i=>m.at_.length - i) 0 cJ ⟨Nat.zero_le _,cW,bg,fun j hj=>by omega⟩ ?_
 rintro i H n ⟨hi,hn,hx,hall⟩
 by_cases hil:i<m.at_.length
 ·have c0:=rZ u hr m h i
  by_cases hb:m.pj u i=0
  ·have hs:m.stuck u=false:=by
    unfold MS.stuck
    rw[List.all_eq_false]
    exact⟨i,List.mem_range.2 hil,by simpa using hb⟩
   have r0:=decide_eq_true hb
   rw[j1,hs]
   refine cM ?_
   first|exact rfl|trivial
  ·have r0:=decide_eq_false hb
   refine cM ?_
   exact⟨i+1,by omega,cJ,by omega,by omega,bg,fun j hj=>by
    by_cases e:j=i
    ·rw[e];exact hb
    ·exact hall j (by omega)⟩
 ·have hs:m.stuck u=true:=by
   unfold MS.stuck
   rw[List.all_eq_true]
   intro j hj
   exact decide_eq_true (hall j (by have:=List.mem_range.1 hj;omega))
  rw[j1,hs]
  refine cM ?_
  first|exact rfl|trivial
end Go.Proofs.YtekfmjjmihomlaaGreat
end
section
/- The machine in rows: Copy. -/
namespace Go.Proofs.YtekfmjjmihomlaaGreat
open Go Go.cO Go.Proofs
set_option linter.unusedSimpArgs false
set_option linter.unusedVariables false
def dh (ids:List Nat) (l:List (List Int)):List AV:=(ids.zip l).map fun p=> .sl p.1 p.2.length
def MS.rows (u:bf) (m:MS) (a s me ho pr:Nat):AV:= .agg [cY u.shared,cY u.cB,dV u.bk, .sl a m.at_.length, .sl s m.bj.length, .sl me m.mem.length, .sl ho m.hold.length, .sl pr m.bh.length]
structure KA (u:bf) (m:MS) (mr a s me ho pr:Nat) (ids:List Nat) (H:Hp):Prop where
 rM:∃d,bd H mr=some (.row 100 8 d [m.rows u a s me ho pr])
 rA:∃d,bd H a=some (.row 3 1 d (m.at_.map i64))
 rS:∃d,bd H s=some (.row 38 1 d (dh ids m.bj))
 rL:∀t,t<m.bj.length→∃d,bd H (ids.getD t 0)=some (.row 2 1 d ((m.bj.getD t []).map i64))
 rE:∃d,bd H me=some (.row 2 1 d (m.mem.map i64))
 rH:∃d,bd H ho=some (.row 3 1 d (m.hold.map i64))
 rP:∃d,bd H pr=some (.row 89 2 d (m.bh.map cL.av))
 len:ids.length=m.bj.length
 nodup:(mr::a::s::me::ho::pr::ids).Nodup
theorem qu {ids:List Nat} {l:List (List Int)} (h:ids.length=l.length) (i:Nat) (x:List Int):dh (ids++[i]) (l++[x])=dh ids l++[.sl i x.length]:=by
 unfold dh
 rw[List.zip_append h]
 simp
theorem copied (es:List AV) (z:AV):List.take (es.length.min (es.length:Int).toNat) es++List.drop (es.length.min (es.length:Int).toNat) (List.replicate (es.length:Int).toNat z)=es:=by
 rw[Int.toNat_natCast,show es.length.min es.length=es.length from Nat.min_self _]
 simp
set_option maxHeartbeats 4000000 in
theorem vm (u:bf) (m:MS) (h1:m.at_.length≤4096) (h2:m.mem.length≤4096) (h3:m.hold.length≤4096) (h4:m.bh.length≤1048576) (h5:m.bj.length≤4096) (h6:∀l∈m.bj,l.length≤1048576) (H0:Hp) (nx:Nat):cD Tryz.prog 65 [m.fz u] H0 nx (fun r H n=>∃mr a s me ho pr ids,r= .pt mr 1 0 0∧KA u m mr a s me ho pr ids H∧(∀x∈mr::a::s::me::ho::pr::ids,nx≤x∧x<n)∧nx≤n∧∀y,y<nx→bd H y=bd H0 y):=by
 refine aQ C9 rfl ?_
 refine cM ?_
 simp only[copied]
 simp only[List.length_map,Int.toNat_natCast]
 refine aU (fun σ:Nat×List Nat=>[(0,m.fz u),(3, .pt (nx+32) 1 0 0),(78,yb m.bj),(79,i64 m.bj.length),(80,i64 σ.1)])
  (fun σ H n=>σ.1≤m.bj.length∧nx+77≤n∧σ.2.length=σ.1∧σ.2.Nodup∧(∀x∈σ.2,nx+77≤x∧x<n)∧(∃d,bd H (nx+32)=some (.row 100 8 d [.agg [cY u.shared,cY u.cB,dV u.bk, .sl (nx+12) m.at_.length, .sl (nx+76) σ.1, .sl (nx+18) m.mem.length, .sl (nx+24) m.hold.length, .sl (nx+30) m.bh.length]]))∧(∃d,bd H (nx+12)=some (.row 3 1 d (m.at_.map i64)))∧(∃d,bd H (nx+18)=some (.row 2 1 d (m.mem.map i64)))∧(∃d,bd H (nx+24)=some (.row 3 1 d (m.hold.map i64)))∧(∃d,bd H (nx+30)=some (.row 89 2 d (m.bh.map cL.av)))∧(∃d,bd H (nx+76)=some (.row 38 1 d (dh σ.2 (m.bj.take σ.1))))∧(∀t,t<σ.1→∃d,bd H (σ.2.getD t 0)=some (.row 2 1 d ((m.bj.getD t []).map i64)))∧∀y,y<nx→bd H y=bd H0 y) (fun σ=>m.bj.length - σ.1) (0,[])
  ⟨_,_,_,Rt.wk (Wk.mF (b:=nx+32) (e:=38) (sz:=1) (by simp only[List.length_cons,List.length_nil];omega) (by omega) (te:=100) (tz:=8) (cs:=[cY u.shared,cY u.cB,dV u.bk, .sl (nx+12) m.at_.length, .sc (.slice none 0 0), .sl (nx+18) m.mem.length, .sl (nx+24) m.hold.length, .sl (nx+30) m.bh.length]) (j:=4) bg (by show 4<8;omega) rfl),cJ,Nat.zero_le _,cW,rfl,List.nodup_nil,fun x hx=>by simp at hx,⟨_,bg⟩,⟨_,bg⟩,⟨_,bg⟩,⟨_,bg⟩,⟨_,bg⟩,⟨_,bg⟩,fun t ht=>absurd ht (Nat.not_lt_zero _),fun y hy=>bq⟩ ?_
 rintro⟨t,ids⟩ H n ⟨ht,hn,hil,hnd,hin,⟨d0,r0⟩,⟨d1,r1⟩,⟨d2,r2⟩,⟨d3,r3⟩,⟨d4,r4⟩,⟨d5,r5⟩,hls,hkp⟩
 dsimp only at ht hil hnd hin r0 r5 hls ⊢
 have htk:(m.bj.take t).length=t:=by rw[List.length_take];omega
 have hrl:(dh ids (m.bj.take t)).length=t:=by unfold dh;rw[List.length_map,List.length_zip,htk,hil];omega
 by_cases htl:t<m.bj.length
 ·have e0:∀d,(m.bj.map cr).getD ((t:Int)).toNat d=cr (m.bj.getD t []):=fun d=>by rw[Int.toNat_natCast];exact dJ cr m.bj t d htl
  have a0:(m.bj.map cr).length=m.bj.length:=by simp
  have hnx:dh (ids++[n+6]) (m.bj.take (t+1))=dh ids (m.bj.take t)++[.sl (n+6) (m.bj.getD t []).length]:=by
   rw[List.take_succ_eq_append_getElem htl,qu (by rw[hil,htk]),show m.bj.getD t []=m.bj[t] by simp[List.getD,htl]]
  have h7:=h6 _ (cU (l:=m.bj) [] htl)
  refine cM ?_
  simp only[copied]
  simp only[List.length_map,Int.toNat_natCast]
  refine⟨(t+1,ids++[n+6]),by dsimp only;omega,_,_,_,Rt.refl _ _ _,cJ,by dsimp only;omega,by omega,by simp[hil], ?_, ?_,⟨_,bg⟩,⟨_,bg⟩,⟨_,bg⟩,⟨_,bg⟩,⟨_,bg⟩,⟨_,by dsimp only;rw[hnx];exact bg⟩, ?_,fun y hy=>Eq.trans bq (hkp y hy)⟩
  ·refine List.nodup_append.2 ⟨hnd,by simp,fun a ha b hb=> ?_⟩
   simp only[List.mem_cons,List.not_mem_nil,or_false] at hb
   have:=hin _ ha;omega
  ·intro x hx
   rcases List.mem_append.1 hx with hx|hx
   ·have:=hin _ hx;exact⟨this.1,Nat.lt_of_lt_of_le this.2 cW⟩
   ·simp only[List.mem_cons,List.not_mem_nil,or_false] at hx
    subst hx;exact⟨by omega,cW⟩
  ·intro q hq
   have hq:q<t+1:=hq
   by_cases e:q=t
   ·subst e
    have e2:(ids++[n+6]).getD q 0=n+6:=by rw[List.getD,List.getElem?_append_right (by omega),hil,Nat.sub_self];rfl
    dsimp only
    rw[e2];exact⟨_,bg⟩
   ·obtain⟨d,hd⟩:=hls q (by omega)
    have e2:(ids++[n+6]).getD q 0=ids.getD q 0:=by simp[List.getD,List.getElem?_append,show q<ids.length by omega]
    have:=hin _ (eM (l:=ids) (q:=q) (by omega))
    dsimp only
    rw[e2];exact⟨d,Eq.trans bq hd⟩
 ·have:t=m.bj.length:=by omega
  subst this
  rw[List.take_length] at r5
  refine cM ?_
  refine⟨⟨nx+32,nx+12,nx+76,nx+18,nx+24,nx+30,ids,rfl,⟨⟨_,bg⟩,⟨_,bg⟩,⟨_,bg⟩,fun t ht=> ?_,⟨_,bg⟩,⟨_,bg⟩,⟨_,bg⟩,hil, ?_⟩, ?_,cW,fun y hy=>Eq.trans bq (hkp y hy)⟩⟩
  ·obtain⟨d,hd⟩:=hls t ht
   have:=hin _ (eM (l:=ids) (q:=t) (by omega))
   exact⟨d,Eq.trans bq hd⟩
  ·have hno:∀k,k<nx+77→k∉ids:=fun k hk h=>by have:=hin _ h;omega
   simp only[List.nodup_cons,List.mem_cons,not_or]
   exact⟨⟨by omega,by omega,by omega,by omega,by omega,hno _ (by omega)⟩,⟨by omega,by omega,by omega,by omega,hno _ (by omega)⟩,⟨by omega,by omega,by omega,hno _ (by omega)⟩,⟨by omega,by omega,hno _ (by omega)⟩,⟨by omega,hno _ (by omega)⟩,hno _ (by omega),hnd⟩
  ·intro x hx
   simp only[List.mem_cons] at hx
   rcases hx with rfl|rfl|rfl|rfl|rfl|rfl|hx
   all_goals first
    |exact⟨by omega,by omega⟩
    |(have:=hin _ hx;exact⟨by omega,by omega⟩)
end Go.Proofs.YtekfmjjmihomlaaGreat
end
section
/- The machine in rows, frozen. -/
namespace Go.Proofs.YtekfmjjmihomlaaGreat
open Go Go.cO Go.Proofs
set_option linter.unusedSimpArgs false
set_option linter.unusedVariables false
theorem rq {H:Hp} {k:Nat} {cs:List AV}:cO.dR H (k+1) (.agg cs)= .agg (cs.map (cO.dR H k)):=by simp only[dR]
theorem KA.dR {u:bf} {m:MS} {mr a s me ho pr:Nat} {ids:List Nat} {H:Hp} (h:KA u m mr a s me ho pr ids H) (k:Nat):cO.dR H (k+5) (.pt mr 1 0 0)=m.fz u:=by
 obtain⟨d1,h1⟩:=h.rM
 obtain⟨d2,h2⟩:=h.rA
 obtain⟨d3,h3⟩:=h.rS
 obtain⟨d4,h4⟩:=h.rE
 obtain⟨d5,h5⟩:=h.rH
 obtain⟨d6,h6⟩:=h.rP
 have hsl:(dh ids m.bj).length=m.bj.length:=by unfold dh;rw[List.length_map,List.length_zip,h.len];simp
 have hs:(dh ids m.bj).map (cO.dR H (k+2))=m.bj.map cr:=by
  apply List.ext_getElem (by simp[hsl])
  intro t q1 q2
  have ht:t<m.bj.length:=by simpa using q2
  have hti:t<ids.length:=by rw[h.len];exact ht
  obtain⟨d,hd⟩:=h.rL t ht
  rw[show ids.getD t 0=ids[t] by simp[List.getD,hti],show m.bj.getD t []=m.bj[t] by simp[List.getD,ht]] at hd
  rw[List.getElem_map,List.getElem_map]
  simp only[dh,List.getElem_map,List.getElem_zip]
  rw[dz hd (by simp),dG _ ((bz _ _).2 fun _ _=>by simp[bx])]
 simp only[cO.dR,h1]
 simp only[List.length_cons,List.length_nil,if_true,List.map_cons,List.map_nil,MS.rows]
 rw[rq]
 simp only[List.map_cons,List.map_nil]
 rw[dz h2 (by simp),dz h3 hsl,dz h4 (by simp),dz h5 (by simp),dz h6 (by simp),hs]
 rw[dG _ ((bz _ _).2 fun _ _=>by simp[bx]),dG _ ((bz _ _).2 fun _ _=>by simp[bx]),dG _ ((bz _ _).2 fun _ _=>by simp[bx]),dG _ ((bz _ _).2 fun _ _=>by simp[bx])]
 rw[dB _ (show bx 0 (cY u.shared) by simp[bx,bz]),dB _ (show bx 0 (cY u.cB) by simp[bx,bz]),dB _ (show bx 0 (dV u.bk) by simp[bx,bz])]
 rfl
end Go.Proofs.YtekfmjjmihomlaaGreat
end
section
/- The machine that has done nothing. -/
namespace Go.Proofs.YtekfmjjmihomlaaGreat
open Go Go.cO Go.Proofs
set_option linter.unusedSimpArgs false
set_option linter.unusedVariables false
def dK (u:bf):MS:=⟨u.bk.map fun _=>0,u.bk.map fun g=>List.replicate g.bj.toNat 0,u.shared.map Decl.word,u.cB.map fun _=>-1,[]⟩
theorem GV (u:bf) (hr:ch u) (hw:∀d∈u.shared,di d.word) (hn:∀t,t<u.bk.length→0<(u.gr t).nodes.length):eG u (dK u) where
 nz:=by simp[dK]
 gE:=fun t ht=>by
  have e:(dK u).at_.getD t 0=0:=by simp[dK,List.getD,ht]
  rw[e]
  exact⟨Int.le_refl _,by have:=hn t ht;omega⟩
 sl:=by simp[dK]
 xC:=fun t ht=>by
  have e:(dK u).bj.getD t []=List.replicate (u.gr t).bj.toNat 0:=by simp[dK,List.getD,bf.gr,ht]
  rw[e,List.length_replicate]
 xD:=fun t ht w hw=>by
  have e:(dK u).bj.getD t []=List.replicate (u.gr t).bj.toNat 0:=by simp[dK,List.getD,bf.gr,ht]
  rw[e] at hw
  rw[List.eq_of_mem_replicate hw]
  exact⟨by omega,by omega⟩
 ml:=by simp[dK]
 mw:=fun w h=>by
  obtain⟨d,hd,rfl⟩:=List.mem_map.1 h
  exact hw d hd
 hl:=by simp[dK]
 hw:=fun w h=>by
  obtain⟨d,hd,rfl⟩:=List.mem_map.1 h
  exact⟨by omega,by omega⟩
 pw:=fun p h=>by simp[dK] at h
end Go.Proofs.YtekfmjjmihomlaaGreat
end
section
/- Operators. -/
namespace Go.Proofs.YtekfmjjmihomlaaGreat
open Go Go.cO Go.Proofs
set_option linter.unusedSimpArgs false
set_option linter.unusedVariables false
set_option maxHeartbeats 1000000
abbrev s7 (n:Int):Int:=IntKind.i64.wrap n
def zu (a b:Int):Int:=if b=0 then 0 else if b=-1 then s7 (0 - a) else s7 (a.tdiv b)
def D1 (a b:Int):Int:=if b=0 then a else s7 (a - s7 (zu a b * b))
def KQ (a b:Int):Int:=s7 ((BitVec.ofInt 64 a&&& BitVec.ofInt 64 b).toNat:Int)
def NH (a b:Int):Int:=s7 ((BitVec.ofInt 64 a|||BitVec.ofInt 64 b).toNat:Int)
def L3 (a b:Int):Int:=s7 ((BitVec.ofInt 64 a^^^BitVec.ofInt 64 b).toNat:Int)
def BG (b:Int):Int:=IntKind.u64.wrap ((BitVec.ofInt 64 (IntKind.u64.wrap b)&&& BitVec.ofInt 64 63).toNat:Int)
def LN (a b:Int):Int:=s7 (a * 2^(min (BG b).toNat 64))
def HA (a b:Int):Int:=a.fdiv (2^(min (BG b).toNat 64))
def tr (t:Bool):Int:=if t=true then 1 else 0
theorem cT (t:Bool):Pure Tryz.prog 173 [bl t] (fun r=>r=i64 (tr t)):=by
 refine aI u6 rfl ?_
 repeat' (first|((with_reducible refine aF ?_);conv=>whnf)|refine aG ?_|exact aC|with_reducible refine aD ?_ ?_|(apply aA;(·exact cI))|refine aH ?_|((with_reducible refine aB ?_ ?_)<;>intro hc<;>(try simp only[List.length_map,ne_eq,db] at hc)<;>try(exfalso;omega)))
 all_goals simp_all[tr]
theorem l7 (a b:Int):Pure Tryz.prog 155 [i64 a,i64 b] (fun r=>r=i64 (s7 (a+b))):=by
 refine aI uJ rfl ?_
 repeat' (first|((with_reducible refine aF ?_);conv=>whnf)|refine aG ?_|exact aC|with_reducible refine aD ?_ ?_|(apply aA;(·exact cI))|refine aH ?_|((with_reducible refine aB ?_ ?_)<;>intro hc<;>(try simp only[List.length_map,ne_eq,db] at hc)<;>try(exfalso;omega)))
 all_goals exact rfl
theorem mU (a b:Int):Pure Tryz.prog 156 [i64 a,i64 b] (fun r=>r=i64 (s7 (a - b))):=by
 refine aI uK rfl ?_
 repeat' (first|((with_reducible refine aF ?_);conv=>whnf)|refine aG ?_|exact aC|with_reducible refine aD ?_ ?_|(apply aA;(·exact cI))|refine aH ?_|((with_reducible refine aB ?_ ?_)<;>intro hc<;>(try simp only[List.length_map,ne_eq,db] at hc)<;>try(exfalso;omega)))
 all_goals exact rfl
theorem mC (a b:Int):Pure Tryz.prog 157 [i64 a,i64 b] (fun r=>r=i64 (s7 (a * b))):=by
 refine aI uL rfl ?_
 repeat' (first|((with_reducible refine aF ?_);conv=>whnf)|refine aG ?_|exact aC|with_reducible refine aD ?_ ?_|(apply aA;(·exact cI))|refine aH ?_|((with_reducible refine aB ?_ ?_)<;>intro hc<;>(try simp only[List.length_map,ne_eq,db] at hc)<;>try(exfalso;omega)))
 all_goals exact rfl
theorem gF (a b:Int):Pure Tryz.prog 158 [i64 a,i64 b] (fun r=>r=i64 (zu a b)):=by
 refine aI uM rfl ?_
 repeat' (first|((with_reducible refine aF ?_);conv=>whnf)|refine aG ?_|exact aC|with_reducible refine aD ?_ ?_|(apply aA;(·exact cI))|refine aH ?_|((with_reducible refine aB ?_ ?_)<;>intro hc<;>(try simp only[List.length_map,ne_eq,db] at hc)<;>try(exfalso;omega)))
 all_goals simp_all[zu]
theorem mP (a b:Int):Pure Tryz.prog 159 [i64 a,i64 b] (fun r=>r=i64 (D1 a b)):=by
 refine aI uN rfl ?_
 repeat' (first|((with_reducible refine aF ?_);conv=>whnf)|refine aG ?_|exact aC|with_reducible refine aD ?_ ?_|(apply aA;(·exact cI))|((with_reducible refine aO (gF _ _) ?_ ?_);(·exact bo))|((with_reducible refine aN (fun _=>gF _ _) ?_ ?_);(·exact bo))|((with_reducible refine aL (gF _ _) ?_ ?_);(·exact bo))|((with_reducible refine aM (fun _=>gF _ _) ?_ ?_);(·exact bo))|refine aH ?_|((with_reducible refine aB ?_ ?_)<;>intro hc<;>(try simp only[List.length_map,ne_eq,db] at hc)<;>try(exfalso;omega)))
 all_goals simp_all[D1]
theorem la (a b:Int):Pure Tryz.prog 160 [i64 a,i64 b] (fun r=>r=i64 (KQ a b)):=by
 refine aI uO rfl ?_
 repeat' (first|((with_reducible refine aF ?_);conv=>whnf)|refine aG ?_|exact aC|with_reducible refine aD ?_ ?_|(apply aA;(·exact cI))|refine aH ?_|((with_reducible refine aB ?_ ?_)<;>intro hc<;>(try simp only[List.length_map,ne_eq,db] at hc)<;>try(exfalso;omega)))
 all_goals exact rfl
theorem mK (a b:Int):Pure Tryz.prog 161 [i64 a,i64 b] (fun r=>r=i64 (NH a b)):=by
 refine aI uP rfl ?_
 repeat' (first|((with_reducible refine aF ?_);conv=>whnf)|refine aG ?_|exact aC|with_reducible refine aD ?_ ?_|(apply aA;(·exact cI))|refine aH ?_|((with_reducible refine aB ?_ ?_)<;>intro hc<;>(try simp only[List.length_map,ne_eq,db] at hc)<;>try(exfalso;omega)))
 all_goals exact rfl
theorem mW (a b:Int):Pure Tryz.prog 162 [i64 a,i64 b] (fun r=>r=i64 (L3 a b)):=by
 refine aI uQ rfl ?_
 repeat' (first|((with_reducible refine aF ?_);conv=>whnf)|refine aG ?_|exact aC|with_reducible refine aD ?_ ?_|(apply aA;(·exact cI))|refine aH ?_|((with_reducible refine aB ?_ ?_)<;>intro hc<;>(try simp only[List.length_map,ne_eq,db] at hc)<;>try(exfalso;omega)))
 all_goals exact rfl
theorem mR (a b:Int):Pure Tryz.prog 163 [i64 a,i64 b] (fun r=>r=i64 (LN a b)):=by
 refine aI uR rfl ?_
 repeat' (first|((with_reducible refine aF ?_);conv=>whnf)|refine aG ?_|exact aC|with_reducible refine aD ?_ ?_|(apply aA;(·exact cI))|refine aH ?_|((with_reducible refine aB ?_ ?_)<;>intro hc<;>(try simp only[List.length_map,ne_eq,db] at hc)<;>try(exfalso;omega)))
 all_goals exact rfl
theorem mS (a b:Int):Pure Tryz.prog 164 [i64 a,i64 b] (fun r=>r=i64 (HA a b)):=by
 refine aI uS rfl ?_
 repeat' (first|((with_reducible refine aF ?_);conv=>whnf)|refine aG ?_|exact aC|with_reducible refine aD ?_ ?_|(apply aA;(·exact cI))|refine aH ?_|((with_reducible refine aB ?_ ?_)<;>intro hc<;>(try simp only[List.length_map,ne_eq,db] at hc)<;>try(exfalso;omega)))
 all_goals exact rfl
theorem oF (a b:Int):Pure Tryz.prog 165 [i64 a,i64 b] (fun r=>r=i64 (tr (decide (a=b)))):=by
 refine aI uT rfl ?_
 repeat' (first|((with_reducible refine aF ?_);conv=>whnf)|refine aG ?_|exact aC|with_reducible refine aD ?_ ?_|(apply aA;(·exact cI))|((with_reducible refine aO (cT _) ?_ ?_);(·exact bo))|((with_reducible refine aN (fun _=>cT _) ?_ ?_);(·exact bo))|((with_reducible refine aL (cT _) ?_ ?_);(·exact bo))|((with_reducible refine aM (fun _=>cT _) ?_ ?_);(·exact bo))|refine aH ?_|((with_reducible refine aB ?_ ?_)<;>intro hc<;>(try simp only[List.length_map,ne_eq,db] at hc)<;>try(exfalso;omega)))
 all_goals exact rfl
theorem jU (a b:Int):Pure Tryz.prog 166 [i64 a,i64 b] (fun r=>r=i64 (tr (decide (a≠b)))):=by
 refine aI uU rfl ?_
 repeat' (first|((with_reducible refine aF ?_);conv=>whnf)|refine aG ?_|exact aC|with_reducible refine aD ?_ ?_|(apply aA;(·exact cI))|((with_reducible refine aO (cT _) ?_ ?_);(·exact bo))|((with_reducible refine aN (fun _=>cT _) ?_ ?_);(·exact bo))|((with_reducible refine aL (cT _) ?_ ?_);(·exact bo))|((with_reducible refine aM (fun _=>cT _) ?_ ?_);(·exact bo))|refine aH ?_|((with_reducible refine aB ?_ ?_)<;>intro hc<;>(try simp only[List.length_map,ne_eq,db] at hc)<;>try(exfalso;omega)))
 all_goals exact rfl
theorem kV (a b:Int):Pure Tryz.prog 167 [i64 a,i64 b] (fun r=>r=i64 (tr (decide (a<b)))):=by
 refine aI uV rfl ?_
 repeat' (first|((with_reducible refine aF ?_);conv=>whnf)|refine aG ?_|exact aC|with_reducible refine aD ?_ ?_|(apply aA;(·exact cI))|((with_reducible refine aO (cT _) ?_ ?_);(·exact bo))|((with_reducible refine aN (fun _=>cT _) ?_ ?_);(·exact bo))|((with_reducible refine aL (cT _) ?_ ?_);(·exact bo))|((with_reducible refine aM (fun _=>cT _) ?_ ?_);(·exact bo))|refine aH ?_|((with_reducible refine aB ?_ ?_)<;>intro hc<;>(try simp only[List.length_map,ne_eq,db] at hc)<;>try(exfalso;omega)))
 all_goals exact rfl
theorem kX (a b:Int):Pure Tryz.prog 168 [i64 a,i64 b] (fun r=>r=i64 (tr (decide (a≤b)))):=by
 refine aI uX rfl ?_
 repeat' (first|((with_reducible refine aF ?_);conv=>whnf)|refine aG ?_|exact aC|with_reducible refine aD ?_ ?_|(apply aA;(·exact cI))|((with_reducible refine aO (cT _) ?_ ?_);(·exact bo))|((with_reducible refine aN (fun _=>cT _) ?_ ?_);(·exact bo))|((with_reducible refine aL (cT _) ?_ ?_);(·exact bo))|((with_reducible refine aM (fun _=>cT _) ?_ ?_);(·exact bo))|refine aH ?_|((with_reducible refine aB ?_ ?_)<;>intro hc<;>(try simp only[List.length_map,ne_eq,db] at hc)<;>try(exfalso;omega)))
 all_goals exact rfl
theorem jM (a b:Int):Pure Tryz.prog 169 [i64 a,i64 b] (fun r=>r=i64 (tr (decide (b<a)))):=by
 refine aI uY rfl ?_
 repeat' (first|((with_reducible refine aF ?_);conv=>whnf)|refine aG ?_|exact aC|with_reducible refine aD ?_ ?_|(apply aA;(·exact cI))|((with_reducible refine aO (cT _) ?_ ?_);(·exact bo))|((with_reducible refine aN (fun _=>cT _) ?_ ?_);(·exact bo))|((with_reducible refine aL (cT _) ?_ ?_);(·exact bo))|((with_reducible refine aM (fun _=>cT _) ?_ ?_);(·exact bo))|refine aH ?_|((with_reducible refine aB ?_ ?_)<;>intro hc<;>(try simp only[List.length_map,ne_eq,db] at hc)<;>try(exfalso;omega)))
 all_goals exact rfl
theorem jW (a b:Int):Pure Tryz.prog 170 [i64 a,i64 b] (fun r=>r=i64 (tr (decide (b≤a)))):=by
 refine aI uZ rfl ?_
 repeat' (first|((with_reducible refine aF ?_);conv=>whnf)|refine aG ?_|exact aC|with_reducible refine aD ?_ ?_|(apply aA;(·exact cI))|((with_reducible refine aO (cT _) ?_ ?_);(·exact bo))|((with_reducible refine aN (fun _=>cT _) ?_ ?_);(·exact bo))|((with_reducible refine aL (cT _) ?_ ?_);(·exact bo))|((with_reducible refine aM (fun _=>cT _) ?_ ?_);(·exact bo))|refine aH ?_|((with_reducible refine aB ?_ ?_)<;>intro hc<;>(try simp only[List.length_map,ne_eq,db] at hc)<;>try(exfalso;omega)))
 all_goals exact rfl
theorem jZ (a:Int):Pure Tryz.prog 171 [i64 a] (fun r=>r=i64 (s7 (0 - a))):=by
 refine aI u0 rfl ?_
 repeat' (first|((with_reducible refine aF ?_);conv=>whnf)|refine aG ?_|exact aC|with_reducible refine aD ?_ ?_|(apply aA;(·exact cI))|refine aH ?_|((with_reducible refine aB ?_ ?_)<;>intro hc<;>(try simp only[List.length_map,ne_eq,db] at hc)<;>try(exfalso;omega)))
 all_goals exact rfl
theorem mH (a:Int):Pure Tryz.prog 172 [i64 a] (fun r=>r=i64 (tr (decide (a=0)))):=by
 refine aI u5 rfl ?_
 repeat' (first|((with_reducible refine aF ?_);conv=>whnf)|refine aG ?_|exact aC|with_reducible refine aD ?_ ?_|(apply aA;(·exact cI))|((with_reducible refine aO (cT _) ?_ ?_);(·exact bo))|((with_reducible refine aN (fun _=>cT _) ?_ ?_);(·exact bo))|((with_reducible refine aL (cT _) ?_ ?_);(·exact bo))|((with_reducible refine aM (fun _=>cT _) ?_ ?_);(·exact bo))|refine aH ?_|((with_reducible refine aB ?_ ?_)<;>intro hc<;>(try simp only[List.length_map,ne_eq,db] at hc)<;>try(exfalso;omega)))
 all_goals exact rfl
def IK:AV:= .agg [.sc .nilFunc, .sc .nilFunc, .fn (.func 155) [] [], .sc .nilFunc, .fn (.func 156) [] [], .sc .nilFunc, .fn (.func 157) [] [], .sc .nilFunc, .fn (.func 158) [] [], .sc .nilFunc, .fn (.func 159) [] [], .sc .nilFunc, .fn (.func 160) [] [], .sc .nilFunc, .fn (.func 161) [] [], .sc .nilFunc, .fn (.func 162) [] [], .sc .nilFunc, .fn (.func 163) [] [], .sc .nilFunc, .fn (.func 164) [] [], .sc .nilFunc, .fn (.func 165) [] [], .sc .nilFunc, .fn (.func 166) [] [], .sc .nilFunc, .fn (.func 167) [] [], .sc .nilFunc, .fn (.func 168) [] [], .sc .nilFunc, .fn (.func 169) [] [], .sc .nilFunc, .fn (.func 170) [] [], .sc .nilFunc, .sc .nilFunc, .fn (.func 171) [] [], .sc .nilFunc, .fn (.func 172) [] []]
theorem kA:Pure Tryz.prog 147 [] (fun r=>r=IK):=k9 (by simp[IK,bx,cN]) (by kernel_rfl)
def HW (op a b:Int):Int:=if op=1 then s7 (a+b) else if op=2 then s7 (a - b) else if op=3 then s7 (a * b) else if op=4 then zu a b else if op=5 then D1 a b else if op=6 then KQ a b else if op=7 then NH a b else if op=8 then L3 a b else if op=9 then LN a b else if op=10 then HA a b else if op=11 then tr (decide (a=b)) else if op=12 then tr (decide (a≠b)) else if op=13 then tr (decide (a<b)) else if op=14 then tr (decide (a≤b)) else if op=15 then tr (decide (b<a)) else tr (decide (b≤a))
def GZ (op a:Int):Int:=if op=17 then s7 (0 - a) else tr (decide (a=0))
theorem AL {op:Int} (h:dO op=true):op=1∨op=2∨op=3∨op=4∨op=5∨op=6∨op=7∨op=8∨op=9∨op=10∨op=11∨op=12∨op=13∨op=14∨op=15∨op=16:=by
 simp only[dO,Bool.and_eq_true,decide_eq_true_eq] at h;omega
theorem IQ (op a b:Int) (h:dO op=true):Pure Tryz.prog 124 [u8 op,i64 a,i64 b] (fun r=>r= .dc [i64 (HW op a b),i64 0]):=by
 refine aI uC rfl ?_
 rcases AL h with rfl|rfl|rfl|rfl|rfl|rfl|rfl|rfl|rfl|rfl|rfl|rfl|rfl|rfl|rfl|rfl
 all_goals repeat' (first|((with_reducible refine aF ?_);conv=>whnf)|refine aG ?_|exact aC|with_reducible refine aD ?_ ?_|(apply aA;(·exact cI))|((with_reducible refine aO (eQ _ (by omega)) ?_ ?_);(·exact bo))|((with_reducible refine aN (fun _=>eQ _ (by omega)) ?_ ?_);(·exact bo))|((with_reducible refine aL (eQ _ (by omega)) ?_ ?_);(·exact bo))|((with_reducible refine aM (fun _=>eQ _ (by omega)) ?_ ?_);(·exact bo))|refine aK (kA) ?_|((with_reducible refine aO (l7 _ _) ?_ ?_);(·exact bo))|((with_reducible refine aN (fun _=>l7 _ _) ?_ ?_);(·exact bo))|((with_reducible refine aL (l7 _ _) ?_ ?_);(·exact bo))|((with_reducible refine aM (fun _=>l7 _ _) ?_ ?_);(·exact bo))|((with_reducible refine aO (mU _ _) ?_ ?_);(·exact bo))|((with_reducible refine aN (fun _=>mU _ _) ?_ ?_);(·exact bo))|((with_reducible refine aL (mU _ _) ?_ ?_);(·exact bo))|((with_reducible refine aM (fun _=>mU _ _) ?_ ?_);(·exact bo))|((with_reducible refine aO (mC _ _) ?_ ?_);(·exact bo))|((with_reducible refine aN (fun _=>mC _ _) ?_ ?_);(·exact bo))|((with_reducible refine aL (mC _ _) ?_ ?_);(·exact bo))|((with_reducible refine aM (fun _=>mC _ _) ?_ ?_);(·exact bo))|((with_reducible refine aO (gF _ _) ?_ ?_);(·exact bo))|((with_reducible refine aN (fun _=>gF _ _) ?_ ?_);(·exact bo))|((with_reducible refine aL (gF _ _) ?_ ?_);(·exact bo))|((with_reducible refine aM (fun _=>gF _ _) ?_ ?_);(·exact bo))|((with_reducible refine aO (mP _ _) ?_ ?_);(·exact bo))|((with_reducible refine aN (fun _=>mP _ _) ?_ ?_);(·exact bo))|((with_reducible refine aL (mP _ _) ?_ ?_);(·exact bo))|((with_reducible refine aM (fun _=>mP _ _) ?_ ?_);(·exact bo))|((with_reducible refine aO (la _ _) ?_ ?_);(·exact bo))|((with_reducible refine aN (fun _=>la _ _) ?_ ?_);(·exact bo))|((with_reducible refine aL (la _ _) ?_ ?_);(·exact bo))|((with_reducible refine aM (fun _=>la _ _) ?_ ?_);(·exact bo))|((with_reducible refine aO (mK _ _) ?_ ?_);(·exact bo))|((with_reducible refine aN (fun _=>mK _ _) ?_ ?_);(·exact bo))|((with_reducible refine aL (mK _ _) ?_ ?_);(·exact bo))|((with_reducible refine aM (fun _=>mK _ _) ?_ ?_);(·exact bo))|((with_reducible refine aO (mW _ _) ?_ ?_);(·exact bo))|((with_reducible refine aN (fun _=>mW _ _) ?_ ?_);(·exact bo))|((with_reducible refine aL (mW _ _) ?_ ?_);(·exact bo))|((with_reducible refine aM (fun _=>mW _ _) ?_ ?_);(·exact bo))|((with_reducible refine aO (mR _ _) ?_ ?_);(·exact bo))|((with_reducible refine aN (fun _=>mR _ _) ?_ ?_);(·exact bo))|((with_reducible refine aL (mR _ _) ?_ ?_);(·exact bo))|((with_reducible refine aM (fun _=>mR _ _) ?_ ?_);(·exact bo))|((with_reducible refine aO (mS _ _) ?_ ?_);(·exact bo))|((with_reducible refine aN (fun _=>mS _ _) ?_ ?_);(·exact bo))|((with_reducible refine aL (mS _ _) ?_ ?_);(·exact bo))|((with_reducible refine aM (fun _=>mS _ _) ?_ ?_);(·exact bo))|((with_reducible refine aO (oF _ _) ?_ ?_);(·exact bo))|((with_reducible refine aN (fun _=>oF _ _) ?_ ?_);(·exact bo))|((with_reducible refine aL (oF _ _) ?_ ?_);(·exact bo))|((with_reducible refine aM (fun _=>oF _ _) ?_ ?_);(·exact bo))|((with_reducible refine aO (jU _ _) ?_ ?_);(·exact bo))|((with_reducible refine aN (fun _=>jU _ _) ?_ ?_);(·exact bo))|((with_reducible refine aL (jU _ _) ?_ ?_);(·exact bo))|((with_reducible refine aM (fun _=>jU _ _) ?_ ?_);(·exact bo))|((with_reducible refine aO (kV _ _) ?_ ?_);(·exact bo))|((with_reducible refine aN (fun _=>kV _ _) ?_ ?_);(·exact bo))|((with_reducible refine aL (kV _ _) ?_ ?_);(·exact bo))|((with_reducible refine aM (fun _=>kV _ _) ?_ ?_);(·exact bo))|((with_reducible refine aO (kX _ _) ?_ ?_);(·exact bo))|((with_reducible refine aN (fun _=>kX _ _) ?_ ?_);(·exact bo))|((with_reducible refine aL (kX _ _) ?_ ?_);(·exact bo))|((with_reducible refine aM (fun _=>kX _ _) ?_ ?_);(·exact bo))|((with_reducible refine aO (jM _ _) ?_ ?_);(·exact bo))|((with_reducible refine aN (fun _=>jM _ _) ?_ ?_);(·exact bo))|((with_reducible refine aL (jM _ _) ?_ ?_);(·exact bo))|((with_reducible refine aM (fun _=>jM _ _) ?_ ?_);(·exact bo))|((with_reducible refine aO (jW _ _) ?_ ?_);(·exact bo))|((with_reducible refine aN (fun _=>jW _ _) ?_ ?_);(·exact bo))|((with_reducible refine aL (jW _ _) ?_ ?_);(·exact bo))|((with_reducible refine aM (fun _=>jW _ _) ?_ ?_);(·exact bo))|refine aH ?_|((with_reducible refine aB ?_ ?_)<;>intro hc<;>(try simp only[List.length_map,ne_eq,db] at hc)<;>try(exfalso;omega)))
 all_goals (first|exact rfl|trace_state)
theorem EV (op a:Int) (h:op=17∨op=18):Pure Tryz.prog 125 [u8 op,i64 a] (fun r=>r= .dc [i64 (GZ op a),i64 0]):=by
 refine aI uD rfl ?_
 rcases h with rfl|rfl
 all_goals repeat' (first|((with_reducible refine aF ?_);conv=>whnf)|refine aG ?_|exact aC|with_reducible refine aD ?_ ?_|(apply aA;(·exact cI))|((with_reducible refine aO (er _) ?_ ?_);(·exact bo))|((with_reducible refine aN (fun _=>er _) ?_ ?_);(·exact bo))|((with_reducible refine aL (er _) ?_ ?_);(·exact bo))|((with_reducible refine aM (fun _=>er _) ?_ ?_);(·exact bo))|((with_reducible refine aO (eQ _ (by omega)) ?_ ?_);(·exact bo))|((with_reducible refine aN (fun _=>eQ _ (by omega)) ?_ ?_);(·exact bo))|((with_reducible refine aL (eQ _ (by omega)) ?_ ?_);(·exact bo))|((with_reducible refine aM (fun _=>eQ _ (by omega)) ?_ ?_);(·exact bo))|refine aK (kA) ?_|((with_reducible refine aO (jZ _) ?_ ?_);(·exact bo))|((with_reducible refine aN (fun _=>jZ _) ?_ ?_);(·exact bo))|((with_reducible refine aL (jZ _) ?_ ?_);(·exact bo))|((with_reducible refine aM (fun _=>jZ _) ?_ ?_);(·exact bo))|((with_reducible refine aO (mH _) ?_ ?_);(·exact bo))|((with_reducible refine aN (fun _=>mH _) ?_ ?_);(·exact bo))|((with_reducible refine aL (mH _) ?_ ?_);(·exact bo))|((with_reducible refine aM (fun _=>mH _) ?_ ?_);(·exact bo))|refine aH ?_|((with_reducible refine aB ?_ ?_)<;>intro hc<;>(try simp only[List.length_map,ne_eq,db] at hc)<;>try(exfalso;omega)))
 all_goals (first|exact rfl|trace_state)
end Go.Proofs.YtekfmjjmihomlaaGreat
end
section
/- A step in plain data. -/
namespace Go.Proofs.YtekfmjjmihomlaaGreat
open Go Go.cO Go.Proofs
set_option linter.unusedSimpArgs false
set_option linter.unusedVariables false
structure fY where
 cR:Int
 node:Int
 kind:Int
 cH:Int
 word:Int
 put:Int
 deriving Inhabited,DecidableEq
def fY.cells (d:fY):List AV:=[i64 d.cR,i64 d.node,u8 d.kind,i64 d.cH,i64 d.word,i64 d.put]
abbrev fY.av (d:fY):AV:= .agg d.cells
def MS.val (m:MS) (t:Nat) (v:jd):Int:=if v.gx then(m.bj.getD t []).getD v.slot.toNat 0 else v.word
def MS.fS (m:MS) (t:Nat) (k:Int) (w:Int):MS:={ m with bj:=m.bj.set t ((m.bj.getD t []).set k.toNat w) }
def MS.wz (m:MS) (t:Nat) (n:Node):Int:=if dO n.op then HW n.op (m.val t n.a) (m.val t n.b) else if n.op≠0 then GZ n.op (m.val t n.a) else m.val t n.a
def MS.act (m:MS) (t:Nat) (n:Node):MS×Int×Int×Int×Int:=
 if n.kind=1 then(m.fS t n.slot (m.wz t n),n.next,0,m.wz t n,0)
 else if n.kind=2 then(m.fS t n.slot (m.mem.getD n.cH.toNat 0),n.next,n.cH,m.mem.getD n.cH.toNat 0,0)
 else if n.kind=3 then({ m with mem:=m.mem.set n.cH.toNat (m.val t n.a) },n.next,n.cH,m.val t n.a,0)
 else if n.kind=4 then({ m.fS t n.slot (m.mem.getD n.cH.toNat 0) with mem:=m.mem.set n.cH.toNat (m.val t n.a) },n.next,n.cH,m.mem.getD n.cH.toNat 0,m.val t n.a)
 else if n.kind=5 then({ m with hold:=m.hold.set n.cH.toNat t },n.next,n.cH,0,0)
 else if n.kind=6 then({ m with hold:=m.hold.set n.cH.toNat (-1) },n.next,n.cH,0,0)
 else if n.kind=7 then({ m with bh:=m.bh++[⟨t,m.val t n.a⟩] },n.next,0,m.val t n.a,0)
 else(m,if m.val t n.a=0 then n.og else n.next,0,m.val t n.a,0)
def MS.step (u:bf) (m:MS) (t:Nat):MS×fY:=
 let n:=m.node u t
 let r:=m.act t n
 ({ r.1 with at_:=m.at_.set t r.2.1 },⟨t,m.at_.getD t 0,n.kind,r.2.2.1,r.2.2.2.1,r.2.2.2.2⟩)
end Go.Proofs.YtekfmjjmihomlaaGreat
end
