import Derived.Test.YtekfmjjmihomlaaGreatM26
import Derived.Test.YtekfmjjmihomlaaGreatM27
import Derived.Test.YtekfmjjmihomlaaGreatM28
import Derived.Test.YtekfmjjmihomlaaGreatM29
section
/- The source machine in plain data. -/
namespace Go.Proofs.YtekfmjjmihomlaaGreat
open Go Go.cN Go.Proofs
set_option linter.unusedSimpArgs false
set_option linter.unusedVariables false
structure cY where
 cT:Int
 word:Int
 deriving Inhabited,DecidableEq
def cY.cells (p:cY):List AV:=[i64 p.cT,i64 p.word]
abbrev cY.av (p:cY):AV:= .agg p.cells
structure MS where
 at_:List Int
 bh:List (List Int)
 mem:List Int
 hold:List Int
 bo:List cY
 deriving Inhabited,DecidableEq
abbrev cu (l:List Int):AV:= .im 1 .any (l.map i64)
abbrev yN (l:List (List Int)):AV:= .im 1 .any (l.map cu)
abbrev ed (l:List cY):AV:= .im 2 .any (l.map cY.av)
def MS.cells (u:bf) (m:MS):List AV:=[cV u.shared,cV u.bx,dQ u.bj,cu m.at_,yN m.bh,cu m.mem,cu m.hold,ed m.bo]
abbrev MS.fz (u:bf) (m:MS):AV:= .ip 8 .any [.agg (m.cells u)] 0 0
@[simp] theorem JZ (n:Nat) (p:cY):cM n p.cells:=by simp[cY.cells,cM,cA]
@[simp] theorem MC (n:Nat) (u:bf) (m:MS):cM n (m.cells u):=by simp[MS.cells,cM,cA,cB]
theorem mc (n:Nat) (u:bf) (m:MS):cA n (m.fz u):=by simp[cA,cM]
structure eK (u:bf) (m:MS):Prop where
 oK:m.at_.length=u.bj.length
 fx:∀t,t<u.bj.length→0≤m.at_.getD t 0∧m.at_.getD t 0<(u.gr t).nodes.length
 sl:m.bh.length=u.bj.length
 wc:∀t,t<u.bj.length→(m.bh.getD t []).length=(u.gr t).bh.toNat
 we:∀t,t<u.bj.length→∀w∈m.bh.getD t [],dh w
 ml:m.mem.length=u.shared.length
 mw:∀w∈m.mem,dh w
 hl:m.hold.length=u.bx.length
 hw:∀w∈m.hold,-1≤w∧w<u.bj.length
 pw:∀p∈m.bo,0≤p.cT∧p.cT<u.bj.length∧dh p.word
abbrev MS.node (u:bf) (m:MS) (t:Nat):Node:=(u.gr t).nd (m.at_.getD t 0).toNat
def MS.rJ (u:bf) (m:MS) (t:Int):Int:=if t<0∨(m.at_.length:Int)≤t then 2 else if(m.node u t.toNat).kind=9 then 70 else if(m.node u t.toNat).kind=5∧0≤m.hold.getD (m.node u t.toNat).cH.toNat 0 then 71 else 0
theorem ej {l:List Int} {k:Nat} (h:k<l.length) (d:AV):(l.map i64).getD ((k:Int)).toNat d=i64 (l.getD k 0):=by
 rw[Int.toNat_natCast];exact dJ i64 l k d h
theorem ln {l:List Int} {k:Int} (h:k.toNat<l.length) (d:AV):(l.map i64).getD k.toNat d=i64 (l.getD k.toNat 0):=dJ i64 l k.toNat d h
theorem eK.node {u:bf} {m:MS} (hr:ch u) (h:eK u m) {t:Nat} (ht:t<u.bj.length):mU u (u.gr t) (m.node u t):=by
 have:=h.fx t ht
 exact(hr.gr ht).nodes _ (cW default (by omega))
theorem EG {u:bf} {m:MS} {t:Int} (h:t<0∨(m.at_.length:Int)≤t):m.rJ u t=2:=by unfold MS.rJ;rw[if_pos h]
theorem DW (u:bf) (m:MS) (t:Int):Pure Tryz.prog 81 [m.fz u,i64 t] (fun r=>r=bl (decide (¬(t<0∨(m.at_.length:Int)≤t)))):=by
 refine aI CV rfl ?_
 refine cU ?_
 refine eX ?_
 rw[List.length_map]
 by_cases h1:0≤t<;>by_cases h2:t<m.at_.length<;>simp[h1,h2]<;>omega
set_option maxRecDepth 8000 in
set_option maxHeartbeats 2000000 in
theorem vP (u:bf) (hr:ch u) (m:MS) (h:eK u m) (t:Int):Pure Tryz.prog 54 [m.fz u,i64 t] (fun r=>r=i64 (m.rJ u t)):=by
 have c0:=DW u m t
 have hl:=h.oK
 by_cases ht:t<0∨(m.at_.length:Int)≤t
 ·rw[EG ht]
  rw[decide_eq_false (fun e=>e ht)] at c0
  refine aI rn rfl ?_
  refine cU ?_
  first|exact rfl|trivial
 ·rw[decide_eq_true ht] at c0
  obtain⟨k,rfl⟩:∃k:Nat,t=k:=⟨t.toNat,by omega⟩
  have hk:k<u.bj.length:=by omega
  have hbar:m.rJ u k=if(m.node u k).kind=9 then 70 else if(m.node u k).kind=5∧0≤m.hold.getD (m.node u k).cH.toNat 0 then 71 else 0:=by
   unfold MS.rJ;rw[if_neg ht,Int.toNat_natCast]
  rw[hbar]
  have hno:=h.node hr hk
  obtain⟨p0,p1⟩:=h.fx k hk
  have e0:=fun d=>xP (l:=u.bj) hk d
  have e1:=fun d=>ej (l:=m.at_) (k:=k) (by omega) d
  obtain⟨j,hj⟩:∃j:Nat,m.at_.getD k 0=j:=⟨(m.at_.getD k 0).toNat,by omega⟩
  rw[hj] at e1 p1
  have hnd:m.node u k=(u.gr k).nd j:=by unfold MS.node;rw[hj,Int.toNat_natCast]
  rw[hnd] at hno ⊢
  have hgr:u.bj.getD k default=u.gr k:=rfl
  rw[hgr] at e0
  generalize u.gr k=g at *
  have e2:=fun d=>kb (l:=g.nodes) (i:=j) (by omega) d
  rw[show g.nodes.getD j default=g.nd j from rfl] at e2
  generalize g.nd j=n at *
  have a0:(u.bj.map bz.av).length=u.bj.length:=by simp
  have a1:(m.at_.map i64).length=u.bj.length:=by simp[hl]
  have a2:(g.nodes.map Node.av).length=g.nodes.length:=by simp
  have a3:(m.hold.map i64).length=u.bx.length:=by simp[h.hl]
  by_cases h9:n.kind=9
  ·have r0:=h9
   rw[if_pos h9]
   refine aI rn rfl ?_
   refine cU ?_
   first|exact rfl|trivial
  ·rw[if_neg h9]
   by_cases h5:n.kind=5
   ·have hth:=hno.cH.1 (by unfold fq;exact decide_eq_true (by omega))
    rw[if_pos (.inl h5)] at hth
    have hhl:=h.hl
    have e3:=fun d=>ln (l:=m.hold) (k:=n.cH) (by omega) d
    have r0:=h5
    by_cases hh:0≤m.hold.getD n.cH.toNat 0
    ·rw[if_pos ⟨h5,hh⟩]
     have r1:=decide_eq_true hh
     refine aI rn rfl ?_
     refine cU ?_
     first|exact rfl|trivial
    ·rw[if_neg fun e=>hh e.2]
     have r1:=decide_eq_false hh
     refine aI rn rfl ?_
     refine cU ?_
     first|exact rfl|trivial
   ·rw[if_neg fun e=>h5 e.1]
    have r1:=decide_eq_false h5
    refine aI rn rfl ?_
    refine cU ?_
    first|exact rfl|trivial
theorem AS (u:bf) (hr:ch u) (m:MS) (h:eK u m) (t:Int):Pure Tryz.prog 22 [m.fz u,i64 t] (fun r=>r=bl (decide (m.rJ u t=0))):=by
 have c0:=vP u hr m h t
 refine aI B4 rfl ?_
 refine cU ?_
 first|exact rfl|trivial
def MS.ended (u:bf) (m:MS):Bool:=(List.range m.at_.length).all fun t=>decide (m.rJ u t=70)
theorem A3 (u:bf) (hr:ch u) (m:MS) (h:eK u m):Pure Tryz.prog 57 [m.fz u] (fun r=>r=bl (m.ended u)):=by
 have hl:=h.oK
 have hgl:=hr.A8
 refine aI CL rfl ?_
 refine cU ?_
 rw[List.length_map]
 refine aR (fun i:Nat=>[(0,m.fz u),(10,i64 m.at_.length),(11,i64 i)]) (fun i H n=>i≤m.at_.length∧∀j:Nat,j<i→m.rJ u j=70) (fun i=>m.at_.length - i) 0 cK ⟨Nat.zero_le _,fun j hj=>by omega⟩ ?_
 rintro i H n ⟨hi,hall⟩
 by_cases hil:i<m.at_.length
 ·have c0:=vP u hr m h i
  by_cases hb:m.rJ u i=70
  ·have r0:=hb
   refine cU ?_
   exact⟨i+1,by omega,cK,by omega,fun j hj=>by
    by_cases e:j=i
    ·rw[e];exact hb
    ·exact hall j (by omega)⟩
  ·have r0:=decide_eq_true hb
   refine cU ?_
   refine eX (Eq.symm ?_)
   unfold MS.ended
   rw[List.all_eq_false]
   exact⟨i,List.mem_range.2 hil,by simpa using hb⟩
 ·refine cU ?_
  refine eX (Eq.symm ?_)
  unfold MS.ended
  rw[List.all_eq_true]
  intro j hj
  exact decide_eq_true (hall j (by have:=List.mem_range.1 hj;omega))
end Go.Proofs.YtekfmjjmihomlaaGreat
end
section
/- Ends compared: plain data, the small functions of the code. -/
namespace Go.Proofs.YtekfmjjmihomlaaGreat
open Go Go.cN Go.Proofs
set_option linter.unusedSimpArgs false
set_option linter.unusedVariables false
structure dE where
 bo:List cY
 mem:List Int
 ended:Bool
 deriving Inhabited,DecidableEq
def dE.cells (e:dE):List AV:=[ed e.bo,cu e.mem,bl e.ended]
abbrev dE.av (e:dE):AV:= .agg e.cells
@[simp] theorem LN (n:Nat) (e:dE):cM n e.cells:=by simp[dE.cells,cM,cA,cB]
def eF (x y:Int):Int:=if x<y then -1 else if y<x then 1 else 0
def jU:List Int→Int
 |[]=>0
 |x::l=>if x=0 then jU l else x
def ef (p q:cY):Int:=jU [eF p.cT q.cT,eF p.word q.word]
def eC {α:Type} (f:α→α→Int):List α→List α→Int
 |[],[]=>0
 |[],_::_=>-1
 |_::_,[]=>1
 |x::a,y::b=>if f x y=0 then eC f a b else f x y
def p6 (a b:Bool):Int:=if a=b then 0 else if b then -1 else 1
def eB (a b:dE):Int:=jU [eC ef a.bo b.bo,eC eF a.mem b.mem,p6 a.ended b.ended]
theorem nh {α:Type} (f:α→α→Int) (d:α) {a b:List α} {i:Nat} (h1:i<a.length) (h2:i<b.length):eC f (a.drop i) (b.drop i)=if f (a.getD i d) (b.getD i d)=0 then eC f (a.drop (i+1)) (b.drop (i+1)) else f (a.getD i d) (b.getD i d):=by
 rw[List.drop_eq_getElem_cons h1,List.drop_eq_getElem_cons h2,eC]
 simp[List.getD,List.getElem?_eq_getElem h1,List.getElem?_eq_getElem h2]
theorem l6 {α:Type} (f:α→α→Int) {a b:List α} {i:Nat} (h1:i<a.length) (h2:b.length≤i):eC f (a.drop i) (b.drop i)=1:=by
 rw[List.drop_eq_getElem_cons h1,List.drop_of_length_le h2,eC]
theorem l5 {α:Type} (f:α→α→Int) {a b:List α} {i:Nat} (h1:a.length≤i) (h2:i≤b.length):eC f (a.drop i) (b.drop i)=if i<b.length then -1 else 0:=by
 rw[List.drop_of_length_le h1]
 split
 ·rename_i h;rw[List.drop_eq_getElem_cons h,eC]
 ·rw[List.drop_of_length_le (by omega),eC]
theorem yF (x:Int):Pure Tryz.prog 76 [i64 x] (fun r=>r=bl false):=by
 refine aI CQ rfl ?_
 refine cU ?_
 refine eX ?_
 simp
theorem uY (x:Int):Pure Tryz.prog 77 [i64 x] (fun r=>r=bl false):=by
 refine aI CR rfl ?_
 refine cU ?_
 refine eX ?_
 simp
theorem AW (x y:Int):Pure Tryz.prog 48 [i64 x,i64 y] (fun r=>r=i64 (eF x y)):=by
 have c0:=yF x
 have c1:=yF y
 unfold eF
 by_cases h:x<y
 ·rw[if_pos h]
  refine aI wA rfl ?_
  refine cU ?_
  first|exact rfl|trivial
 ·rw[if_neg h]
  by_cases h2:y<x
  ·rw[if_pos h2]
   refine aI wA rfl ?_
   refine cU ?_
   first|exact rfl|trivial
  ·rw[if_neg h2]
   refine aI wA rfl ?_
   refine cU ?_
   first|exact rfl|trivial
theorem qE (x y:Int):Pure Tryz.prog 49 [i64 x,i64 y] (fun r=>r=i64 (eF x y)):=by
 have c0:=uY x
 have c1:=uY y
 unfold eF
 by_cases h:x<y
 ·rw[if_pos h]
  refine aI wB rfl ?_
  refine cU ?_
  first|exact rfl|trivial
 ·rw[if_neg h]
  by_cases h2:y<x
  ·rw[if_pos h2]
   refine aI wB rfl ?_
   refine cU ?_
   first|exact rfl|trivial
  ·rw[if_neg h2]
   refine aI wB rfl ?_
   refine cU ?_
   first|exact rfl|trivial
theorem DD {l:List Int} {i:Nat} (h:i<l.length):jU (l.drop i)=if l.getD i 0=0 then jU (l.drop (i+1)) else l.getD i 0:=by
 rw[List.drop_eq_getElem_cons h,jU]
 simp[List.getD,List.getElem?_eq_getElem h]
theorem yH (l:List Int) (hl:l.length≤1000):Pure Tryz.prog 47 [cu l] (fun r=>r=i64 (jU l)):=by
 refine aI CE rfl ?_
 refine cU ?_
 rw[List.length_map]
 refine aR (fun i:Nat=>[(3,i64 0),(6,cu l),(7,i64 l.length),(8,i64 i)]) (fun i H n=>i≤l.length∧jU l=jU (l.drop i)) (fun i=>l.length - i) 0 cK ⟨Nat.zero_le _,rfl⟩ ?_
 rintro i H n ⟨hi,ho⟩
 rw[ho]
 by_cases hil:i<l.length
 ·have e0:=fun d=>ej (l:=l) hil d
  have a0:(l.map i64).length=l.length:=by simp
  have hd:=DD hil
  by_cases hz:l.getD i 0=0
  ·have r0:=hz
   rw[if_pos hz] at hd
   refine cU ?_
   exact⟨i+1,by omega,cK,by omega,hd⟩
  ·have r0:=decide_eq_true hz
   rw[if_neg hz] at hd
   refine cU ?_
   rw[hd]
 ·rw[List.drop_of_length_le (by omega)]
  refine cU ?_
  first|exact rfl|trivial
end Go.Proofs.YtekfmjjmihomlaaGreat
end
section
/- Copies of lists; what a machine shows. -/
namespace Go.Proofs.YtekfmjjmihomlaaGreat
open Go Go.cN Go.Proofs
set_option linter.unusedSimpArgs false
set_option linter.unusedVariables false
theorem pR {p:Prop} (h:Go p):p:=h
theorem y8 {es:List AV} (hf:cM 0 es) (hl:es.length * 16≤140737488355328):cC Tryz.prog 63 [.im 2 .any es] [] 0 (fun r H _=>cN.dM H 6 r= .sc (.slice none 0 0)∧es=[]∨cN.dM H 6 r= .im 2 .any es):=by
 refine aQ CN rfl ?_
 cases es with
 |nil=>
  refine cU ?_
  refine⟨pR ?_,pR ?_⟩
  ·refine cU ?_
   exact⟨.inl ⟨rfl,rfl⟩⟩
  ·refine cU ?_
   exact⟨.inr rfl⟩
 |cons x t=>
  have a0:(x::t).length * 16≤gD:=hl
  simp only[List.length_cons] at hl
  refine cU ?_
  refine⟨.inr ((dw (e:=89) (sz:=2) (es:=x::t) bg (Nat.zero_add _).symm).trans ?_)⟩
  rw[dF _ hf]
theorem y9 {es:List AV} (hf:cM 0 es) (hl:es.length * 8≤140737488355328):cC Tryz.prog 90 [.im 1 .any es] [] 0 (fun r H _=>cN.dM H 6 r= .sc (.slice none 0 0)∧es=[]∨cN.dM H 6 r= .im 1 .any es):=by
 refine aQ C2 rfl ?_
 cases es with
 |nil=>
  refine cU ?_
  refine⟨pR ?_,pR ?_⟩
  ·refine cU ?_
   exact⟨.inl ⟨rfl,rfl⟩⟩
  ·refine cU ?_
   exact⟨.inr rfl⟩
 |cons x t=>
  have a0:(x::t).length * 8≤gD:=hl
  simp only[List.length_cons] at hl
  refine cU ?_
  refine⟨.inr ((dw (e:=2) (sz:=1) (es:=x::t) bg (Nat.zero_add _).symm).trans ?_)⟩
  rw[dF _ hf]
theorem sf (l:List cY) (hl:l.length * 16≤140737488355328):Pure Tryz.prog 63 [ed l] (fun r=>r=ed l):=
 mG (by simp[cA,cB]) (y8 ((cB _ _).2 fun _ _=>by simp[cA]) (by rw[List.length_map];exact hl))
theorem sg (l:List Int) (hl:l.length * 8≤140737488355328):Pure Tryz.prog 90 [cu l] (fun r=>r=cu l):=
 mG (by simp[cA,cB]) (y9 ((cB _ _).2 fun _ _=>by simp[cA]) (by rw[List.length_map];exact hl))
theorem z7 (u:bf) (m:MS) (hl:m.bo.length * 16≤140737488355328):Pure Tryz.prog 30 [m.fz u] (fun r=>r=ed m.bo):=by
 have c0:=sf m.bo hl
 refine aI B7 rfl ?_
 refine cU ?_
 first|exact rfl|trivial
theorem zR (u:bf) (m:MS) (hl:m.mem.length * 8≤140737488355328):Pure Tryz.prog 56 [m.fz u] (fun r=>r=cu m.mem):=by
 have c0:=sg m.mem hl
 refine aI CK rfl ?_
 refine cU ?_
 first|exact rfl|trivial
end Go.Proofs.YtekfmjjmihomlaaGreat
end
section
/- Whether a situation is an end. -/
namespace Go.Proofs.YtekfmjjmihomlaaGreat
open Go Go.cN Go.Proofs
set_option linter.unusedSimpArgs false
set_option linter.unusedVariables false
def MS.stuck (u:bf) (m:MS):Bool:=(List.range m.at_.length).all fun t=>decide (m.rJ u t≠0)
def MS.end_ (u:bf) (m:MS):dE:=⟨m.bo,m.mem,m.ended u⟩
def jV (u:bf) (m:MS):AV:=if m.stuck u then .da [(m.end_ u).av,bl true] else .da [.agg [.sc (.slice none 0 0), .sc (.slice none 0 0),bl false],bl false]
theorem qc (u:bf) (hr:ch u) (m:MS) (h:eK u m) (hp:m.bo.length * 16≤140737488355328) (hm:m.mem.length * 8≤140737488355328):Pure Tryz.prog 36 [u.av,m.fz u] (fun r=>r=jV u m):=by
 have hl:=h.oK
 have hgl:=hr.A8
 have c1:=z7 u m hp
 have c2:=zR u m hm
 have c3:=A3 u hr m h
 refine aI B9 rfl ?_
 refine cU ?_
 rw[List.length_map,←hl]
 refine aR (fun i:Nat=>[(1,m.fz u),(4, .pt 1 1 0 0),(9,i64 m.at_.length),(10,i64 i)]) (fun i H n=>i≤m.at_.length∧2≤n∧bd H 1=some (.row 40 3 (fO true [.slice none 0 0, .slice none 0 0, .bool false]) [fO true [.slice none 0 0, .slice none 0 0, .bool false]])∧∀j:Nat,j<i→m.rJ u j≠0) (fun i=>m.at_.length - i) 0 cK ⟨Nat.zero_le _,cZ,bg,fun j hj=>by omega⟩ ?_
 rintro i H n ⟨hi,hn,hx,hall⟩
 by_cases hil:i<m.at_.length
 ·have c0:=AS u hr m h i
  by_cases hb:m.rJ u i=0
  ·have hs:m.stuck u=false:=by
    unfold MS.stuck
    rw[List.all_eq_false]
    exact⟨i,List.mem_range.2 hil,by simpa using hb⟩
   have r0:=decide_eq_true hb
   rw[jV,hs]
   refine cU ?_
   first|exact rfl|trivial
  ·have r0:=decide_eq_false hb
   refine cU ?_
   exact⟨i+1,by omega,cK,by omega,by omega,bg,fun j hj=>by
    by_cases e:j=i
    ·rw[e];exact hb
    ·exact hall j (by omega)⟩
 ·have hs:m.stuck u=true:=by
   unfold MS.stuck
   rw[List.all_eq_true]
   intro j hj
   exact decide_eq_true (hall j (by have:=List.mem_range.1 hj;omega))
  rw[jV,hs]
  refine cU ?_
  first|exact rfl|trivial
end Go.Proofs.YtekfmjjmihomlaaGreat
end
section
/- The machine in rows: Copy. -/
namespace Go.Proofs.YtekfmjjmihomlaaGreat
open Go Go.cN Go.Proofs
set_option linter.unusedSimpArgs false
set_option linter.unusedVariables false
def df (ids:List Nat) (l:List (List Int)):List AV:=(ids.zip l).map fun p=> .sl p.1 p.2.length
def MS.rows (u:bf) (m:MS) (a s me ho pr:Nat):AV:= .agg [cV u.shared,cV u.bx,dQ u.bj, .sl a m.at_.length, .sl s m.bh.length, .sl me m.mem.length, .sl ho m.hold.length, .sl pr m.bo.length]
structure JV (u:bf) (m:MS) (mr a s me ho pr:Nat) (ids:List Nat) (H:Hp):Prop where
 rM:∃d,bd H mr=some (.row 100 8 d [m.rows u a s me ho pr])
 rA:∃d,bd H a=some (.row 3 1 d (m.at_.map i64))
 rS:∃d,bd H s=some (.row 38 1 d (df ids m.bh))
 rL:∀t,t<m.bh.length→∃d,bd H (ids.getD t 0)=some (.row 2 1 d ((m.bh.getD t []).map i64))
 rE:∃d,bd H me=some (.row 2 1 d (m.mem.map i64))
 rH:∃d,bd H ho=some (.row 3 1 d (m.hold.map i64))
 rP:∃d,bd H pr=some (.row 89 2 d (m.bo.map cY.av))
 len:ids.length=m.bh.length
 nodup:(mr::a::s::me::ho::pr::ids).Nodup
theorem qg {ids:List Nat} {l:List (List Int)} (h:ids.length=l.length) (i:Nat) (x:List Int):df (ids++[i]) (l++[x])=df ids l++[.sl i x.length]:=by
 unfold df
 rw[List.zip_append h]
 simp
theorem copied (es:List AV) (z:AV):List.take (es.length.min (es.length:Int).toNat) es++List.drop (es.length.min (es.length:Int).toNat) (List.replicate (es.length:Int).toNat z)=es:=by
 rw[Int.toNat_natCast,show es.length.min es.length=es.length from Nat.min_self _]
 simp
set_option maxHeartbeats 4000000 in
theorem vY (u:bf) (m:MS) (h1:m.at_.length≤4096) (h2:m.mem.length≤4096) (h3:m.hold.length≤4096) (h4:m.bo.length≤1048576) (h5:m.bh.length≤4096) (h6:∀l∈m.bh,l.length≤1048576) (H0:Hp) (nx:Nat):cC Tryz.prog 65 [m.fz u] H0 nx (fun r H n=>∃mr a s me ho pr ids,r= .pt mr 1 0 0∧JV u m mr a s me ho pr ids H∧(∀x∈mr::a::s::me::ho::pr::ids,nx≤x∧x<n)∧nx≤n∧∀y,y<nx→bd H y=bd H0 y):=by
 refine aQ CP rfl ?_
 refine cU ?_
 simp only[copied]
 simp only[List.length_map,Int.toNat_natCast]
 refine aU (fun σ:Nat×List Nat=>[(0,m.fz u),(3, .pt (nx+32) 1 0 0),(78,yN m.bh),(79,i64 m.bh.length),(80,i64 σ.1)])
  (fun σ H n=>σ.1≤m.bh.length∧nx+77≤n∧σ.2.length=σ.1∧σ.2.Nodup∧(∀x∈σ.2,nx+77≤x∧x<n)∧(∃d,bd H (nx+32)=some (.row 100 8 d [.agg [cV u.shared,cV u.bx,dQ u.bj, .sl (nx+12) m.at_.length, .sl (nx+76) σ.1, .sl (nx+18) m.mem.length, .sl (nx+24) m.hold.length, .sl (nx+30) m.bo.length]]))∧(∃d,bd H (nx+12)=some (.row 3 1 d (m.at_.map i64)))∧(∃d,bd H (nx+18)=some (.row 2 1 d (m.mem.map i64)))∧(∃d,bd H (nx+24)=some (.row 3 1 d (m.hold.map i64)))∧(∃d,bd H (nx+30)=some (.row 89 2 d (m.bo.map cY.av)))∧(∃d,bd H (nx+76)=some (.row 38 1 d (df σ.2 (m.bh.take σ.1))))∧(∀t,t<σ.1→∃d,bd H (σ.2.getD t 0)=some (.row 2 1 d ((m.bh.getD t []).map i64)))∧∀y,y<nx→bd H y=bd H0 y) (fun σ=>m.bh.length - σ.1) (0,[])
  ⟨_,_,_,Rt.wk (Wk.ly (b:=nx+32) (e:=38) (sz:=1) (by simp only[List.length_cons,List.length_nil];omega) (by omega) (te:=100) (tz:=8) (cs:=[cV u.shared,cV u.bx,dQ u.bj, .sl (nx+12) m.at_.length, .sc (.slice none 0 0), .sl (nx+18) m.mem.length, .sl (nx+24) m.hold.length, .sl (nx+30) m.bo.length]) (j:=4) bg (by show 4<8;omega) rfl),cK,Nat.zero_le _,cZ,rfl,List.nodup_nil,fun x hx=>by simp at hx,⟨_,bg⟩,⟨_,bg⟩,⟨_,bg⟩,⟨_,bg⟩,⟨_,bg⟩,⟨_,bg⟩,fun t ht=>absurd ht (Nat.not_lt_zero _),fun y hy=>br⟩ ?_
 rintro⟨t,ids⟩ H n ⟨ht,hn,hil,hnd,hin,⟨d0,r0⟩,⟨d1,r1⟩,⟨d2,r2⟩,⟨d3,r3⟩,⟨d4,r4⟩,⟨d5,r5⟩,hls,hkp⟩
 dsimp only at ht hil hnd hin r0 r5 hls ⊢
 have htk:(m.bh.take t).length=t:=by rw[List.length_take];omega
 have hrl:(df ids (m.bh.take t)).length=t:=by unfold df;rw[List.length_map,List.length_zip,htk,hil];omega
 by_cases htl:t<m.bh.length
 ·have e0:∀d,(m.bh.map cu).getD ((t:Int)).toNat d=cu (m.bh.getD t []):=fun d=>by rw[Int.toNat_natCast];exact dJ cu m.bh t d htl
  have a0:(m.bh.map cu).length=m.bh.length:=by simp
  have hnx:df (ids++[n+6]) (m.bh.take (t+1))=df ids (m.bh.take t)++[.sl (n+6) (m.bh.getD t []).length]:=by
   rw[List.take_succ_eq_append_getElem htl,qg (by rw[hil,htk]),show m.bh.getD t []=m.bh[t] by simp[List.getD,htl]]
  have h7:=h6 _ (cW (l:=m.bh) [] htl)
  refine cU ?_
  simp only[copied]
  simp only[List.length_map,Int.toNat_natCast]
  refine⟨(t+1,ids++[n+6]),by dsimp only;omega,_,_,_,Rt.refl _ _ _,cK,by dsimp only;omega,by omega,by simp[hil], ?_, ?_,⟨_,bg⟩,⟨_,bg⟩,⟨_,bg⟩,⟨_,bg⟩,⟨_,bg⟩,⟨_,by dsimp only;rw[hnx];exact bg⟩, ?_,fun y hy=>Eq.trans br (hkp y hy)⟩
  ·refine List.nodup_append.2 ⟨hnd,by simp,fun a ha b hb=> ?_⟩
   simp only[List.mem_cons,List.not_mem_nil,or_false] at hb
   have:=hin _ ha;omega
  ·intro x hx
   rcases List.mem_append.1 hx with hx|hx
   ·have:=hin _ hx;exact⟨this.1,Nat.lt_of_lt_of_le this.2 cZ⟩
   ·simp only[List.mem_cons,List.not_mem_nil,or_false] at hx
    subst hx;exact⟨by omega,cZ⟩
  ·intro q hq
   have hq:q<t+1:=hq
   by_cases e:q=t
   ·subst e
    have e2:(ids++[n+6]).getD q 0=n+6:=by rw[List.getD,List.getElem?_append_right (by omega),hil,Nat.sub_self];rfl
    dsimp only
    rw[e2];exact⟨_,bg⟩
   ·obtain⟨d,hd⟩:=hls q (by omega)
    have e2:(ids++[n+6]).getD q 0=ids.getD q 0:=by simp[List.getD,List.getElem?_append,show q<ids.length by omega]
    have:=hin _ (eL (l:=ids) (q:=q) (by omega))
    dsimp only
    rw[e2];exact⟨d,Eq.trans br hd⟩
 ·have:t=m.bh.length:=by omega
  subst this
  rw[List.take_length] at r5
  refine cU ?_
  refine⟨⟨nx+32,nx+12,nx+76,nx+18,nx+24,nx+30,ids,rfl,⟨⟨_,bg⟩,⟨_,bg⟩,⟨_,bg⟩,fun t ht=> ?_,⟨_,bg⟩,⟨_,bg⟩,⟨_,bg⟩,hil, ?_⟩, ?_,cZ,fun y hy=>Eq.trans br (hkp y hy)⟩⟩
  ·obtain⟨d,hd⟩:=hls t ht
   have:=hin _ (eL (l:=ids) (q:=t) (by omega))
   exact⟨d,Eq.trans br hd⟩
  ·have hno:∀k,k<nx+77→k∉ids:=fun k hk h=>by have:=hin _ h;omega
   simp only[List.nodup_cons,List.mem_cons,not_or]
   exact⟨⟨by omega,by omega,by omega,by omega,by omega,hno _ (by omega)⟩,⟨by omega,by omega,by omega,by omega,hno _ (by omega)⟩,⟨by omega,by omega,by omega,hno _ (by omega)⟩,⟨by omega,by omega,hno _ (by omega)⟩,⟨by omega,hno _ (by omega)⟩,hno _ (by omega),hnd⟩
  ·intro x hx
   simp only[List.mem_cons] at hx
   rcases hx with rfl|rfl|rfl|rfl|rfl|rfl|hx
   all_goals first
    |exact⟨by omega,by omega⟩
    |(have:=hin _ hx;exact⟨by omega,by omega⟩)
end Go.Proofs.YtekfmjjmihomlaaGreat
end
section
/- The machine in rows, frozen. -/
namespace Go.Proofs.YtekfmjjmihomlaaGreat
open Go Go.cN Go.Proofs
set_option linter.unusedSimpArgs false
set_option linter.unusedVariables false
theorem rZ {H:Hp} {k:Nat} {cs:List AV}:cN.dM H (k+1) (.agg cs)= .agg (cs.map (cN.dM H k)):=by simp only[dM]
theorem JV.dM {u:bf} {m:MS} {mr a s me ho pr:Nat} {ids:List Nat} {H:Hp} (h:JV u m mr a s me ho pr ids H) (k:Nat):cN.dM H (k+5) (.pt mr 1 0 0)=m.fz u:=by
 obtain⟨d1,h1⟩:=h.rM
 obtain⟨d2,h2⟩:=h.rA
 obtain⟨d3,h3⟩:=h.rS
 obtain⟨d4,h4⟩:=h.rE
 obtain⟨d5,h5⟩:=h.rH
 obtain⟨d6,h6⟩:=h.rP
 have hsl:(df ids m.bh).length=m.bh.length:=by unfold df;rw[List.length_map,List.length_zip,h.len];simp
 have hs:(df ids m.bh).map (cN.dM H (k+2))=m.bh.map cu:=by
  apply List.ext_getElem (by simp[hsl])
  intro t q1 q2
  have ht:t<m.bh.length:=by simpa using q2
  have hti:t<ids.length:=by rw[h.len];exact ht
  obtain⟨d,hd⟩:=h.rL t ht
  rw[show ids.getD t 0=ids[t] by simp[List.getD,hti],show m.bh.getD t []=m.bh[t] by simp[List.getD,ht]] at hd
  rw[List.getElem_map,List.getElem_map]
  simp only[df,List.getElem_map,List.getElem_zip]
  rw[dw hd (by simp),dF _ ((cB _ _).2 fun _ _=>by simp[cA])]
 simp only[cN.dM,h1]
 simp only[List.length_cons,List.length_nil,if_true,List.map_cons,List.map_nil,MS.rows]
 rw[rZ]
 simp only[List.map_cons,List.map_nil]
 rw[dw h2 (by simp),dw h3 hsl,dw h4 (by simp),dw h5 (by simp),dw h6 (by simp),hs]
 rw[dF _ ((cB _ _).2 fun _ _=>by simp[cA]),dF _ ((cB _ _).2 fun _ _=>by simp[cA]),dF _ ((cB _ _).2 fun _ _=>by simp[cA]),dF _ ((cB _ _).2 fun _ _=>by simp[cA])]
 rw[dW _ (show cA 0 (cV u.shared) by simp[cA,cB]),dW _ (show cA 0 (cV u.bx) by simp[cA,cB]),dW _ (show cA 0 (dQ u.bj) by simp[cA,cB])]
 rfl
end Go.Proofs.YtekfmjjmihomlaaGreat
end
section
/- The machine that has done nothing. -/
namespace Go.Proofs.YtekfmjjmihomlaaGreat
open Go Go.cN Go.Proofs
set_option linter.unusedSimpArgs false
set_option linter.unusedVariables false
def dX (u:bf):MS:=⟨u.bj.map fun _=>0,u.bj.map fun g=>List.replicate g.bh.toNat 0,u.shared.map Decl.word,u.bx.map fun _=>-1,[]⟩
theorem GD (u:bf) (hr:ch u) (hw:∀d∈u.shared,dh d.word) (hn:∀t,t<u.bj.length→0<(u.gr t).nodes.length):eK u (dX u) where
 oK:=by simp[dX]
 fx:=fun t ht=>by
  have e:(dX u).at_.getD t 0=0:=by simp[dX,List.getD,ht]
  rw[e]
  exact⟨Int.le_refl _,by have:=hn t ht;omega⟩
 sl:=by simp[dX]
 wc:=fun t ht=>by
  have e:(dX u).bh.getD t []=List.replicate (u.gr t).bh.toNat 0:=by simp[dX,List.getD,bf.gr,ht]
  rw[e,List.length_replicate]
 we:=fun t ht w hw=>by
  have e:(dX u).bh.getD t []=List.replicate (u.gr t).bh.toNat 0:=by simp[dX,List.getD,bf.gr,ht]
  rw[e] at hw
  rw[List.eq_of_mem_replicate hw]
  exact⟨by omega,by omega⟩
 ml:=by simp[dX]
 mw:=fun w h=>by
  obtain⟨d,hd,rfl⟩:=List.mem_map.1 h
  exact hw d hd
 hl:=by simp[dX]
 hw:=fun w h=>by
  obtain⟨d,hd,rfl⟩:=List.mem_map.1 h
  exact⟨by omega,by omega⟩
 pw:=fun p h=>by simp[dX] at h
end Go.Proofs.YtekfmjjmihomlaaGreat
end
section
/- Operators. -/
namespace Go.Proofs.YtekfmjjmihomlaaGreat
open Go Go.cN Go.Proofs
set_option linter.unusedSimpArgs false
set_option linter.unusedVariables false
set_option maxHeartbeats 1000000
abbrev sN (n:Int):Int:=IntKind.i64.wrap n
def z8 (a b:Int):Int:=if b=0 then 0 else if b=-1 then sN (0 - a) else sN (a.tdiv b)
def DH (a b:Int):Int:=if b=0 then a else sN (a - sN (z8 a b * b))
def KA (a b:Int):Int:=sN ((BitVec.ofInt 64 a&&& BitVec.ofInt 64 b).toNat:Int)
def MW (a b:Int):Int:=sN ((BitVec.ofInt 64 a|||BitVec.ofInt 64 b).toNat:Int)
def LH (a b:Int):Int:=sN ((BitVec.ofInt 64 a^^^BitVec.ofInt 64 b).toNat:Int)
def AY (b:Int):Int:=IntKind.u64.wrap ((BitVec.ofInt 64 (IntKind.u64.wrap b)&&& BitVec.ofInt 64 63).toNat:Int)
def K1 (a b:Int):Int:=sN (a * 2^(min (AY b).toNat 64))
def GU (a b:Int):Int:=a.fdiv (2^(min (AY b).toNat 64))
def tr (t:Bool):Int:=if t=true then 1 else 0
theorem cQ (t:Bool):Pure Tryz.prog 173 [bl t] (fun r=>r=i64 (tr t)):=by
 refine aI uM rfl ?_
 repeat' (first|((with_reducible refine aF ?_);conv=>whnf)|refine aG ?_|exact aC|with_reducible refine aD ?_ ?_|(apply aA;(·exact cI))|refine aH ?_|((with_reducible refine aB ?_ ?_)<;>intro hc<;>(try simp only[List.length_map,ne_eq,dZ] at hc)<;>try(exfalso;omega)))
 all_goals simp_all[tr]
theorem lW (a b:Int):Pure Tryz.prog 155 [i64 a,i64 b] (fun r=>r=i64 (sN (a+b))):=by
 refine aI tn rfl ?_
 repeat' (first|((with_reducible refine aF ?_);conv=>whnf)|refine aG ?_|exact aC|with_reducible refine aD ?_ ?_|(apply aA;(·exact cI))|refine aH ?_|((with_reducible refine aB ?_ ?_)<;>intro hc<;>(try simp only[List.length_map,ne_eq,dZ] at hc)<;>try(exfalso;omega)))
 all_goals exact rfl
theorem mN (a b:Int):Pure Tryz.prog 156 [i64 a,i64 b] (fun r=>r=i64 (sN (a - b))):=by
 refine aI tq rfl ?_
 repeat' (first|((with_reducible refine aF ?_);conv=>whnf)|refine aG ?_|exact aC|with_reducible refine aD ?_ ?_|(apply aA;(·exact cI))|refine aH ?_|((with_reducible refine aB ?_ ?_)<;>intro hc<;>(try simp only[List.length_map,ne_eq,dZ] at hc)<;>try(exfalso;omega)))
 all_goals exact rfl
theorem lu (a b:Int):Pure Tryz.prog 157 [i64 a,i64 b] (fun r=>r=i64 (sN (a * b))):=by
 refine aI tu rfl ?_
 repeat' (first|((with_reducible refine aF ?_);conv=>whnf)|refine aG ?_|exact aC|with_reducible refine aD ?_ ?_|(apply aA;(·exact cI))|refine aH ?_|((with_reducible refine aB ?_ ?_)<;>intro hc<;>(try simp only[List.length_map,ne_eq,dZ] at hc)<;>try(exfalso;omega)))
 all_goals exact rfl
theorem fy (a b:Int):Pure Tryz.prog 158 [i64 a,i64 b] (fun r=>r=i64 (z8 a b)):=by
 refine aI tv rfl ?_
 repeat' (first|((with_reducible refine aF ?_);conv=>whnf)|refine aG ?_|exact aC|with_reducible refine aD ?_ ?_|(apply aA;(·exact cI))|refine aH ?_|((with_reducible refine aB ?_ ?_)<;>intro hc<;>(try simp only[List.length_map,ne_eq,dZ] at hc)<;>try(exfalso;omega)))
 all_goals simp_all[z8]
theorem mI (a b:Int):Pure Tryz.prog 159 [i64 a,i64 b] (fun r=>r=i64 (DH a b)):=by
 refine aI tw rfl ?_
 repeat' (first|((with_reducible refine aF ?_);conv=>whnf)|refine aG ?_|exact aC|with_reducible refine aD ?_ ?_|(apply aA;(·exact cI))|((with_reducible refine aO (fy _ _) ?_ ?_);(·exact bn))|((with_reducible refine aN (fun _=>fy _ _) ?_ ?_);(·exact bn))|((with_reducible refine aL (fy _ _) ?_ ?_);(·exact bn))|((with_reducible refine aM (fun _=>fy _ _) ?_ ?_);(·exact bn))|refine aH ?_|((with_reducible refine aB ?_ ?_)<;>intro hc<;>(try simp only[List.length_map,ne_eq,dZ] at hc)<;>try(exfalso;omega)))
 all_goals simp_all[DH]
theorem lZ (a b:Int):Pure Tryz.prog 160 [i64 a,i64 b] (fun r=>r=i64 (KA a b)):=by
 refine aI tx rfl ?_
 repeat' (first|((with_reducible refine aF ?_);conv=>whnf)|refine aG ?_|exact aC|with_reducible refine aD ?_ ?_|(apply aA;(·exact cI))|refine aH ?_|((with_reducible refine aB ?_ ?_)<;>intro hc<;>(try simp only[List.length_map,ne_eq,dZ] at hc)<;>try(exfalso;omega)))
 all_goals exact rfl
theorem mD (a b:Int):Pure Tryz.prog 161 [i64 a,i64 b] (fun r=>r=i64 (MW a b)):=by
 refine aI uA rfl ?_
 repeat' (first|((with_reducible refine aF ?_);conv=>whnf)|refine aG ?_|exact aC|with_reducible refine aD ?_ ?_|(apply aA;(·exact cI))|refine aH ?_|((with_reducible refine aB ?_ ?_)<;>intro hc<;>(try simp only[List.length_map,ne_eq,dZ] at hc)<;>try(exfalso;omega)))
 all_goals exact rfl
theorem mP (a b:Int):Pure Tryz.prog 162 [i64 a,i64 b] (fun r=>r=i64 (LH a b)):=by
 refine aI uB rfl ?_
 repeat' (first|((with_reducible refine aF ?_);conv=>whnf)|refine aG ?_|exact aC|with_reducible refine aD ?_ ?_|(apply aA;(·exact cI))|refine aH ?_|((with_reducible refine aB ?_ ?_)<;>intro hc<;>(try simp only[List.length_map,ne_eq,dZ] at hc)<;>try(exfalso;omega)))
 all_goals exact rfl
theorem mK (a b:Int):Pure Tryz.prog 163 [i64 a,i64 b] (fun r=>r=i64 (K1 a b)):=by
 refine aI uC rfl ?_
 repeat' (first|((with_reducible refine aF ?_);conv=>whnf)|refine aG ?_|exact aC|with_reducible refine aD ?_ ?_|(apply aA;(·exact cI))|refine aH ?_|((with_reducible refine aB ?_ ?_)<;>intro hc<;>(try simp only[List.length_map,ne_eq,dZ] at hc)<;>try(exfalso;omega)))
 all_goals exact rfl
theorem mL (a b:Int):Pure Tryz.prog 164 [i64 a,i64 b] (fun r=>r=i64 (GU a b)):=by
 refine aI uD rfl ?_
 repeat' (first|((with_reducible refine aF ?_);conv=>whnf)|refine aG ?_|exact aC|with_reducible refine aD ?_ ?_|(apply aA;(·exact cI))|refine aH ?_|((with_reducible refine aB ?_ ?_)<;>intro hc<;>(try simp only[List.length_map,ne_eq,dZ] at hc)<;>try(exfalso;omega)))
 all_goals exact rfl
theorem nn (a b:Int):Pure Tryz.prog 165 [i64 a,i64 b] (fun r=>r=i64 (tr (decide (a=b)))):=by
 refine aI uE rfl ?_
 repeat' (first|((with_reducible refine aF ?_);conv=>whnf)|refine aG ?_|exact aC|with_reducible refine aD ?_ ?_|(apply aA;(·exact cI))|((with_reducible refine aO (cQ _) ?_ ?_);(·exact bn))|((with_reducible refine aN (fun _=>cQ _) ?_ ?_);(·exact bn))|((with_reducible refine aL (cQ _) ?_ ?_);(·exact bn))|((with_reducible refine aM (fun _=>cQ _) ?_ ?_);(·exact bn))|refine aH ?_|((with_reducible refine aB ?_ ?_)<;>intro hc<;>(try simp only[List.length_map,ne_eq,dZ] at hc)<;>try(exfalso;omega)))
 all_goals exact rfl
theorem jO (a b:Int):Pure Tryz.prog 166 [i64 a,i64 b] (fun r=>r=i64 (tr (decide (a≠b)))):=by
 refine aI uF rfl ?_
 repeat' (first|((with_reducible refine aF ?_);conv=>whnf)|refine aG ?_|exact aC|with_reducible refine aD ?_ ?_|(apply aA;(·exact cI))|((with_reducible refine aO (cQ _) ?_ ?_);(·exact bn))|((with_reducible refine aN (fun _=>cQ _) ?_ ?_);(·exact bn))|((with_reducible refine aL (cQ _) ?_ ?_);(·exact bn))|((with_reducible refine aM (fun _=>cQ _) ?_ ?_);(·exact bn))|refine aH ?_|((with_reducible refine aB ?_ ?_)<;>intro hc<;>(try simp only[List.length_map,ne_eq,dZ] at hc)<;>try(exfalso;omega)))
 all_goals exact rfl
theorem kL (a b:Int):Pure Tryz.prog 167 [i64 a,i64 b] (fun r=>r=i64 (tr (decide (a<b)))):=by
 refine aI uG rfl ?_
 repeat' (first|((with_reducible refine aF ?_);conv=>whnf)|refine aG ?_|exact aC|with_reducible refine aD ?_ ?_|(apply aA;(·exact cI))|((with_reducible refine aO (cQ _) ?_ ?_);(·exact bn))|((with_reducible refine aN (fun _=>cQ _) ?_ ?_);(·exact bn))|((with_reducible refine aL (cQ _) ?_ ?_);(·exact bn))|((with_reducible refine aM (fun _=>cQ _) ?_ ?_);(·exact bn))|refine aH ?_|((with_reducible refine aB ?_ ?_)<;>intro hc<;>(try simp only[List.length_map,ne_eq,dZ] at hc)<;>try(exfalso;omega)))
 all_goals exact rfl
theorem kN (a b:Int):Pure Tryz.prog 168 [i64 a,i64 b] (fun r=>r=i64 (tr (decide (a≤b)))):=by
 refine aI uH rfl ?_
 repeat' (first|((with_reducible refine aF ?_);conv=>whnf)|refine aG ?_|exact aC|with_reducible refine aD ?_ ?_|(apply aA;(·exact cI))|((with_reducible refine aO (cQ _) ?_ ?_);(·exact bn))|((with_reducible refine aN (fun _=>cQ _) ?_ ?_);(·exact bn))|((with_reducible refine aL (cQ _) ?_ ?_);(·exact bn))|((with_reducible refine aM (fun _=>cQ _) ?_ ?_);(·exact bn))|refine aH ?_|((with_reducible refine aB ?_ ?_)<;>intro hc<;>(try simp only[List.length_map,ne_eq,dZ] at hc)<;>try(exfalso;omega)))
 all_goals exact rfl
theorem jG (a b:Int):Pure Tryz.prog 169 [i64 a,i64 b] (fun r=>r=i64 (tr (decide (b<a)))):=by
 refine aI uI rfl ?_
 repeat' (first|((with_reducible refine aF ?_);conv=>whnf)|refine aG ?_|exact aC|with_reducible refine aD ?_ ?_|(apply aA;(·exact cI))|((with_reducible refine aO (cQ _) ?_ ?_);(·exact bn))|((with_reducible refine aN (fun _=>cQ _) ?_ ?_);(·exact bn))|((with_reducible refine aL (cQ _) ?_ ?_);(·exact bn))|((with_reducible refine aM (fun _=>cQ _) ?_ ?_);(·exact bn))|refine aH ?_|((with_reducible refine aB ?_ ?_)<;>intro hc<;>(try simp only[List.length_map,ne_eq,dZ] at hc)<;>try(exfalso;omega)))
 all_goals exact rfl
theorem jQ (a b:Int):Pure Tryz.prog 170 [i64 a,i64 b] (fun r=>r=i64 (tr (decide (b≤a)))):=by
 refine aI uJ rfl ?_
 repeat' (first|((with_reducible refine aF ?_);conv=>whnf)|refine aG ?_|exact aC|with_reducible refine aD ?_ ?_|(apply aA;(·exact cI))|((with_reducible refine aO (cQ _) ?_ ?_);(·exact bn))|((with_reducible refine aN (fun _=>cQ _) ?_ ?_);(·exact bn))|((with_reducible refine aL (cQ _) ?_ ?_);(·exact bn))|((with_reducible refine aM (fun _=>cQ _) ?_ ?_);(·exact bn))|refine aH ?_|((with_reducible refine aB ?_ ?_)<;>intro hc<;>(try simp only[List.length_map,ne_eq,dZ] at hc)<;>try(exfalso;omega)))
 all_goals exact rfl
theorem jT (a:Int):Pure Tryz.prog 171 [i64 a] (fun r=>r=i64 (sN (0 - a))):=by
 refine aI uK rfl ?_
 repeat' (first|((with_reducible refine aF ?_);conv=>whnf)|refine aG ?_|exact aC|with_reducible refine aD ?_ ?_|(apply aA;(·exact cI))|refine aH ?_|((with_reducible refine aB ?_ ?_)<;>intro hc<;>(try simp only[List.length_map,ne_eq,dZ] at hc)<;>try(exfalso;omega)))
 all_goals exact rfl
theorem mA (a:Int):Pure Tryz.prog 172 [i64 a] (fun r=>r=i64 (tr (decide (a=0)))):=by
 refine aI uL rfl ?_
 repeat' (first|((with_reducible refine aF ?_);conv=>whnf)|refine aG ?_|exact aC|with_reducible refine aD ?_ ?_|(apply aA;(·exact cI))|((with_reducible refine aO (cQ _) ?_ ?_);(·exact bn))|((with_reducible refine aN (fun _=>cQ _) ?_ ?_);(·exact bn))|((with_reducible refine aL (cQ _) ?_ ?_);(·exact bn))|((with_reducible refine aM (fun _=>cQ _) ?_ ?_);(·exact bn))|refine aH ?_|((with_reducible refine aB ?_ ?_)<;>intro hc<;>(try simp only[List.length_map,ne_eq,dZ] at hc)<;>try(exfalso;omega)))
 all_goals exact rfl
def H5:AV:= .agg [.sc .nilFunc, .sc .nilFunc, .fn (.func 155) [] [], .sc .nilFunc, .fn (.func 156) [] [], .sc .nilFunc, .fn (.func 157) [] [], .sc .nilFunc, .fn (.func 158) [] [], .sc .nilFunc, .fn (.func 159) [] [], .sc .nilFunc, .fn (.func 160) [] [], .sc .nilFunc, .fn (.func 161) [] [], .sc .nilFunc, .fn (.func 162) [] [], .sc .nilFunc, .fn (.func 163) [] [], .sc .nilFunc, .fn (.func 164) [] [], .sc .nilFunc, .fn (.func 165) [] [], .sc .nilFunc, .fn (.func 166) [] [], .sc .nilFunc, .fn (.func 167) [] [], .sc .nilFunc, .fn (.func 168) [] [], .sc .nilFunc, .fn (.func 169) [] [], .sc .nilFunc, .fn (.func 170) [] [], .sc .nilFunc, .sc .nilFunc, .fn (.func 171) [] [], .sc .nilFunc, .fn (.func 172) [] []]
theorem js:Pure Tryz.prog 147 [] (fun r=>r=H5):=kT (by simp[H5,cA,cM]) (by kernel_rfl)
def HC (op a b:Int):Int:=if op=1 then sN (a+b) else if op=2 then sN (a - b) else if op=3 then sN (a * b) else if op=4 then z8 a b else if op=5 then DH a b else if op=6 then KA a b else if op=7 then MW a b else if op=8 then LH a b else if op=9 then K1 a b else if op=10 then GU a b else if op=11 then tr (decide (a=b)) else if op=12 then tr (decide (a≠b)) else if op=13 then tr (decide (a<b)) else if op=14 then tr (decide (a≤b)) else if op=15 then tr (decide (b<a)) else tr (decide (b≤a))
def GI (op a:Int):Int:=if op=17 then sN (0 - a) else tr (decide (a=0))
theorem zq {op:Int} (h:dK op=true):op=1∨op=2∨op=3∨op=4∨op=5∨op=6∨op=7∨op=8∨op=9∨op=10∨op=11∨op=12∨op=13∨op=14∨op=15∨op=16:=by
 simp only[dK,Bool.and_eq_true,decide_eq_true_eq] at h;omega
theorem IA (op a b:Int) (h:dK op=true):Pure Tryz.prog 124 [u8 op,i64 a,i64 b] (fun r=>r= .da [i64 (HC op a b),i64 0]):=by
 refine aI ta rfl ?_
 rcases zq h with rfl|rfl|rfl|rfl|rfl|rfl|rfl|rfl|rfl|rfl|rfl|rfl|rfl|rfl|rfl|rfl
 all_goals repeat' (first|((with_reducible refine aF ?_);conv=>whnf)|refine aG ?_|exact aC|with_reducible refine aD ?_ ?_|(apply aA;(·exact cI))|((with_reducible refine aO (eO _ (by omega)) ?_ ?_);(·exact bn))|((with_reducible refine aN (fun _=>eO _ (by omega)) ?_ ?_);(·exact bn))|((with_reducible refine aL (eO _ (by omega)) ?_ ?_);(·exact bn))|((with_reducible refine aM (fun _=>eO _ (by omega)) ?_ ?_);(·exact bn))|refine aK (js) ?_|((with_reducible refine aO (lW _ _) ?_ ?_);(·exact bn))|((with_reducible refine aN (fun _=>lW _ _) ?_ ?_);(·exact bn))|((with_reducible refine aL (lW _ _) ?_ ?_);(·exact bn))|((with_reducible refine aM (fun _=>lW _ _) ?_ ?_);(·exact bn))|((with_reducible refine aO (mN _ _) ?_ ?_);(·exact bn))|((with_reducible refine aN (fun _=>mN _ _) ?_ ?_);(·exact bn))|((with_reducible refine aL (mN _ _) ?_ ?_);(·exact bn))|((with_reducible refine aM (fun _=>mN _ _) ?_ ?_);(·exact bn))|((with_reducible refine aO (lu _ _) ?_ ?_);(·exact bn))|((with_reducible refine aN (fun _=>lu _ _) ?_ ?_);(·exact bn))|((with_reducible refine aL (lu _ _) ?_ ?_);(·exact bn))|((with_reducible refine aM (fun _=>lu _ _) ?_ ?_);(·exact bn))|((with_reducible refine aO (fy _ _) ?_ ?_);(·exact bn))|((with_reducible refine aN (fun _=>fy _ _) ?_ ?_);(·exact bn))|((with_reducible refine aL (fy _ _) ?_ ?_);(·exact bn))|((with_reducible refine aM (fun _=>fy _ _) ?_ ?_);(·exact bn))|((with_reducible refine aO (mI _ _) ?_ ?_);(·exact bn))|((with_reducible refine aN (fun _=>mI _ _) ?_ ?_);(·exact bn))|((with_reducible refine aL (mI _ _) ?_ ?_);(·exact bn))|((with_reducible refine aM (fun _=>mI _ _) ?_ ?_);(·exact bn))|((with_reducible refine aO (lZ _ _) ?_ ?_);(·exact bn))|((with_reducible refine aN (fun _=>lZ _ _) ?_ ?_);(·exact bn))|((with_reducible refine aL (lZ _ _) ?_ ?_);(·exact bn))|((with_reducible refine aM (fun _=>lZ _ _) ?_ ?_);(·exact bn))|((with_reducible refine aO (mD _ _) ?_ ?_);(·exact bn))|((with_reducible refine aN (fun _=>mD _ _) ?_ ?_);(·exact bn))|((with_reducible refine aL (mD _ _) ?_ ?_);(·exact bn))|((with_reducible refine aM (fun _=>mD _ _) ?_ ?_);(·exact bn))|((with_reducible refine aO (mP _ _) ?_ ?_);(·exact bn))|((with_reducible refine aN (fun _=>mP _ _) ?_ ?_);(·exact bn))|((with_reducible refine aL (mP _ _) ?_ ?_);(·exact bn))|((with_reducible refine aM (fun _=>mP _ _) ?_ ?_);(·exact bn))|((with_reducible refine aO (mK _ _) ?_ ?_);(·exact bn))|((with_reducible refine aN (fun _=>mK _ _) ?_ ?_);(·exact bn))|((with_reducible refine aL (mK _ _) ?_ ?_);(·exact bn))|((with_reducible refine aM (fun _=>mK _ _) ?_ ?_);(·exact bn))|((with_reducible refine aO (mL _ _) ?_ ?_);(·exact bn))|((with_reducible refine aN (fun _=>mL _ _) ?_ ?_);(·exact bn))|((with_reducible refine aL (mL _ _) ?_ ?_);(·exact bn))|((with_reducible refine aM (fun _=>mL _ _) ?_ ?_);(·exact bn))|((with_reducible refine aO (nn _ _) ?_ ?_);(·exact bn))|((with_reducible refine aN (fun _=>nn _ _) ?_ ?_);(·exact bn))|((with_reducible refine aL (nn _ _) ?_ ?_);(·exact bn))|((with_reducible refine aM (fun _=>nn _ _) ?_ ?_);(·exact bn))|((with_reducible refine aO (jO _ _) ?_ ?_);(·exact bn))|((with_reducible refine aN (fun _=>jO _ _) ?_ ?_);(·exact bn))|((with_reducible refine aL (jO _ _) ?_ ?_);(·exact bn))|((with_reducible refine aM (fun _=>jO _ _) ?_ ?_);(·exact bn))|((with_reducible refine aO (kL _ _) ?_ ?_);(·exact bn))|((with_reducible refine aN (fun _=>kL _ _) ?_ ?_);(·exact bn))|((with_reducible refine aL (kL _ _) ?_ ?_);(·exact bn))|((with_reducible refine aM (fun _=>kL _ _) ?_ ?_);(·exact bn))|((with_reducible refine aO (kN _ _) ?_ ?_);(·exact bn))|((with_reducible refine aN (fun _=>kN _ _) ?_ ?_);(·exact bn))|((with_reducible refine aL (kN _ _) ?_ ?_);(·exact bn))|((with_reducible refine aM (fun _=>kN _ _) ?_ ?_);(·exact bn))|((with_reducible refine aO (jG _ _) ?_ ?_);(·exact bn))|((with_reducible refine aN (fun _=>jG _ _) ?_ ?_);(·exact bn))|((with_reducible refine aL (jG _ _) ?_ ?_);(·exact bn))|((with_reducible refine aM (fun _=>jG _ _) ?_ ?_);(·exact bn))|((with_reducible refine aO (jQ _ _) ?_ ?_);(·exact bn))|((with_reducible refine aN (fun _=>jQ _ _) ?_ ?_);(·exact bn))|((with_reducible refine aL (jQ _ _) ?_ ?_);(·exact bn))|((with_reducible refine aM (fun _=>jQ _ _) ?_ ?_);(·exact bn))|refine aH ?_|((with_reducible refine aB ?_ ?_)<;>intro hc<;>(try simp only[List.length_map,ne_eq,dZ] at hc)<;>try(exfalso;omega)))
 all_goals (first|exact rfl|trace_state)
theorem EA (op a:Int) (h:op=17∨op=18):Pure Tryz.prog 125 [u8 op,i64 a] (fun r=>r= .da [i64 (GI op a),i64 0]):=by
 refine aI tc rfl ?_
 rcases h with rfl|rfl
 all_goals repeat' (first|((with_reducible refine aF ?_);conv=>whnf)|refine aG ?_|exact aC|with_reducible refine aD ?_ ?_|(apply aA;(·exact cI))|((with_reducible refine aO (ec _) ?_ ?_);(·exact bn))|((with_reducible refine aN (fun _=>ec _) ?_ ?_);(·exact bn))|((with_reducible refine aL (ec _) ?_ ?_);(·exact bn))|((with_reducible refine aM (fun _=>ec _) ?_ ?_);(·exact bn))|((with_reducible refine aO (eO _ (by omega)) ?_ ?_);(·exact bn))|((with_reducible refine aN (fun _=>eO _ (by omega)) ?_ ?_);(·exact bn))|((with_reducible refine aL (eO _ (by omega)) ?_ ?_);(·exact bn))|((with_reducible refine aM (fun _=>eO _ (by omega)) ?_ ?_);(·exact bn))|refine aK (js) ?_|((with_reducible refine aO (jT _) ?_ ?_);(·exact bn))|((with_reducible refine aN (fun _=>jT _) ?_ ?_);(·exact bn))|((with_reducible refine aL (jT _) ?_ ?_);(·exact bn))|((with_reducible refine aM (fun _=>jT _) ?_ ?_);(·exact bn))|((with_reducible refine aO (mA _) ?_ ?_);(·exact bn))|((with_reducible refine aN (fun _=>mA _) ?_ ?_);(·exact bn))|((with_reducible refine aL (mA _) ?_ ?_);(·exact bn))|((with_reducible refine aM (fun _=>mA _) ?_ ?_);(·exact bn))|refine aH ?_|((with_reducible refine aB ?_ ?_)<;>intro hc<;>(try simp only[List.length_map,ne_eq,dZ] at hc)<;>try(exfalso;omega)))
 all_goals (first|exact rfl|trace_state)
end Go.Proofs.YtekfmjjmihomlaaGreat
end
section
/- A step in plain data. -/
namespace Go.Proofs.YtekfmjjmihomlaaGreat
open Go Go.cN Go.Proofs
set_option linter.unusedSimpArgs false
set_option linter.unusedVariables false
structure fW where
 cT:Int
 node:Int
 kind:Int
 cH:Int
 word:Int
 put:Int
 deriving Inhabited,DecidableEq
def fW.cells (d:fW):List AV:=[i64 d.cT,i64 d.node,u8 d.kind,i64 d.cH,i64 d.word,i64 d.put]
abbrev fW.av (d:fW):AV:= .agg d.cells
def MS.val (m:MS) (t:Nat) (v:j4):Int:=if v.gm then(m.bh.getD t []).getD v.slot.toNat 0 else v.word
def MS.fR (m:MS) (t:Nat) (k:Int) (w:Int):MS:={ m with bh:=m.bh.set t ((m.bh.getD t []).set k.toNat w) }
def MS.w8 (m:MS) (t:Nat) (n:Node):Int:=if dK n.op then HC n.op (m.val t n.a) (m.val t n.b) else if n.op≠0 then GI n.op (m.val t n.a) else m.val t n.a
def MS.act (m:MS) (t:Nat) (n:Node):MS×Int×Int×Int×Int:=
 if n.kind=1 then(m.fR t n.slot (m.w8 t n),n.next,0,m.w8 t n,0)
 else if n.kind=2 then(m.fR t n.slot (m.mem.getD n.cH.toNat 0),n.next,n.cH,m.mem.getD n.cH.toNat 0,0)
 else if n.kind=3 then({ m with mem:=m.mem.set n.cH.toNat (m.val t n.a) },n.next,n.cH,m.val t n.a,0)
 else if n.kind=4 then({ m.fR t n.slot (m.mem.getD n.cH.toNat 0) with mem:=m.mem.set n.cH.toNat (m.val t n.a) },n.next,n.cH,m.mem.getD n.cH.toNat 0,m.val t n.a)
 else if n.kind=5 then({ m with hold:=m.hold.set n.cH.toNat t },n.next,n.cH,0,0)
 else if n.kind=6 then({ m with hold:=m.hold.set n.cH.toNat (-1) },n.next,n.cH,0,0)
 else if n.kind=7 then({ m with bo:=m.bo++[⟨t,m.val t n.a⟩] },n.next,0,m.val t n.a,0)
 else(m,if m.val t n.a=0 then n.oX else n.next,0,m.val t n.a,0)
def MS.step (u:bf) (m:MS) (t:Nat):MS×fW:=
 let n:=m.node u t
 let r:=m.act t n
 ({ r.1 with at_:=m.at_.set t r.2.1 },⟨t,m.at_.getD t 0,n.kind,r.2.2.1,r.2.2.2.1,r.2.2.2.2⟩)
end Go.Proofs.YtekfmjjmihomlaaGreat
end
