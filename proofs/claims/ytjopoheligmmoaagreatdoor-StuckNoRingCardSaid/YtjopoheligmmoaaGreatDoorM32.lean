import Derived.Test.YtjopoheligmmoaaGreatDoorM28
import Derived.Test.YtjopoheligmmoaaGreatDoorM29
import Derived.Test.YtjopoheligmmoaaGreatDoorM30
import Derived.Test.YtjopoheligmmoaaGreatDoorM31
section
/- The source machine in plain data. -/
namespace Go.Proofs.YtjopoheligmmoaaGreatDoor
open Go Go.cY Go.Proofs
set_option linter.unusedSimpArgs false
set_option linter.unusedVariables false
structure dS where
 da:Int
 word:Int
 deriving Inhabited,DecidableEq
def dS.cells (p:dS):List AV:=[i64 p.da,i64 p.word]
abbrev dS.av (p:dS):AV:= .agg p.cells
structure MS where
 at_:List Int
 bx:List (List Int)
 mem:List Int
 hold:List Int
 cN:List dS
 deriving Inhabited,DecidableEq
abbrev cQ (l:List Int):AV:= .im 1 .any (l.map i64)
abbrev G5 (l:List (List Int)):AV:= .im 1 .any (l.map cQ)
abbrev fm (l:List dS):AV:= .im 2 .any (l.map dS.av)
def MS.cells (u:bu) (m:MS):List AV:=[cq u.shared,cq u.cD,dc u.bt,cQ m.at_,G5 m.bx,cQ m.mem,cQ m.hold,fm m.cN]
abbrev MS.fz (u:bu) (m:MS):AV:= .ip 8 .any [.agg (m.cells u)] 0 0
@[simp] theorem W3 (n:Nat) (p:dS):cX n p.cells:=by simp[dS.cells,cX,cI]
@[simp] theorem ZN (n:Nat) (u:bu) (m:MS):cX n (m.cells u):=by simp[MS.cells,cX,cI,cB]
theorem nZ (n:Nat) (u:bu) (m:MS):cI n (m.fz u):=by simp[cI,cX]
structure eI (u:bu) (m:MS):Prop where
 pV:m.at_.length=u.bt.length
 gK:∀t,t<u.bt.length→0≤m.at_.getD t 0∧m.at_.getD t 0<(u.gr t).nodes.length
 sl:m.bx.length=u.bt.length
 DP:∀t,t<u.bt.length→(m.bx.getD t []).length=(u.gr t).bx.toNat
 DQ:∀t,t<u.bt.length→∀w∈m.bx.getD t [],eN w
 ml:m.mem.length=u.shared.length
 mw:∀w∈m.mem,eN w
 hl:m.hold.length=u.cD.length
 hw:∀w∈m.hold,-1≤w∧w<u.bt.length
 pw:∀p∈m.cN,0≤p.da∧p.da<u.bt.length∧eN p.word
abbrev MS.node (u:bu) (m:MS) (t:Nat):Node:=(u.gr t).nd (m.at_.getD t 0).toNat
def MS.k8 (u:bu) (m:MS) (t:Int):Int:=if t<0∨(m.at_.length:Int)≤t then 2 else if(m.node u t.toNat).kind=9 then 70 else if(m.node u t.toNat).kind=5∧0≤m.hold.getD (m.node u t.toNat).cM.toNat 0 then 71 else 0
theorem ints_at {l:List Int} {k:Nat} (h:k<l.length) (d:AV):(l.map i64).getD ((k:Int)).toNat d=i64 (l.getD k 0):=by
 rw[Int.toNat_natCast];exact dN i64 l k d h
theorem og {l:List Int} {k:Int} (h:k.toNat<l.length) (d:AV):(l.map i64).getD k.toNat d=i64 (l.getD k.toNat 0):=dN i64 l k.toNat d h
theorem eI.node {u:bu} {m:MS} (hr:cS u) (h:eI u m) {t:Nat} (ht:t<u.bt.length):nO u (u.gr t) (m.node u t):=by
 have:=h.gK t ht
 exact(hr.gr ht).nodes _ (cP default (by omega))
theorem EH {u:bu} {m:MS} {t:Int} (h:t<0∨(m.at_.length:Int)≤t):m.k8 u t=2:=by unfold MS.k8;rw[if_pos h]
theorem AI (u:bu) (m:MS) (t:Int):Pure Tryz.prog 68 [m.fz u,i64 t] (fun r=>r=bl (decide (¬(t<0∨(m.at_.length:Int)≤t)))):=by
 refine aI N9 rfl ?_
 refine cU ?_
 refine ew ?_
 rw[List.length_map]
 by_cases h1:0≤t<;>by_cases h2:t<m.at_.length<;>simp[h1,h2]<;>omega
set_option maxRecDepth 8000 in
set_option maxHeartbeats 2000000 in
theorem ve (u:bu) (hr:cS u) (m:MS) (h:eI u m) (t:Int):Pure Tryz.prog 69 [m.fz u,i64 t] (fun r=>r=i64 (m.k8 u t)):=by
 have c0:=AI u m t
 have hl:=h.pV
 by_cases ht:t<0∨(m.at_.length:Int)≤t
 ·rw[EH ht]
  rw[decide_eq_false (fun e=>e ht)] at c0
  refine aI wK rfl ?_
  refine cU ?_
  first|exact rfl|trivial
 ·rw[decide_eq_true ht] at c0
  obtain⟨k,rfl⟩:∃k:Nat,t=k:=⟨t.toNat,by omega⟩
  have hk:k<u.bt.length:=by omega
  have hbar:m.k8 u k=if(m.node u k).kind=9 then 70 else if(m.node u k).kind=5∧0≤m.hold.getD (m.node u k).cM.toNat 0 then 71 else 0:=by
   unfold MS.k8;rw[if_neg ht,Int.toNat_natCast]
  rw[hbar]
  have hno:=h.node hr hk
  obtain⟨p0,p1⟩:=h.gK k hk
  have e0:=fun d=>sQ (l:=u.bt) hk d
  have e1:=fun d=>ints_at (l:=m.at_) (k:=k) (by omega) d
  obtain⟨j,hj⟩:∃j:Nat,m.at_.getD k 0=j:=⟨(m.at_.getD k 0).toNat,by omega⟩
  rw[hj] at e1 p1
  have hnd:m.node u k=(u.gr k).nd j:=by unfold MS.node;rw[hj,Int.toNat_natCast]
  rw[hnd] at hno ⊢
  have hgr:u.bt.getD k default=u.gr k:=rfl
  rw[hgr] at e0
  generalize u.gr k=g at *
  have e2:=fun d=>ja (l:=g.nodes) (i:=j) (by omega) d
  rw[show g.nodes.getD j default=g.nd j from rfl] at e2
  generalize g.nd j=n at *
  have a0:(u.bt.map cC.av).length=u.bt.length:=by simp
  have a1:(m.at_.map i64).length=u.bt.length:=by simp[hl]
  have a2:(g.nodes.map Node.av).length=g.nodes.length:=by simp
  have a3:(m.hold.map i64).length=u.cD.length:=by simp[h.hl]
  by_cases h9:n.kind=9
  ·have r0:=h9
   rw[if_pos h9]
   refine aI wK rfl ?_
   refine cU ?_
   first|exact rfl|trivial
  ·rw[if_neg h9]
   by_cases h5:n.kind=5
   ·have hth:=hno.cM.1 (by unfold fu;exact decide_eq_true (by omega))
    rw[if_pos (.inl h5)] at hth
    have hhl:=h.hl
    have e3:=fun d=>og (l:=m.hold) (k:=n.cM) (by omega) d
    have r0:=h5
    by_cases hh:0≤m.hold.getD n.cM.toNat 0
    ·rw[if_pos ⟨h5,hh⟩]
     have r1:=decide_eq_true hh
     refine aI wK rfl ?_
     refine cU ?_
     first|exact rfl|trivial
    ·rw[if_neg fun e=>hh e.2]
     have r1:=decide_eq_false hh
     refine aI wK rfl ?_
     refine cU ?_
     first|exact rfl|trivial
   ·rw[if_neg fun e=>h5 e.1]
    have r1:=decide_eq_false h5
    refine aI wK rfl ?_
    refine cU ?_
    first|exact rfl|trivial
theorem LU (u:bu) (hr:cS u) (m:MS) (h:eI u m) (t:Int):Pure Tryz.prog 32 [m.fz u,i64 t] (fun r=>r=bl (decide (m.k8 u t=0))):=by
 have c0:=ve u hr m h t
 refine aI NT rfl ?_
 refine cU ?_
 first|exact rfl|trivial
def MS.ended (u:bu) (m:MS):Bool:=(List.range m.at_.length).all fun t=>decide (m.k8 u t=70)
theorem L9 (u:bu) (hr:cS u) (m:MS) (h:eI u m):Pure Tryz.prog 67 [m.fz u] (fun r=>r=bl (m.ended u)):=by
 have hl:=h.pV
 have hgl:=hr.ql
 refine aI N8 rfl ?_
 refine cU ?_
 rw[List.length_map]
 refine aM (fun i:Nat=>[(0,m.fz u),(10,i64 m.at_.length),(11,i64 i)]) (fun i H n=>i≤m.at_.length∧∀j:Nat,j<i→m.k8 u j=70) (fun i=>m.at_.length - i) 0 cJ ⟨Nat.zero_le _,fun j hj=>by omega⟩ ?_
 rintro i H n ⟨hi,hall⟩
 by_cases hil:i<m.at_.length
 ·have c0:=ve u hr m h i
  by_cases hb:m.k8 u i=70
  ·have r0:=hb
   refine cU ?_
   exact⟨i+1,by omega,cJ,by omega,fun j hj=>by
    by_cases e:j=i
    ·rw[e];exact hb
    ·exact hall j (by omega)⟩
  ·have r0:=decide_eq_true hb
   refine cU ?_
   refine ew (Eq.symm ?_)
   unfold MS.ended
   rw[List.all_eq_false]
   exact⟨i,List.mem_range.2 hil,by simpa using hb⟩
 ·refine cU ?_
  refine ew (Eq.symm ?_)
  unfold MS.ended
  rw[List.all_eq_true]
  intro j hj
  exact decide_eq_true (hall j (by have:=List.mem_range.1 hj;omega))
end Go.Proofs.YtjopoheligmmoaaGreatDoor
end
section
/- Ends compared: plain data, the small functions of the code. -/
namespace Go.Proofs.YtjopoheligmmoaaGreatDoor
open Go Go.cY Go.Proofs
set_option linter.unusedSimpArgs false
set_option linter.unusedVariables false
structure cj where
 cN:List dS
 mem:List Int
 ended:Bool
 deriving Inhabited,DecidableEq
def cj.cells (e:cj):List AV:=[fm e.cN,cQ e.mem,bl e.ended]
abbrev cj.av (e:cj):AV:= .agg e.cells
@[simp] theorem Y3 (n:Nat) (e:cj):cX n e.cells:=by simp[cj.cells,cX,cI,cB]
def eW (x y:Int):Int:=if x<y then -1 else if y<x then 1 else 0
def sn:List Int→Int
 |[]=>0
 |x::l=>if x=0 then sn l else x
def jI (p q:dS):Int:=sn [eW p.da q.da,eW p.word q.word]
def eZ {α:Type} (f:α→α→Int):List α→List α→Int
 |[],[]=>0
 |[],_::_=>-1
 |_::_,[]=>1
 |x::a,y::b=>if f x y=0 then eZ f a b else f x y
def vl (a b:Bool):Int:=if a=b then 0 else if b then -1 else 1
def fp (a b:cj):Int:=sn [eZ jI a.cN b.cN,eZ eW a.mem b.mem,vl a.ended b.ended]
theorem vo {α:Type} (f:α→α→Int) (d:α) {a b:List α} {i:Nat} (h1:i<a.length) (h2:i<b.length):eZ f (a.drop i) (b.drop i)=if f (a.getD i d) (b.getD i d)=0 then eZ f (a.drop (i+1)) (b.drop (i+1)) else f (a.getD i d) (b.getD i d):=by
 rw[List.drop_eq_getElem_cons h1,List.drop_eq_getElem_cons h2,eZ]
 simp[List.getD,List.getElem?_eq_getElem h1,List.getElem?_eq_getElem h2]
theorem ru {α:Type} (f:α→α→Int) {a b:List α} {i:Nat} (h1:i<a.length) (h2:b.length≤i):eZ f (a.drop i) (b.drop i)=1:=by
 rw[List.drop_eq_getElem_cons h1,List.drop_of_length_le h2,eZ]
theorem rl {α:Type} (f:α→α→Int) {a b:List α} {i:Nat} (h1:a.length≤i) (h2:i≤b.length):eZ f (a.drop i) (b.drop i)=if i<b.length then -1 else 0:=by
 rw[List.drop_of_length_le h1]
 split
 ·rename_i h;rw[List.drop_eq_getElem_cons h,eZ]
 ·rw[List.drop_of_length_le (by omega),eZ]
theorem GW (x:Int):Pure Tryz.prog 104 [i64 x] (fun r=>r=bl false):=by
 refine aI yI rfl ?_
 refine cU ?_
 refine ew ?_
 simp
theorem zd (x:Int):Pure Tryz.prog 194 [i64 x] (fun r=>r=bl false):=by
 refine aI yo rfl ?_
 refine cU ?_
 refine ew ?_
 simp
theorem rj (x y:Int):Pure Tryz.prog 62 [i64 x,i64 y] (fun r=>r=i64 (eW x y)):=by
 have c0:=GW x
 have c1:=GW y
 unfold eW
 by_cases h:x<y
 ·rw[if_pos h]
  refine aI CI rfl ?_
  refine cU ?_
  first|exact rfl|trivial
 ·rw[if_neg h]
  by_cases h2:y<x
  ·rw[if_pos h2]
   refine aI CI rfl ?_
   refine cU ?_
   first|exact rfl|trivial
  ·rw[if_neg h2]
   refine aI CI rfl ?_
   refine cU ?_
   first|exact rfl|trivial
theorem uJ (x y:Int):Pure Tryz.prog 152 [i64 x,i64 y] (fun r=>r=i64 (eW x y)):=by
 have c0:=zd x
 have c1:=zd y
 unfold eW
 by_cases h:x<y
 ·rw[if_pos h]
  refine aI s8 rfl ?_
  refine cU ?_
  first|exact rfl|trivial
 ·rw[if_neg h]
  by_cases h2:y<x
  ·rw[if_pos h2]
   refine aI s8 rfl ?_
   refine cU ?_
   first|exact rfl|trivial
  ·rw[if_neg h2]
   refine aI s8 rfl ?_
   refine cU ?_
   first|exact rfl|trivial
theorem OZ {l:List Int} {i:Nat} (h:i<l.length):sn (l.drop i)=if l.getD i 0=0 then sn (l.drop (i+1)) else l.getD i 0:=by
 rw[List.drop_eq_getElem_cons h,sn]
 simp[List.getD,List.getElem?_eq_getElem h]
theorem wT (l:List Int) (hl:l.length≤1000):Pure Tryz.prog 61 [cQ l] (fun r=>r=i64 (sn l)):=by
 refine aI N6 rfl ?_
 refine cU ?_
 rw[List.length_map]
 refine aM (fun i:Nat=>[(3,i64 0),(6,cQ l),(7,i64 l.length),(8,i64 i)]) (fun i H n=>i≤l.length∧sn l=sn (l.drop i)) (fun i=>l.length - i) 0 cJ ⟨Nat.zero_le _,rfl⟩ ?_
 rintro i H n ⟨hi,ho⟩
 rw[ho]
 by_cases hil:i<l.length
 ·have e0:=fun d=>ints_at (l:=l) hil d
  have a0:(l.map i64).length=l.length:=by simp
  have hd:=OZ hil
  by_cases hz:l.getD i 0=0
  ·have r0:=hz
   rw[if_pos hz] at hd
   refine cU ?_
   exact⟨i+1,by omega,cJ,by omega,hd⟩
  ·have r0:=decide_eq_true hz
   rw[if_neg hz] at hd
   refine cU ?_
   rw[hd]
 ·rw[List.drop_of_length_le (by omega)]
  refine cU ?_
  first|exact rfl|trivial
end Go.Proofs.YtjopoheligmmoaaGreatDoor
end
section
/- Copies of lists; what a machine shows. -/
namespace Go.Proofs.YtjopoheligmmoaaGreatDoor
open Go Go.cY Go.Proofs
set_option linter.unusedSimpArgs false
set_option linter.unusedVariables false
theorem tI {p:Prop} (h:Go p):p:=h
theorem HR {es:List AV} (hf:cX 0 es) (hl:es.length * 16≤140737488355328):cH Tryz.prog 184 [.im 2 .any es] [] 0 (fun r H _=>cY.dU H 6 r= .sc (.slice none 0 0)∧es=[]∨cY.dU H 6 r= .im 2 .any es):=by
 refine aL ym rfl ?_
 cases es with
 |nil=>
  refine cU ?_
  refine⟨tI ?_,tI ?_⟩
  ·refine cU ?_
   exact⟨.inl ⟨rfl,rfl⟩⟩
  ·refine cU ?_
   exact⟨.inr rfl⟩
 |cons x t=>
  have a0:(x::t).length * 16≤iT:=hl
  simp only[List.length_cons] at hl
  refine cU ?_
  refine⟨.inr ((df (e:=155) (sz:=2) (es:=x::t) bw (Nat.zero_add _).symm).trans ?_)⟩
  rw[cu _ hf]
theorem HT {es:List AV} (hf:cX 0 es) (hl:es.length * 8≤140737488355328):cH Tryz.prog 185 [.im 1 .any es] [] 0 (fun r H _=>cY.dU H 6 r= .sc (.slice none 0 0)∧es=[]∨cY.dU H 6 r= .im 1 .any es):=by
 refine aL yn rfl ?_
 cases es with
 |nil=>
  refine cU ?_
  refine⟨tI ?_,tI ?_⟩
  ·refine cU ?_
   exact⟨.inl ⟨rfl,rfl⟩⟩
  ·refine cU ?_
   exact⟨.inr rfl⟩
 |cons x t=>
  have a0:(x::t).length * 8≤iT:=hl
  simp only[List.length_cons] at hl
  refine cU ?_
  refine⟨.inr ((df (e:=2) (sz:=1) (es:=x::t) bw (Nat.zero_add _).symm).trans ?_)⟩
  rw[cu _ hf]
theorem xS (l:List dS) (hl:l.length * 16≤140737488355328):Pure Tryz.prog 184 [fm l] (fun r=>r=fm l):=
 mn (by simp[cI,cB]) (HR ((cB _ _).2 fun _ _=>by simp[cI]) (by rw[List.length_map];exact hl))
theorem xT (l:List Int) (hl:l.length * 8≤140737488355328):Pure Tryz.prog 185 [cQ l] (fun r=>r=cQ l):=
 mn (by simp[cI,cB]) (HT ((cB _ _).2 fun _ _=>by simp[cI]) (by rw[List.length_map];exact hl))
theorem J4 (u:bu) (m:MS) (hl:m.cN.length * 16≤140737488355328):Pure Tryz.prog 147 [m.fz u] (fun r=>r=fm m.cN):=by
 have c0:=xS m.cN hl
 refine aI y6 rfl ?_
 refine cU ?_
 first|exact rfl|trivial
theorem JS (u:bu) (m:MS) (hl:m.mem.length * 8≤140737488355328):Pure Tryz.prog 148 [m.fz u] (fun r=>r=cQ m.mem):=by
 have c0:=xT m.mem hl
 refine aI y7 rfl ?_
 refine cU ?_
 first|exact rfl|trivial
end Go.Proofs.YtjopoheligmmoaaGreatDoor
end
section
/- Whether a situation is an end. -/
namespace Go.Proofs.YtjopoheligmmoaaGreatDoor
open Go Go.cY Go.Proofs
set_option linter.unusedSimpArgs false
set_option linter.unusedVariables false
def MS.stuck (u:bu) (m:MS):Bool:=(List.range m.at_.length).all fun t=>decide (m.k8 u t≠0)
def MS.end_ (u:bu) (m:MS):cj:=⟨m.cN,m.mem,m.ended u⟩
def lG (u:bu) (m:MS):AV:=if m.stuck u then .dL [(m.end_ u).av,bl true] else .dL [.agg [.sc (.slice none 0 0), .sc (.slice none 0 0),bl false],bl false]
theorem ux (u:bu) (hr:cS u) (m:MS) (h:eI u m) (hp:m.cN.length * 16≤140737488355328) (hm:m.mem.length * 8≤140737488355328):Pure Tryz.prog 94 [u.av,m.fz u] (fun r=>r=lG u m):=by
 have hl:=h.pV
 have hgl:=hr.ql
 have c1:=J4 u m hp
 have c2:=JS u m hm
 have c3:=L9 u hr m h
 refine aI OI rfl ?_
 refine cU ?_
 rw[List.length_map,←hl]
 refine aM (fun i:Nat=>[(1,m.fz u),(4, .pt 1 1 0 0),(9,i64 m.at_.length),(10,i64 i)]) (fun i H n=>i≤m.at_.length∧2≤n∧br H 1=some (.row 105 3 (gJ true [.slice none 0 0, .slice none 0 0, .bool false]) [gJ true [.slice none 0 0, .slice none 0 0, .bool false]])∧∀j:Nat,j<i→m.k8 u j≠0) (fun i=>m.at_.length - i) 0 cJ ⟨Nat.zero_le _,cZ,bw,fun j hj=>by omega⟩ ?_
 rintro i H n ⟨hi,hn,hx,hall⟩
 by_cases hil:i<m.at_.length
 ·have c0:=LU u hr m h i
  by_cases hb:m.k8 u i=0
  ·have hs:m.stuck u=false:=by
    unfold MS.stuck
    rw[List.all_eq_false]
    exact⟨i,List.mem_range.2 hil,by simpa using hb⟩
   have r0:=decide_eq_true hb
   rw[lG,hs]
   refine cU ?_
   first|exact rfl|trivial
  ·have r0:=decide_eq_false hb
   refine cU ?_
   exact⟨i+1,by omega,cJ,by omega,by omega,bw,fun j hj=>by
    by_cases e:j=i
    ·rw[e];exact hb
    ·exact hall j (by omega)⟩
 ·have hs:m.stuck u=true:=by
   unfold MS.stuck
   rw[List.all_eq_true]
   intro j hj
   exact decide_eq_true (hall j (by have:=List.mem_range.1 hj;omega))
  rw[lG,hs]
  refine cU ?_
  first|exact rfl|trivial
end Go.Proofs.YtjopoheligmmoaaGreatDoor
end
section
/- The machine in rows: Copy. -/
namespace Go.Proofs.YtjopoheligmmoaaGreatDoor
open Go Go.cY Go.Proofs
set_option linter.unusedSimpArgs false
set_option linter.unusedVariables false
def eR (ids:List Nat) (l:List (List Int)):List AV:=(ids.zip l).map fun p=> .sl p.1 p.2.length
def MS.rows (u:bu) (m:MS) (a s me ho pr:Nat):AV:= .agg [cq u.shared,cq u.cD,dc u.bt, .sl a m.at_.length, .sl s m.bx.length, .sl me m.mem.length, .sl ho m.hold.length, .sl pr m.cN.length]
structure WY (u:bu) (m:MS) (mr a s me ho pr:Nat) (ids:List Nat) (H:Hp):Prop where
 rM:∃d,br H mr=some (.row 114 8 d [m.rows u a s me ho pr])
 rA:∃d,br H a=some (.row 3 1 d (m.at_.map i64))
 rS:∃d,br H s=some (.row 93 1 d (eR ids m.bx))
 rL:∀t,t<m.bx.length→∃d,br H (ids.getD t 0)=some (.row 2 1 d ((m.bx.getD t []).map i64))
 rE:∃d,br H me=some (.row 2 1 d (m.mem.map i64))
 rH:∃d,br H ho=some (.row 3 1 d (m.hold.map i64))
 rP:∃d,br H pr=some (.row 155 2 d (m.cN.map dS.av))
 len:ids.length=m.bx.length
 nodup:(mr::a::s::me::ho::pr::ids).Nodup
theorem vC {ids:List Nat} {l:List (List Int)} (h:ids.length=l.length) (i:Nat) (x:List Int):eR (ids++[i]) (l++[x])=eR ids l++[.sl i x.length]:=by
 unfold eR
 rw[List.zip_append h]
 simp
theorem copied (es:List AV) (z:AV):List.take (es.length.min (es.length:Int).toNat) es++List.drop (es.length.min (es.length:Int).toNat) (List.replicate (es.length:Int).toNat z)=es:=by
 rw[Int.toNat_natCast,show es.length.min es.length=es.length from Nat.min_self _]
 simp
set_option maxHeartbeats 4000000 in
theorem BH (u:bu) (m:MS) (h1:m.at_.length≤4096) (h2:m.mem.length≤4096) (h3:m.hold.length≤4096) (h4:m.cN.length≤1048576) (h5:m.bx.length≤4096) (h6:∀l∈m.bx,l.length≤1048576) (H0:Hp) (nx:Nat):cH Tryz.prog 146 [m.fz u] H0 nx (fun r H n=>∃mr a s me ho pr ids,r= .pt mr 1 0 0∧WY u m mr a s me ho pr ids H∧(∀x∈mr::a::s::me::ho::pr::ids,nx≤x∧x<n)∧nx≤n∧∀y,y<nx→br H y=br H0 y):=by
 refine aL yZ rfl ?_
 refine cU ?_
 simp only[copied]
 simp only[List.length_map,Int.toNat_natCast]
 refine aU (fun σ:Nat×List Nat=>[(0,m.fz u),(3, .pt (nx+32) 1 0 0),(78,G5 m.bx),(79,i64 m.bx.length),(80,i64 σ.1)])
  (fun σ H n=>σ.1≤m.bx.length∧nx+77≤n∧σ.2.length=σ.1∧σ.2.Nodup∧(∀x∈σ.2,nx+77≤x∧x<n)∧(∃d,br H (nx+32)=some (.row 114 8 d [.agg [cq u.shared,cq u.cD,dc u.bt, .sl (nx+12) m.at_.length, .sl (nx+76) σ.1, .sl (nx+18) m.mem.length, .sl (nx+24) m.hold.length, .sl (nx+30) m.cN.length]]))∧(∃d,br H (nx+12)=some (.row 3 1 d (m.at_.map i64)))∧(∃d,br H (nx+18)=some (.row 2 1 d (m.mem.map i64)))∧(∃d,br H (nx+24)=some (.row 3 1 d (m.hold.map i64)))∧(∃d,br H (nx+30)=some (.row 155 2 d (m.cN.map dS.av)))∧(∃d,br H (nx+76)=some (.row 93 1 d (eR σ.2 (m.bx.take σ.1))))∧(∀t,t<σ.1→∃d,br H (σ.2.getD t 0)=some (.row 2 1 d ((m.bx.getD t []).map i64)))∧∀y,y<nx→br H y=br H0 y) (fun σ=>m.bx.length - σ.1) (0,[])
  ⟨_,_,_,Rt.wk (Wk.oy (b:=nx+32) (e:=93) (sz:=1) (by simp only[List.length_cons,List.length_nil];omega) (by omega) (te:=114) (tz:=8) (cs:=[cq u.shared,cq u.cD,dc u.bt, .sl (nx+12) m.at_.length, .sc (.slice none 0 0), .sl (nx+18) m.mem.length, .sl (nx+24) m.hold.length, .sl (nx+30) m.cN.length]) (j:=4) bw (by show 4<8;omega) rfl),cJ,Nat.zero_le _,cZ,rfl,List.nodup_nil,fun x hx=>by simp at hx,⟨_,bw⟩,⟨_,bw⟩,⟨_,bw⟩,⟨_,bw⟩,⟨_,bw⟩,⟨_,bw⟩,fun t ht=>absurd ht (Nat.not_lt_zero _),fun y hy=>cA⟩ ?_
 rintro⟨t,ids⟩ H n ⟨ht,hn,hil,hnd,hin,⟨d0,r0⟩,⟨d1,r1⟩,⟨d2,r2⟩,⟨d3,r3⟩,⟨d4,r4⟩,⟨d5,r5⟩,hls,hkp⟩
 dsimp only at ht hil hnd hin r0 r5 hls ⊢
 have htk:(m.bx.take t).length=t:=by rw[List.length_take];omega
 have hrl:(eR ids (m.bx.take t)).length=t:=by unfold eR;rw[List.length_map,List.length_zip,htk,hil];omega
 by_cases htl:t<m.bx.length
 ·have e0:∀d,(m.bx.map cQ).getD ((t:Int)).toNat d=cQ (m.bx.getD t []):=fun d=>by rw[Int.toNat_natCast];exact dN cQ m.bx t d htl
  have a0:(m.bx.map cQ).length=m.bx.length:=by simp
  have hnx:eR (ids++[n+6]) (m.bx.take (t+1))=eR ids (m.bx.take t)++[.sl (n+6) (m.bx.getD t []).length]:=by
   rw[List.take_succ_eq_append_getElem htl,vC (by rw[hil,htk]),show m.bx.getD t []=m.bx[t] by simp[List.getD,htl]]
  have h7:=h6 _ (cP (l:=m.bx) [] htl)
  refine cU ?_
  simp only[copied]
  simp only[List.length_map,Int.toNat_natCast]
  refine⟨(t+1,ids++[n+6]),by dsimp only;omega,_,_,_,Rt.refl _ _ _,cJ,by dsimp only;omega,by omega,by simp[hil], ?_, ?_,⟨_,bw⟩,⟨_,bw⟩,⟨_,bw⟩,⟨_,bw⟩,⟨_,bw⟩,⟨_,by dsimp only;rw[hnx];exact bw⟩, ?_,fun y hy=>Eq.trans cA (hkp y hy)⟩
  ·refine List.nodup_append.2 ⟨hnd,by simp,fun a ha b hb=> ?_⟩
   simp only[List.mem_cons,List.not_mem_nil,or_false] at hb
   have:=hin _ ha;omega
  ·intro x hx
   rcases List.mem_append.1 hx with hx|hx
   ·have:=hin _ hx;exact⟨this.1,Nat.lt_of_lt_of_le this.2 cZ⟩
   ·simp only[List.mem_cons,List.not_mem_nil,or_false] at hx
    subst hx;exact⟨by omega,cZ⟩
  ·intro q hq
   have hq:q<t+1:=hq
   by_cases e:q=t
   ·subst e
    have e2:(ids++[n+6]).getD q 0=n+6:=by rw[List.getD,List.getElem?_append_right (by omega),hil,Nat.sub_self];rfl
    dsimp only
    rw[e2];exact⟨_,bw⟩
   ·obtain⟨d,hd⟩:=hls q (by omega)
    have e2:(ids++[n+6]).getD q 0=ids.getD q 0:=by simp[List.getD,List.getElem?_append,show q<ids.length by omega]
    have:=hin _ (fI (l:=ids) (q:=q) (by omega))
    dsimp only
    rw[e2];exact⟨d,Eq.trans cA hd⟩
 ·have:t=m.bx.length:=by omega
  subst this
  rw[List.take_length] at r5
  refine cU ?_
  refine⟨⟨nx+32,nx+12,nx+76,nx+18,nx+24,nx+30,ids,rfl,⟨⟨_,bw⟩,⟨_,bw⟩,⟨_,bw⟩,fun t ht=> ?_,⟨_,bw⟩,⟨_,bw⟩,⟨_,bw⟩,hil, ?_⟩, ?_,cZ,fun y hy=>Eq.trans cA (hkp y hy)⟩⟩
  ·obtain⟨d,hd⟩:=hls t ht
   have:=hin _ (fI (l:=ids) (q:=t) (by omega))
   exact⟨d,Eq.trans cA hd⟩
  ·have hno:∀k,k<nx+77→k∉ids:=fun k hk h=>by have:=hin _ h;omega
   simp only[List.nodup_cons,List.mem_cons,not_or]
   exact⟨⟨by omega,by omega,by omega,by omega,by omega,hno _ (by omega)⟩,⟨by omega,by omega,by omega,by omega,hno _ (by omega)⟩,⟨by omega,by omega,by omega,hno _ (by omega)⟩,⟨by omega,by omega,hno _ (by omega)⟩,⟨by omega,hno _ (by omega)⟩,hno _ (by omega),hnd⟩
  ·intro x hx
   simp only[List.mem_cons] at hx
   rcases hx with rfl|rfl|rfl|rfl|rfl|rfl|hx
   all_goals first
    |exact⟨by omega,by omega⟩
    |(have:=hin _ hx;exact⟨by omega,by omega⟩)
end Go.Proofs.YtjopoheligmmoaaGreatDoor
end
section
/- The machine in rows, frozen. -/
namespace Go.Proofs.YtjopoheligmmoaaGreatDoor
open Go Go.cY Go.Proofs
set_option linter.unusedSimpArgs false
set_option linter.unusedVariables false
theorem vy {H:Hp} {k:Nat} {cs:List AV}:cY.dU H (k+1) (.agg cs)= .agg (cs.map (cY.dU H k)):=by simp only[dU]
theorem WY.dU {u:bu} {m:MS} {mr a s me ho pr:Nat} {ids:List Nat} {H:Hp} (h:WY u m mr a s me ho pr ids H) (k:Nat):cY.dU H (k+5) (.pt mr 1 0 0)=m.fz u:=by
 obtain⟨d1,h1⟩:=h.rM
 obtain⟨d2,h2⟩:=h.rA
 obtain⟨d3,h3⟩:=h.rS
 obtain⟨d4,h4⟩:=h.rE
 obtain⟨d5,h5⟩:=h.rH
 obtain⟨d6,h6⟩:=h.rP
 have hsl:(eR ids m.bx).length=m.bx.length:=by unfold eR;rw[List.length_map,List.length_zip,h.len];simp
 have hs:(eR ids m.bx).map (cY.dU H (k+2))=m.bx.map cQ:=by
  apply List.ext_getElem (by simp[hsl])
  intro t q1 q2
  have ht:t<m.bx.length:=by simpa using q2
  have hti:t<ids.length:=by rw[h.len];exact ht
  obtain⟨d,hd⟩:=h.rL t ht
  rw[show ids.getD t 0=ids[t] by simp[List.getD,hti],show m.bx.getD t []=m.bx[t] by simp[List.getD,ht]] at hd
  rw[List.getElem_map,List.getElem_map]
  simp only[eR,List.getElem_map,List.getElem_zip]
  rw[df hd (by simp),cu _ ((cB _ _).2 fun _ _=>by simp[cI])]
 simp only[cY.dU,h1]
 simp only[List.length_cons,List.length_nil,if_true,List.map_cons,List.map_nil,MS.rows]
 rw[vy]
 simp only[List.map_cons,List.map_nil]
 rw[df h2 (by simp),df h3 hsl,df h4 (by simp),df h5 (by simp),df h6 (by simp),hs]
 rw[cu _ ((cB _ _).2 fun _ _=>by simp[cI]),cu _ ((cB _ _).2 fun _ _=>by simp[cI]),cu _ ((cB _ _).2 fun _ _=>by simp[cI]),cu _ ((cB _ _).2 fun _ _=>by simp[cI])]
 rw[du _ (show cI 0 (cq u.shared) by simp[cI,cB]),du _ (show cI 0 (cq u.cD) by simp[cI,cB]),du _ (show cI 0 (dc u.bt) by simp[cI,cB])]
 rfl
end Go.Proofs.YtjopoheligmmoaaGreatDoor
end
section
/- The machine that has done nothing. -/
namespace Go.Proofs.YtjopoheligmmoaaGreatDoor
open Go Go.cY Go.Proofs
set_option linter.unusedSimpArgs false
set_option linter.unusedVariables false
def dX (u:bu):MS:=⟨u.bt.map fun _=>0,u.bt.map fun g=>List.replicate g.bx.toNat 0,u.shared.map Decl.word,u.cD.map fun _=>-1,[]⟩
theorem GX (u:bu) (hr:cS u) (hw:∀d∈u.shared,eN d.word) (hn:∀t,t<u.bt.length→0<(u.gr t).nodes.length):eI u (dX u) where
 pV:=by simp[dX]
 gK:=fun t ht=>by
  have e:(dX u).at_.getD t 0=0:=by simp[dX,List.getD,ht]
  rw[e]
  exact⟨Int.le_refl _,by have:=hn t ht;omega⟩
 sl:=by simp[dX]
 DP:=fun t ht=>by
  have e:(dX u).bx.getD t []=List.replicate (u.gr t).bx.toNat 0:=by simp[dX,List.getD,bu.gr,ht]
  rw[e,List.length_replicate]
 DQ:=fun t ht w hw=>by
  have e:(dX u).bx.getD t []=List.replicate (u.gr t).bx.toNat 0:=by simp[dX,List.getD,bu.gr,ht]
  rw[e] at hw
  rw[List.eq_of_mem_replicate hw]
  exact⟨by omega,by omega⟩
 ml:=by simp[dX]
 mw:=fun w h=>by
  obtain⟨d,hd,rfl⟩:=List.mem_map.1 h
  exact hw d hd
 hl:=by simp[dX]
 hw:=fun w h=>by
  obtain⟨d,hd,rfl⟩:=List.mem_map.1 h
  exact⟨by omega,by omega⟩
 pw:=fun p h=>by simp[dX] at h
end Go.Proofs.YtjopoheligmmoaaGreatDoor
end
section
/- Operators. -/
namespace Go.Proofs.YtjopoheligmmoaaGreatDoor
open Go Go.cY Go.Proofs
set_option linter.unusedSimpArgs false
set_option linter.unusedVariables false
set_option maxHeartbeats 1000000
abbrev wg (n:Int):Int:=IntKind.i64.wrap n
def J6 (a b:Int):Int:=if b=0 then 0 else if b=-1 then wg (0 - a) else wg (a.tdiv b)
def O4 (a b:Int):Int:=if b=0 then a else wg (a - wg (J6 a b * b))
def XJ (a b:Int):Int:=wg ((BitVec.ofInt 64 a&&& BitVec.ofInt 64 b).toNat:Int)
def orW (a b:Int):Int:=wg ((BitVec.ofInt 64 a|||BitVec.ofInt 64 b).toNat:Int)
def YX (a b:Int):Int:=wg ((BitVec.ofInt 64 a^^^BitVec.ofInt 64 b).toNat:Int)
def LY (b:Int):Int:=IntKind.u64.wrap ((BitVec.ofInt 64 (IntKind.u64.wrap b)&&& BitVec.ofInt 64 63).toNat:Int)
def YJ (a b:Int):Int:=wg (a * 2^(min (LY b).toNat 64))
def TC (a b:Int):Int:=a.fdiv (2^(min (LY b).toNat 64))
def tr (t:Bool):Int:=if t=true then 1 else 0
theorem cp (t:Bool):Pure Tryz.prog 226 [bl t] (fun r=>r=i64 (tr t)):=by
 refine aI zO rfl ?_
 repeat' (first|((with_reducible refine aF ?_);conv=>whnf)|refine aG ?_|exact aC|with_reducible refine aD ?_ ?_|(apply aB;(·exact cO))|refine aH ?_|((with_reducible refine aA ?_ ?_)<;>intro hc<;>(try simp only[List.length_map,ne_eq,dY] at hc)<;>try(exfalso;omega)))
 all_goals simp_all[tr]
theorem oI (a b:Int):Pure Tryz.prog 206 [i64 a,i64 b] (fun r=>r=i64 (wg (a+b))):=by
 refine aI yu rfl ?_
 repeat' (first|((with_reducible refine aF ?_);conv=>whnf)|refine aG ?_|exact aC|with_reducible refine aD ?_ ?_|(apply aB;(·exact cO))|refine aH ?_|((with_reducible refine aA ?_ ?_)<;>intro hc<;>(try simp only[List.length_map,ne_eq,dY] at hc)<;>try(exfalso;omega)))
 all_goals exact rfl
theorem pQ (a b:Int):Pure Tryz.prog 207 [i64 a,i64 b] (fun r=>r=i64 (wg (a - b))):=by
 refine aI yw rfl ?_
 repeat' (first|((with_reducible refine aF ?_);conv=>whnf)|refine aG ?_|exact aC|with_reducible refine aD ?_ ?_|(apply aB;(·exact cO))|refine aH ?_|((with_reducible refine aA ?_ ?_)<;>intro hc<;>(try simp only[List.length_map,ne_eq,dY] at hc)<;>try(exfalso;omega)))
 all_goals exact rfl
theorem ot (a b:Int):Pure Tryz.prog 208 [i64 a,i64 b] (fun r=>r=i64 (wg (a * b))):=by
 refine aI yx rfl ?_
 repeat' (first|((with_reducible refine aF ?_);conv=>whnf)|refine aG ?_|exact aC|with_reducible refine aD ?_ ?_|(apply aB;(·exact cO))|refine aH ?_|((with_reducible refine aA ?_ ?_)<;>intro hc<;>(try simp only[List.length_map,ne_eq,dY] at hc)<;>try(exfalso;omega)))
 all_goals exact rfl
theorem iJ (a b:Int):Pure Tryz.prog 209 [i64 a,i64 b] (fun r=>r=i64 (J6 a b)):=by
 refine aI yy rfl ?_
 repeat' (first|((with_reducible refine aF ?_);conv=>whnf)|refine aG ?_|exact aC|with_reducible refine aD ?_ ?_|(apply aB;(·exact cO))|refine aH ?_|((with_reducible refine aA ?_ ?_)<;>intro hc<;>(try simp only[List.length_map,ne_eq,dY] at hc)<;>try(exfalso;omega)))
 all_goals simp_all[J6]
theorem pI (a b:Int):Pure Tryz.prog 210 [i64 a,i64 b] (fun r=>r=i64 (O4 a b)):=by
 refine aI yz rfl ?_
 repeat' (first|((with_reducible refine aF ?_);conv=>whnf)|refine aG ?_|exact aC|with_reducible refine aD ?_ ?_|(apply aB;(·exact cO))|((with_reducible refine aQ (iJ _ _) ?_ ?_);(·exact cE))|((with_reducible refine aP (fun _=>iJ _ _) ?_ ?_);(·exact cE))|((with_reducible refine aN (iJ _ _) ?_ ?_);(·exact cE))|((with_reducible refine aO (fun _=>iJ _ _) ?_ ?_);(·exact cE))|refine aH ?_|((with_reducible refine aA ?_ ?_)<;>intro hc<;>(try simp only[List.length_map,ne_eq,dY] at hc)<;>try(exfalso;omega)))
 all_goals simp_all[O4]
theorem oL (a b:Int):Pure Tryz.prog 211 [i64 a,i64 b] (fun r=>r=i64 (XJ a b)):=by
 refine aI zA rfl ?_
 repeat' (first|((with_reducible refine aF ?_);conv=>whnf)|refine aG ?_|exact aC|with_reducible refine aD ?_ ?_|(apply aB;(·exact cO))|refine aH ?_|((with_reducible refine aA ?_ ?_)<;>intro hc<;>(try simp only[List.length_map,ne_eq,dY] at hc)<;>try(exfalso;omega)))
 all_goals exact rfl
theorem pD (a b:Int):Pure Tryz.prog 212 [i64 a,i64 b] (fun r=>r=i64 (orW a b)):=by
 refine aI zB rfl ?_
 repeat' (first|((with_reducible refine aF ?_);conv=>whnf)|refine aG ?_|exact aC|with_reducible refine aD ?_ ?_|(apply aB;(·exact cO))|refine aH ?_|((with_reducible refine aA ?_ ?_)<;>intro hc<;>(try simp only[List.length_map,ne_eq,dY] at hc)<;>try(exfalso;omega)))
 all_goals exact rfl
theorem pU (a b:Int):Pure Tryz.prog 213 [i64 a,i64 b] (fun r=>r=i64 (YX a b)):=by
 refine aI zC rfl ?_
 repeat' (first|((with_reducible refine aF ?_);conv=>whnf)|refine aG ?_|exact aC|with_reducible refine aD ?_ ?_|(apply aB;(·exact cO))|refine aH ?_|((with_reducible refine aA ?_ ?_)<;>intro hc<;>(try simp only[List.length_map,ne_eq,dY] at hc)<;>try(exfalso;omega)))
 all_goals exact rfl
theorem pM (a b:Int):Pure Tryz.prog 214 [i64 a,i64 b] (fun r=>r=i64 (YJ a b)):=by
 refine aI zD rfl ?_
 repeat' (first|((with_reducible refine aF ?_);conv=>whnf)|refine aG ?_|exact aC|with_reducible refine aD ?_ ?_|(apply aB;(·exact cO))|refine aH ?_|((with_reducible refine aA ?_ ?_)<;>intro hc<;>(try simp only[List.length_map,ne_eq,dY] at hc)<;>try(exfalso;omega)))
 all_goals exact rfl
theorem pN (a b:Int):Pure Tryz.prog 215 [i64 a,i64 b] (fun r=>r=i64 (TC a b)):=by
 refine aI zF rfl ?_
 repeat' (first|((with_reducible refine aF ?_);conv=>whnf)|refine aG ?_|exact aC|with_reducible refine aD ?_ ?_|(apply aB;(·exact cO))|refine aH ?_|((with_reducible refine aA ?_ ?_)<;>intro hc<;>(try simp only[List.length_map,ne_eq,dY] at hc)<;>try(exfalso;omega)))
 all_goals exact rfl
theorem rB (a b:Int):Pure Tryz.prog 216 [i64 a,i64 b] (fun r=>r=i64 (tr (decide (a=b)))):=by
 refine aI zG rfl ?_
 repeat' (first|((with_reducible refine aF ?_);conv=>whnf)|refine aG ?_|exact aC|with_reducible refine aD ?_ ?_|(apply aB;(·exact cO))|((with_reducible refine aQ (cp _) ?_ ?_);(·exact cE))|((with_reducible refine aP (fun _=>cp _) ?_ ?_);(·exact cE))|((with_reducible refine aN (cp _) ?_ ?_);(·exact cE))|((with_reducible refine aO (fun _=>cp _) ?_ ?_);(·exact cE))|refine aH ?_|((with_reducible refine aA ?_ ?_)<;>intro hc<;>(try simp only[List.length_map,ne_eq,dY] at hc)<;>try(exfalso;omega)))
 all_goals exact rfl
theorem lB (a b:Int):Pure Tryz.prog 217 [i64 a,i64 b] (fun r=>r=i64 (tr (decide (a≠b)))):=by
 refine aI zH rfl ?_
 repeat' (first|((with_reducible refine aF ?_);conv=>whnf)|refine aG ?_|exact aC|with_reducible refine aD ?_ ?_|(apply aB;(·exact cO))|((with_reducible refine aQ (cp _) ?_ ?_);(·exact cE))|((with_reducible refine aP (fun _=>cp _) ?_ ?_);(·exact cE))|((with_reducible refine aN (cp _) ?_ ?_);(·exact cE))|((with_reducible refine aO (fun _=>cp _) ?_ ?_);(·exact cE))|refine aH ?_|((with_reducible refine aA ?_ ?_)<;>intro hc<;>(try simp only[List.length_map,ne_eq,dY] at hc)<;>try(exfalso;omega)))
 all_goals exact rfl
theorem mg (a b:Int):Pure Tryz.prog 218 [i64 a,i64 b] (fun r=>r=i64 (tr (decide (a<b)))):=by
 refine aI zI rfl ?_
 repeat' (first|((with_reducible refine aF ?_);conv=>whnf)|refine aG ?_|exact aC|with_reducible refine aD ?_ ?_|(apply aB;(·exact cO))|((with_reducible refine aQ (cp _) ?_ ?_);(·exact cE))|((with_reducible refine aP (fun _=>cp _) ?_ ?_);(·exact cE))|((with_reducible refine aN (cp _) ?_ ?_);(·exact cE))|((with_reducible refine aO (fun _=>cp _) ?_ ?_);(·exact cE))|refine aH ?_|((with_reducible refine aA ?_ ?_)<;>intro hc<;>(try simp only[List.length_map,ne_eq,dY] at hc)<;>try(exfalso;omega)))
 all_goals exact rfl
theorem mj (a b:Int):Pure Tryz.prog 219 [i64 a,i64 b] (fun r=>r=i64 (tr (decide (a≤b)))):=by
 refine aI zJ rfl ?_
 repeat' (first|((with_reducible refine aF ?_);conv=>whnf)|refine aG ?_|exact aC|with_reducible refine aD ?_ ?_|(apply aB;(·exact cO))|((with_reducible refine aQ (cp _) ?_ ?_);(·exact cE))|((with_reducible refine aP (fun _=>cp _) ?_ ?_);(·exact cE))|((with_reducible refine aN (cp _) ?_ ?_);(·exact cE))|((with_reducible refine aO (fun _=>cp _) ?_ ?_);(·exact cE))|refine aH ?_|((with_reducible refine aA ?_ ?_)<;>intro hc<;>(try simp only[List.length_map,ne_eq,dY] at hc)<;>try(exfalso;omega)))
 all_goals exact rfl
theorem kd (a b:Int):Pure Tryz.prog 220 [i64 a,i64 b] (fun r=>r=i64 (tr (decide (b<a)))):=by
 refine aI zK rfl ?_
 repeat' (first|((with_reducible refine aF ?_);conv=>whnf)|refine aG ?_|exact aC|with_reducible refine aD ?_ ?_|(apply aB;(·exact cO))|((with_reducible refine aQ (cp _) ?_ ?_);(·exact cE))|((with_reducible refine aP (fun _=>cp _) ?_ ?_);(·exact cE))|((with_reducible refine aN (cp _) ?_ ?_);(·exact cE))|((with_reducible refine aO (fun _=>cp _) ?_ ?_);(·exact cE))|refine aH ?_|((with_reducible refine aA ?_ ?_)<;>intro hc<;>(try simp only[List.length_map,ne_eq,dY] at hc)<;>try(exfalso;omega)))
 all_goals exact rfl
theorem lD (a b:Int):Pure Tryz.prog 221 [i64 a,i64 b] (fun r=>r=i64 (tr (decide (b≤a)))):=by
 refine aI zL rfl ?_
 repeat' (first|((with_reducible refine aF ?_);conv=>whnf)|refine aG ?_|exact aC|with_reducible refine aD ?_ ?_|(apply aB;(·exact cO))|((with_reducible refine aQ (cp _) ?_ ?_);(·exact cE))|((with_reducible refine aP (fun _=>cp _) ?_ ?_);(·exact cE))|((with_reducible refine aN (cp _) ?_ ?_);(·exact cE))|((with_reducible refine aO (fun _=>cp _) ?_ ?_);(·exact cE))|refine aH ?_|((with_reducible refine aA ?_ ?_)<;>intro hc<;>(try simp only[List.length_map,ne_eq,dY] at hc)<;>try(exfalso;omega)))
 all_goals exact rfl
theorem lF (a:Int):Pure Tryz.prog 222 [i64 a] (fun r=>r=i64 (wg (0 - a))):=by
 refine aI zM rfl ?_
 repeat' (first|((with_reducible refine aF ?_);conv=>whnf)|refine aG ?_|exact aC|with_reducible refine aD ?_ ?_|(apply aB;(·exact cO))|refine aH ?_|((with_reducible refine aA ?_ ?_)<;>intro hc<;>(try simp only[List.length_map,ne_eq,dY] at hc)<;>try(exfalso;omega)))
 all_goals exact rfl
theorem pA (a:Int):Pure Tryz.prog 223 [i64 a] (fun r=>r=i64 (tr (decide (a=0)))):=by
 refine aI zN rfl ?_
 repeat' (first|((with_reducible refine aF ?_);conv=>whnf)|refine aG ?_|exact aC|with_reducible refine aD ?_ ?_|(apply aB;(·exact cO))|((with_reducible refine aQ (cp _) ?_ ?_);(·exact cE))|((with_reducible refine aP (fun _=>cp _) ?_ ?_);(·exact cE))|((with_reducible refine aN (cp _) ?_ ?_);(·exact cE))|((with_reducible refine aO (fun _=>cp _) ?_ ?_);(·exact cE))|refine aH ?_|((with_reducible refine aA ?_ ?_)<;>intro hc<;>(try simp only[List.length_map,ne_eq,dY] at hc)<;>try(exfalso;omega)))
 all_goals exact rfl
def UF:AV:= .agg [.sc .nilFunc, .sc .nilFunc, .fn (.func 206) [] [], .sc .nilFunc, .fn (.func 207) [] [], .sc .nilFunc, .fn (.func 208) [] [], .sc .nilFunc, .fn (.func 209) [] [], .sc .nilFunc, .fn (.func 210) [] [], .sc .nilFunc, .fn (.func 211) [] [], .sc .nilFunc, .fn (.func 212) [] [], .sc .nilFunc, .fn (.func 213) [] [], .sc .nilFunc, .fn (.func 214) [] [], .sc .nilFunc, .fn (.func 215) [] [], .sc .nilFunc, .fn (.func 216) [] [], .sc .nilFunc, .fn (.func 217) [] [], .sc .nilFunc, .fn (.func 218) [] [], .sc .nilFunc, .fn (.func 219) [] [], .sc .nilFunc, .fn (.func 220) [] [], .sc .nilFunc, .fn (.func 221) [] [], .sc .nilFunc, .sc .nilFunc, .fn (.func 222) [] [], .sc .nilFunc, .fn (.func 223) [] []]
theorem mD:Pure Tryz.prog 197 [] (fun r=>r=UF):=kX (by simp[UF,cI,cX]) (by kernel_rfl)
def TR (op a b:Int):Int:=if op=1 then wg (a+b) else if op=2 then wg (a - b) else if op=3 then wg (a * b) else if op=4 then J6 a b else if op=5 then O4 a b else if op=6 then XJ a b else if op=7 then orW a b else if op=8 then YX a b else if op=9 then YJ a b else if op=10 then TC a b else if op=11 then tr (decide (a=b)) else if op=12 then tr (decide (a≠b)) else if op=13 then tr (decide (a<b)) else if op=14 then tr (decide (a≤b)) else if op=15 then tr (decide (b<a)) else tr (decide (b≤a))
def SY (op a:Int):Int:=if op=17 then wg (0 - a) else tr (decide (a=0))
theorem KP {op:Int} (h:dy op=true):op=1∨op=2∨op=3∨op=4∨op=5∨op=6∨op=7∨op=8∨op=9∨op=10∨op=11∨op=12∨op=13∨op=14∨op=15∨op=16:=by
 simp only[dy,Bool.and_eq_true,decide_eq_true_eq] at h;omega
theorem UM (op a b:Int) (h:dy op=true):Pure Tryz.prog 160 [u8 op,i64 a,i64 b] (fun r=>r= .dL [i64 (TR op a b),i64 0]):=by
 refine aI yd rfl ?_
 rcases KP h with rfl|rfl|rfl|rfl|rfl|rfl|rfl|rfl|rfl|rfl|rfl|rfl|rfl|rfl|rfl|rfl
 all_goals repeat' (first|((with_reducible refine aF ?_);conv=>whnf)|refine aG ?_|exact aC|with_reducible refine aD ?_ ?_|(apply aB;(·exact cO))|((with_reducible refine aQ (fO _ (by omega)) ?_ ?_);(·exact cE))|((with_reducible refine aP (fun _=>fO _ (by omega)) ?_ ?_);(·exact cE))|((with_reducible refine aN (fO _ (by omega)) ?_ ?_);(·exact cE))|((with_reducible refine aO (fun _=>fO _ (by omega)) ?_ ?_);(·exact cE))|refine aK (mD) ?_|((with_reducible refine aQ (oI _ _) ?_ ?_);(·exact cE))|((with_reducible refine aP (fun _=>oI _ _) ?_ ?_);(·exact cE))|((with_reducible refine aN (oI _ _) ?_ ?_);(·exact cE))|((with_reducible refine aO (fun _=>oI _ _) ?_ ?_);(·exact cE))|((with_reducible refine aQ (pQ _ _) ?_ ?_);(·exact cE))|((with_reducible refine aP (fun _=>pQ _ _) ?_ ?_);(·exact cE))|((with_reducible refine aN (pQ _ _) ?_ ?_);(·exact cE))|((with_reducible refine aO (fun _=>pQ _ _) ?_ ?_);(·exact cE))|((with_reducible refine aQ (ot _ _) ?_ ?_);(·exact cE))|((with_reducible refine aP (fun _=>ot _ _) ?_ ?_);(·exact cE))|((with_reducible refine aN (ot _ _) ?_ ?_);(·exact cE))|((with_reducible refine aO (fun _=>ot _ _) ?_ ?_);(·exact cE))|((with_reducible refine aQ (iJ _ _) ?_ ?_);(·exact cE))|((with_reducible refine aP (fun _=>iJ _ _) ?_ ?_);(·exact cE))|((with_reducible refine aN (iJ _ _) ?_ ?_);(·exact cE))|((with_reducible refine aO (fun _=>iJ _ _) ?_ ?_);(·exact cE))|((with_reducible refine aQ (pI _ _) ?_ ?_);(·exact cE))|((with_reducible refine aP (fun _=>pI _ _) ?_ ?_);(·exact cE))|((with_reducible refine aN (pI _ _) ?_ ?_);(·exact cE))|((with_reducible refine aO (fun _=>pI _ _) ?_ ?_);(·exact cE))|((with_reducible refine aQ (oL _ _) ?_ ?_);(·exact cE))|((with_reducible refine aP (fun _=>oL _ _) ?_ ?_);(·exact cE))|((with_reducible refine aN (oL _ _) ?_ ?_);(·exact cE))|((with_reducible refine aO (fun _=>oL _ _) ?_ ?_);(·exact cE))|((with_reducible refine aQ (pD _ _) ?_ ?_);(·exact cE))|((with_reducible refine aP (fun _=>pD _ _) ?_ ?_);(·exact cE))|((with_reducible refine aN (pD _ _) ?_ ?_);(·exact cE))|((with_reducible refine aO (fun _=>pD _ _) ?_ ?_);(·exact cE))|((with_reducible refine aQ (pU _ _) ?_ ?_);(·exact cE))|((with_reducible refine aP (fun _=>pU _ _) ?_ ?_);(·exact cE))|((with_reducible refine aN (pU _ _) ?_ ?_);(·exact cE))|((with_reducible refine aO (fun _=>pU _ _) ?_ ?_);(·exact cE))|((with_reducible refine aQ (pM _ _) ?_ ?_);(·exact cE))|((with_reducible refine aP (fun _=>pM _ _) ?_ ?_);(·exact cE))|((with_reducible refine aN (pM _ _) ?_ ?_);(·exact cE))|((with_reducible refine aO (fun _=>pM _ _) ?_ ?_);(·exact cE))|((with_reducible refine aQ (pN _ _) ?_ ?_);(·exact cE))|((with_reducible refine aP (fun _=>pN _ _) ?_ ?_);(·exact cE))|((with_reducible refine aN (pN _ _) ?_ ?_);(·exact cE))|((with_reducible refine aO (fun _=>pN _ _) ?_ ?_);(·exact cE))|((with_reducible refine aQ (rB _ _) ?_ ?_);(·exact cE))|((with_reducible refine aP (fun _=>rB _ _) ?_ ?_);(·exact cE))|((with_reducible refine aN (rB _ _) ?_ ?_);(·exact cE))|((with_reducible refine aO (fun _=>rB _ _) ?_ ?_);(·exact cE))|((with_reducible refine aQ (lB _ _) ?_ ?_);(·exact cE))|((with_reducible refine aP (fun _=>lB _ _) ?_ ?_);(·exact cE))|((with_reducible refine aN (lB _ _) ?_ ?_);(·exact cE))|((with_reducible refine aO (fun _=>lB _ _) ?_ ?_);(·exact cE))|((with_reducible refine aQ (mg _ _) ?_ ?_);(·exact cE))|((with_reducible refine aP (fun _=>mg _ _) ?_ ?_);(·exact cE))|((with_reducible refine aN (mg _ _) ?_ ?_);(·exact cE))|((with_reducible refine aO (fun _=>mg _ _) ?_ ?_);(·exact cE))|((with_reducible refine aQ (mj _ _) ?_ ?_);(·exact cE))|((with_reducible refine aP (fun _=>mj _ _) ?_ ?_);(·exact cE))|((with_reducible refine aN (mj _ _) ?_ ?_);(·exact cE))|((with_reducible refine aO (fun _=>mj _ _) ?_ ?_);(·exact cE))|((with_reducible refine aQ (kd _ _) ?_ ?_);(·exact cE))|((with_reducible refine aP (fun _=>kd _ _) ?_ ?_);(·exact cE))|((with_reducible refine aN (kd _ _) ?_ ?_);(·exact cE))|((with_reducible refine aO (fun _=>kd _ _) ?_ ?_);(·exact cE))|((with_reducible refine aQ (lD _ _) ?_ ?_);(·exact cE))|((with_reducible refine aP (fun _=>lD _ _) ?_ ?_);(·exact cE))|((with_reducible refine aN (lD _ _) ?_ ?_);(·exact cE))|((with_reducible refine aO (fun _=>lD _ _) ?_ ?_);(·exact cE))|refine aH ?_|((with_reducible refine aA ?_ ?_)<;>intro hc<;>(try simp only[List.length_map,ne_eq,dY] at hc)<;>try(exfalso;omega)))
 all_goals (first|exact rfl|trace_state)
theorem QA (op a:Int) (h:op=17∨op=18):Pure Tryz.prog 161 [u8 op,i64 a] (fun r=>r= .dL [i64 (SY op a),i64 0]):=by
 refine aI ye rfl ?_
 rcases h with rfl|rfl
 all_goals repeat' (first|((with_reducible refine aF ?_);conv=>whnf)|refine aG ?_|exact aC|with_reducible refine aD ?_ ?_|(apply aB;(·exact cO))|((with_reducible refine aQ (fk _) ?_ ?_);(·exact cE))|((with_reducible refine aP (fun _=>fk _) ?_ ?_);(·exact cE))|((with_reducible refine aN (fk _) ?_ ?_);(·exact cE))|((with_reducible refine aO (fun _=>fk _) ?_ ?_);(·exact cE))|((with_reducible refine aQ (fO _ (by omega)) ?_ ?_);(·exact cE))|((with_reducible refine aP (fun _=>fO _ (by omega)) ?_ ?_);(·exact cE))|((with_reducible refine aN (fO _ (by omega)) ?_ ?_);(·exact cE))|((with_reducible refine aO (fun _=>fO _ (by omega)) ?_ ?_);(·exact cE))|refine aK (mD) ?_|((with_reducible refine aQ (lF _) ?_ ?_);(·exact cE))|((with_reducible refine aP (fun _=>lF _) ?_ ?_);(·exact cE))|((with_reducible refine aN (lF _) ?_ ?_);(·exact cE))|((with_reducible refine aO (fun _=>lF _) ?_ ?_);(·exact cE))|((with_reducible refine aQ (pA _) ?_ ?_);(·exact cE))|((with_reducible refine aP (fun _=>pA _) ?_ ?_);(·exact cE))|((with_reducible refine aN (pA _) ?_ ?_);(·exact cE))|((with_reducible refine aO (fun _=>pA _) ?_ ?_);(·exact cE))|refine aH ?_|((with_reducible refine aA ?_ ?_)<;>intro hc<;>(try simp only[List.length_map,ne_eq,dY] at hc)<;>try(exfalso;omega)))
 all_goals (first|exact rfl|trace_state)
end Go.Proofs.YtjopoheligmmoaaGreatDoor
end
section
/- A step in plain data. -/
namespace Go.Proofs.YtjopoheligmmoaaGreatDoor
open Go Go.cY Go.Proofs
set_option linter.unusedSimpArgs false
set_option linter.unusedVariables false
structure gR where
 da:Int
 node:Int
 kind:Int
 cM:Int
 word:Int
 put:Int
 deriving Inhabited,DecidableEq
def gR.cells (d:gR):List AV:=[i64 d.da,i64 d.node,u8 d.kind,i64 d.cM,i64 d.word,i64 d.put]
abbrev gR.av (d:gR):AV:= .agg d.cells
def MS.val (m:MS) (t:Nat) (v:lX):Int:=if v.jL then(m.bx.getD t []).getD v.slot.toNat 0 else v.word
def MS.gY (m:MS) (t:Nat) (k:Int) (w:Int):MS:={ m with bx:=m.bx.set t ((m.bx.getD t []).set k.toNat w) }
def MS.DK (m:MS) (t:Nat) (n:Node):Int:=if dy n.op then TR n.op (m.val t n.a) (m.val t n.b) else if n.op≠0 then SY n.op (m.val t n.a) else m.val t n.a
def MS.act (m:MS) (t:Nat) (n:Node):MS×Int×Int×Int×Int:=
 if n.kind=1 then(m.gY t n.slot (m.DK t n),n.next,0,m.DK t n,0)
 else if n.kind=2 then(m.gY t n.slot (m.mem.getD n.cM.toNat 0),n.next,n.cM,m.mem.getD n.cM.toNat 0,0)
 else if n.kind=3 then({ m with mem:=m.mem.set n.cM.toNat (m.val t n.a) },n.next,n.cM,m.val t n.a,0)
 else if n.kind=4 then({ m.gY t n.slot (m.mem.getD n.cM.toNat 0) with mem:=m.mem.set n.cM.toNat (m.val t n.a) },n.next,n.cM,m.mem.getD n.cM.toNat 0,m.val t n.a)
 else if n.kind=5 then({ m with hold:=m.hold.set n.cM.toNat t },n.next,n.cM,0,0)
 else if n.kind=6 then({ m with hold:=m.hold.set n.cM.toNat (-1) },n.next,n.cM,0,0)
 else if n.kind=7 then({ m with cN:=m.cN++[⟨t,m.val t n.a⟩] },n.next,0,m.val t n.a,0)
 else(m,if m.val t n.a=0 then n.sE else n.next,0,m.val t n.a,0)
def MS.step (u:bu) (m:MS) (t:Nat):MS×gR:=
 let n:=m.node u t
 let r:=m.act t n
 ({ r.1 with at_:=m.at_.set t r.2.1 },⟨t,m.at_.getD t 0,n.kind,r.2.2.1,r.2.2.2.1,r.2.2.2.2⟩)
end Go.Proofs.YtjopoheligmmoaaGreatDoor
end
