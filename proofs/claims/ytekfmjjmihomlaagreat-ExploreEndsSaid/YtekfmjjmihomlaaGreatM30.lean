import Derived.Test.YtekfmjjmihomlaaGreatM26
import Derived.Test.YtekfmjjmihomlaaGreatM27
import Derived.Test.YtekfmjjmihomlaaGreatM28
import Derived.Test.YtekfmjjmihomlaaGreatM29
section
/- The source machine in plain data. -/
namespace Go.Proofs.YtekfmjjmihomlaaGreat
open Go Go.cZ Go.Proofs
set_option linter.unusedSimpArgs false
set_option linter.unusedVariables false
structure cg where
 ch:Int
 word:Int
 deriving Inhabited,DecidableEq
def cg.cells (p:cg):List AV:=[i64 p.ch,i64 p.word]
abbrev cg.av (p:cg):AV:= .agg p.cells
structure MS where
 at_:List Int
 br:List (List Int)
 mem:List Int
 hold:List Int
 bu:List cg
 deriving Inhabited,DecidableEq
abbrev cm (l:List Int):AV:= .im 1 .any (l.map i64)
abbrev qR (l:List (List Int)):AV:= .im 1 .any (l.map cm)
abbrev ez (l:List cg):AV:= .im 2 .any (l.map cg.av)
def MS.cells (u:bt) (m:MS):List AV:=[bw u.shared,bw u.bx,cR u.bo,cm m.at_,qR m.br,cm m.mem,cm m.hold,ez m.bu]
abbrev MS.fz (u:bt) (m:MS):AV:= .ip 8 .any [.agg (m.cells u)] 0 0
@[simp] theorem PX (n:Nat) (p:cg):cT n p.cells:=by simp[cg.cells,cT,cE]
@[simp] theorem R6 (n:Nat) (u:bt) (m:MS):cT n (m.cells u):=by simp[MS.cells,cT,cE,cC]
theorem oy (n:Nat) (u:bt) (m:MS):cE n (m.fz u):=by simp[cE,cT]
structure eU (u:bt) (m:MS):Prop where
 nX:m.at_.length=u.bo.length
 gy:∀t,t<u.bo.length→0≤m.at_.getD t 0∧m.at_.getD t 0<(u.gr t).nodes.length
 sl:m.br.length=u.bo.length
 yR:∀t,t<u.bo.length→(m.br.getD t []).length=(u.gr t).br.toNat
 AG:∀t,t<u.bo.length→∀w∈m.br.getD t [],eM w
 ml:m.mem.length=u.shared.length
 mw:∀w∈m.mem,eM w
 hl:m.hold.length=u.bx.length
 hw:∀w∈m.hold,-1≤w∧w<u.bo.length
 pw:∀p∈m.bu,0≤p.ch∧p.ch<u.bo.length∧eM p.word
abbrev MS.node (u:bt) (m:MS) (t:Nat):Node:=(u.gr t).nd (m.at_.getD t 0).toNat
def MS.mQ (u:bt) (m:MS) (t:Int):Int:=if t<0∨(m.at_.length:Int)≤t then 2 else if(m.node u t.toNat).kind=9 then 70 else if(m.node u t.toNat).kind=5∧0≤m.hold.getD (m.node u t.toNat).cH.toNat 0 then 71 else 0
theorem eX {l:List Int} {k:Nat} (h:k<l.length) (d:AV):(l.map i64).getD ((k:Int)).toNat d=i64 (l.getD k 0):=by
 rw[Int.toNat_natCast];exact dB i64 l k d h
theorem iO {l:List Int} {k:Int} (h:k.toNat<l.length) (d:AV):(l.map i64).getD k.toNat d=i64 (l.getD k.toNat 0):=dB i64 l k.toNat d h
theorem eU.node {u:bt} {m:MS} (hr:dC u) (h:eU u m) {t:Nat} (ht:t<u.bo.length):og u (u.gr t) (m.node u t):=by
 have:=h.gy t ht
 exact(hr.gr ht).nodes _ (cW default (by omega))
theorem A0 {u:bt} {m:MS} {t:Int} (h:t<0∨(m.at_.length:Int)≤t):m.mQ u t=2:=by unfold MS.mQ;rw[if_pos h]
theorem J2 (u:bt) (m:MS) (t:Int):Pure Tryz.prog 81 [m.fz u,i64 t] (fun r=>r=bl (decide (¬(t<0∨(m.at_.length:Int)≤t)))):=by
 refine aI IJ rfl ?_
 refine cV ?_
 refine db ?_
 rw[List.length_map]
 by_cases h1:0≤t<;>by_cases h2:t<m.at_.length<;>simp[h1,h2]<;>omega
set_option maxRecDepth 8000 in
set_option maxHeartbeats 2000000 in
theorem yY (u:bt) (hr:dC u) (m:MS) (h:eU u m) (t:Int):Pure Tryz.prog 54 [m.fz u,i64 t] (fun r=>r=i64 (m.mQ u t)):=by
 have c0:=J2 u m t
 have hl:=h.nX
 by_cases ht:t<0∨(m.at_.length:Int)≤t
 ·rw[A0 ht]
  rw[decide_eq_false (fun e=>e ht)] at c0
  refine aI uj rfl ?_
  refine cV ?_
  first|exact rfl|trivial
 ·rw[decide_eq_true ht] at c0
  obtain⟨k,rfl⟩:∃k:Nat,t=k:=⟨t.toNat,by omega⟩
  have hk:k<u.bo.length:=by omega
  have hbar:m.mQ u k=if(m.node u k).kind=9 then 70 else if(m.node u k).kind=5∧0≤m.hold.getD (m.node u k).cH.toNat 0 then 71 else 0:=by
   unfold MS.mQ;rw[if_neg ht,Int.toNat_natCast]
  rw[hbar]
  have hno:=h.node hr hk
  obtain⟨p0,p1⟩:=h.gy k hk
  have e0:=fun d=>lV (l:=u.bo) hk d
  have e1:=fun d=>eX (l:=m.at_) (k:=k) (by omega) d
  obtain⟨j,hj⟩:∃j:Nat,m.at_.getD k 0=j:=⟨(m.at_.getD k 0).toNat,by omega⟩
  rw[hj] at e1 p1
  have hnd:m.node u k=(u.gr k).nd j:=by unfold MS.node;rw[hj,Int.toNat_natCast]
  rw[hnd] at hno ⊢
  have hgr:u.bo.getD k default=u.gr k:=rfl
  rw[hgr] at e0
  generalize u.gr k=g at *
  have e2:=fun d=>gG (l:=g.nodes) (i:=j) (by omega) d
  rw[show g.nodes.getD j default=g.nd j from rfl] at e2
  generalize g.nd j=n at *
  have a0:(u.bo.map cA.av).length=u.bo.length:=by simp
  have a1:(m.at_.map i64).length=u.bo.length:=by simp[hl]
  have a2:(g.nodes.map Node.av).length=g.nodes.length:=by simp
  have a3:(m.hold.map i64).length=u.bx.length:=by simp[h.hl]
  by_cases h9:n.kind=9
  ·have r0:=h9
   rw[if_pos h9]
   refine aI uj rfl ?_
   refine cV ?_
   first|exact rfl|trivial
  ·rw[if_neg h9]
   by_cases h5:n.kind=5
   ·have hth:=hno.cH.1 (by unfold e8;exact decide_eq_true (by omega))
    rw[if_pos (.inl h5)] at hth
    have hhl:=h.hl
    have e3:=fun d=>iO (l:=m.hold) (k:=n.cH) (by omega) d
    have r0:=h5
    by_cases hh:0≤m.hold.getD n.cH.toNat 0
    ·rw[if_pos ⟨h5,hh⟩]
     have r1:=decide_eq_true hh
     refine aI uj rfl ?_
     refine cV ?_
     first|exact rfl|trivial
    ·rw[if_neg fun e=>hh e.2]
     have r1:=decide_eq_false hh
     refine aI uj rfl ?_
     refine cV ?_
     first|exact rfl|trivial
   ·rw[if_neg fun e=>h5 e.1]
    have r1:=decide_eq_false h5
    refine aI uj rfl ?_
    refine cV ?_
    first|exact rfl|trivial
theorem FN (u:bt) (hr:dC u) (m:MS) (h:eU u m) (t:Int):Pure Tryz.prog 22 [m.fz u,i64 t] (fun r=>r=bl (decide (m.mQ u t=0))):=by
 have c0:=yY u hr m h t
 refine aI G8 rfl ?_
 refine cV ?_
 first|exact rfl|trivial
def MS.ended (u:bt) (m:MS):Bool:=(List.range m.at_.length).all fun t=>decide (m.mQ u t=70)
theorem FZ (u:bt) (hr:dC u) (m:MS) (h:eU u m):Pure Tryz.prog 57 [m.fz u] (fun r=>r=bl (m.ended u)):=by
 have hl:=h.nX
 have hgl:=hr.vO
 refine aI HX rfl ?_
 refine cV ?_
 rw[List.length_map]
 refine aP (fun i:Nat=>[(0,m.fz u),(10,i64 m.at_.length),(11,i64 i)]) (fun i H n=>i≤m.at_.length∧∀j:Nat,j<i→m.mQ u j=70) (fun i=>m.at_.length - i) 0 cI ⟨Nat.zero_le _,fun j hj=>by omega⟩ ?_
 rintro i H n ⟨hi,hall⟩
 by_cases hil:i<m.at_.length
 ·have c0:=yY u hr m h i
  by_cases hb:m.mQ u i=70
  ·have r0:=hb
   refine cV ?_
   exact⟨i+1,by omega,cI,by omega,fun j hj=>by
    by_cases e:j=i
    ·rw[e];exact hb
    ·exact hall j (by omega)⟩
  ·have r0:=decide_eq_true hb
   refine cV ?_
   refine db (Eq.symm ?_)
   unfold MS.ended
   rw[List.all_eq_false]
   exact⟨i,List.mem_range.2 hil,by simpa using hb⟩
 ·refine cV ?_
  refine db (Eq.symm ?_)
  unfold MS.ended
  rw[List.all_eq_true]
  intro j hj
  exact decide_eq_true (hall j (by have:=List.mem_range.1 hj;omega))
end Go.Proofs.YtekfmjjmihomlaaGreat
end
section
/- Ends compared: plain data, the small functions of the code. -/
namespace Go.Proofs.YtekfmjjmihomlaaGreat
open Go Go.cZ Go.Proofs
set_option linter.unusedSimpArgs false
set_option linter.unusedVariables false
structure cj where
 bu:List cg
 mem:List Int
 ended:Bool
 deriving Inhabited,DecidableEq
def cj.cells (e:cj):List AV:=[ez e.bu,cm e.mem,bl e.ended]
abbrev cj.av (e:cj):AV:= .agg e.cells
@[simp] theorem RG (n:Nat) (e:cj):cT n e.cells:=by simp[cj.cells,cT,cE,cC]
def fD (x y:Int):Int:=if x<y then -1 else if y<x then 1 else 0
def kr:List Int→Int
 |[]=>0
 |x::l=>if x=0 then kr l else x
def fp (p q:cg):Int:=kr [fD p.ch q.ch,fD p.word q.word]
def er {α:Type} (f:α→α→Int):List α→List α→Int
 |[],[]=>0
 |[],_::_=>-1
 |_::_,[]=>1
 |x::a,y::b=>if f x y=0 then er f a b else f x y
def sR (a b:Bool):Int:=if a=b then 0 else if b then -1 else 1
def dz (a b:cj):Int:=kr [er fp a.bu b.bu,er fD a.mem b.mem,sR a.ended b.ended]
theorem qI {α:Type} (f:α→α→Int) (d:α) {a b:List α} {i:Nat} (h1:i<a.length) (h2:i<b.length):er f (a.drop i) (b.drop i)=if f (a.getD i d) (b.getD i d)=0 then er f (a.drop (i+1)) (b.drop (i+1)) else f (a.getD i d) (b.getD i d):=by
 rw[List.drop_eq_getElem_cons h1,List.drop_eq_getElem_cons h2,er]
 simp[List.getD,List.getElem?_eq_getElem h1,List.getElem?_eq_getElem h2]
theorem np {α:Type} (f:α→α→Int) {a b:List α} {i:Nat} (h1:i<a.length) (h2:b.length≤i):er f (a.drop i) (b.drop i)=1:=by
 rw[List.drop_eq_getElem_cons h1,List.drop_of_length_le h2,er]
theorem nn {α:Type} (f:α→α→Int) {a b:List α} {i:Nat} (h1:a.length≤i) (h2:i≤b.length):er f (a.drop i) (b.drop i)=if i<b.length then -1 else 0:=by
 rw[List.drop_of_length_le h1]
 split
 ·rename_i h;rw[List.drop_eq_getElem_cons h,er]
 ·rw[List.drop_of_length_le (by omega),er]
theorem BZ (x:Int):Pure Tryz.prog 76 [i64 x] (fun r=>r=bl false):=by
 refine aI IE rfl ?_
 refine cV ?_
 refine db ?_
 simp
theorem xd (x:Int):Pure Tryz.prog 77 [i64 x] (fun r=>r=bl false):=by
 refine aI IF rfl ?_
 refine cV ?_
 refine db ?_
 simp
theorem FQ (x y:Int):Pure Tryz.prog 48 [i64 x,i64 y] (fun r=>r=i64 (fD x y)):=by
 have c0:=BZ x
 have c1:=BZ y
 unfold fD
 by_cases h:x<y
 ·rw[if_pos h]
  refine aI zL rfl ?_
  refine cV ?_
  first|exact rfl|trivial
 ·rw[if_neg h]
  by_cases h2:y<x
  ·rw[if_pos h2]
   refine aI zL rfl ?_
   refine cV ?_
   first|exact rfl|trivial
  ·rw[if_neg h2]
   refine aI zL rfl ?_
   refine cV ?_
   first|exact rfl|trivial
theorem tC (x y:Int):Pure Tryz.prog 49 [i64 x,i64 y] (fun r=>r=i64 (fD x y)):=by
 have c0:=xd x
 have c1:=xd y
 unfold fD
 by_cases h:x<y
 ·rw[if_pos h]
  refine aI zM rfl ?_
  refine cV ?_
  first|exact rfl|trivial
 ·rw[if_neg h]
  by_cases h2:y<x
  ·rw[if_pos h2]
   refine aI zM rfl ?_
   refine cV ?_
   first|exact rfl|trivial
  ·rw[if_neg h2]
   refine aI zM rfl ?_
   refine cV ?_
   first|exact rfl|trivial
theorem JA {l:List Int} {i:Nat} (h:i<l.length):kr (l.drop i)=if l.getD i 0=0 then kr (l.drop (i+1)) else l.getD i 0:=by
 rw[List.drop_eq_getElem_cons h,kr]
 simp[List.getD,List.getElem?_eq_getElem h]
theorem B1 (l:List Int) (hl:l.length≤1000):Pure Tryz.prog 47 [cm l] (fun r=>r=i64 (kr l)):=by
 refine aI HQ rfl ?_
 refine cV ?_
 rw[List.length_map]
 refine aP (fun i:Nat=>[(3,i64 0),(6,cm l),(7,i64 l.length),(8,i64 i)]) (fun i H n=>i≤l.length∧kr l=kr (l.drop i)) (fun i=>l.length - i) 0 cI ⟨Nat.zero_le _,rfl⟩ ?_
 rintro i H n ⟨hi,ho⟩
 rw[ho]
 by_cases hil:i<l.length
 ·have e0:=fun d=>eX (l:=l) hil d
  have a0:(l.map i64).length=l.length:=by simp
  have hd:=JA hil
  by_cases hz:l.getD i 0=0
  ·have r0:=hz
   rw[if_pos hz] at hd
   refine cV ?_
   exact⟨i+1,by omega,cI,by omega,hd⟩
  ·have r0:=decide_eq_true hz
   rw[if_neg hz] at hd
   refine cV ?_
   rw[hd]
 ·rw[List.drop_of_length_le (by omega)]
  refine cV ?_
  first|exact rfl|trivial
end Go.Proofs.YtekfmjjmihomlaaGreat
end
section
/- Copies of lists; what a machine shows. -/
namespace Go.Proofs.YtekfmjjmihomlaaGreat
open Go Go.cZ Go.Proofs
set_option linter.unusedSimpArgs false
set_option linter.unusedVariables false
theorem pO {p:Prop} (h:Go p):p:=h
theorem CT {es:List AV} (hf:cT 0 es) (hl:es.length * 16≤140737488355328):cP Tryz.prog 63 [.im 2 .any es] [] 0 (fun r H _=>cZ.dX H 6 r= .sc (.slice none 0 0)∧es=[]∨cZ.dX H 6 r= .im 2 .any es):=by
 refine aQ HZ rfl ?_
 cases es with
 |nil=>
  refine cV ?_
  refine⟨pO ?_,pO ?_⟩
  ·refine cV ?_
   exact⟨.inl ⟨rfl,rfl⟩⟩
  ·refine cV ?_
   exact⟨.inr rfl⟩
 |cons x t=>
  have a0:(x::t).length * 16≤iV:=hl
  simp only[List.length_cons] at hl
  refine cV ?_
  refine⟨.inr ((dF (e:=89) (sz:=2) (es:=x::t) bq (Nat.zero_add _).symm).trans ?_)⟩
  rw[cc _ hf]
theorem CU {es:List AV} (hf:cT 0 es) (hl:es.length * 8≤140737488355328):cP Tryz.prog 90 [.im 1 .any es] [] 0 (fun r H _=>cZ.dX H 6 r= .sc (.slice none 0 0)∧es=[]∨cZ.dX H 6 r= .im 1 .any es):=by
 refine aQ IS rfl ?_
 cases es with
 |nil=>
  refine cV ?_
  refine⟨pO ?_,pO ?_⟩
  ·refine cV ?_
   exact⟨.inl ⟨rfl,rfl⟩⟩
  ·refine cV ?_
   exact⟨.inr rfl⟩
 |cons x t=>
  have a0:(x::t).length * 8≤iV:=hl
  simp only[List.length_cons] at hl
  refine cV ?_
  refine⟨.inr ((dF (e:=2) (sz:=1) (es:=x::t) bq (Nat.zero_add _).symm).trans ?_)⟩
  rw[cc _ hf]
theorem vm (l:List cg) (hl:l.length * 16≤140737488355328):Pure Tryz.prog 63 [ez l] (fun r=>r=ez l):=
 mK (by simp[cE,cC]) (CT ((cC _ _).2 fun _ _=>by simp[cE]) (by rw[List.length_map];exact hl))
theorem vo (l:List Int) (hl:l.length * 8≤140737488355328):Pure Tryz.prog 90 [cm l] (fun r=>r=cm l):=
 mK (by simp[cE,cC]) (CU ((cC _ _).2 fun _ _=>by simp[cE]) (by rw[List.length_map];exact hl))
theorem D8 (u:bt) (m:MS) (hl:m.bu.length * 16≤140737488355328):Pure Tryz.prog 30 [m.fz u] (fun r=>r=ez m.bu):=by
 have c0:=vm m.bu hl
 refine aI HB rfl ?_
 refine cV ?_
 first|exact rfl|trivial
theorem D1 (u:bt) (m:MS) (hl:m.mem.length * 8≤140737488355328):Pure Tryz.prog 56 [m.fz u] (fun r=>r=cm m.mem):=by
 have c0:=vo m.mem hl
 refine aI HW rfl ?_
 refine cV ?_
 first|exact rfl|trivial
end Go.Proofs.YtekfmjjmihomlaaGreat
end
section
/- Whether a situation is an end. -/
namespace Go.Proofs.YtekfmjjmihomlaaGreat
open Go Go.cZ Go.Proofs
set_option linter.unusedSimpArgs false
set_option linter.unusedVariables false
def MS.stuck (u:bt) (m:MS):Bool:=(List.range m.at_.length).all fun t=>decide (m.mQ u t≠0)
def MS.end_ (u:bt) (m:MS):cj:=⟨m.bu,m.mem,m.ended u⟩
def ku (u:bt) (m:MS):AV:=if m.stuck u then .dV [(m.end_ u).av,bl true] else .dV [.agg [.sc (.slice none 0 0), .sc (.slice none 0 0),bl false],bl false]
theorem tq (u:bt) (hr:dC u) (m:MS) (h:eU u m) (hp:m.bu.length * 16≤140737488355328) (hm:m.mem.length * 8≤140737488355328):Pure Tryz.prog 36 [u.av,m.fz u] (fun r=>r=ku u m):=by
 have hl:=h.nX
 have hgl:=hr.vO
 have c1:=D8 u m hp
 have c2:=D1 u m hm
 have c3:=FZ u hr m h
 refine aI HE rfl ?_
 refine cV ?_
 rw[List.length_map,←hl]
 refine aP (fun i:Nat=>[(1,m.fz u),(4, .pt 1 1 0 0),(9,i64 m.at_.length),(10,i64 i)]) (fun i H n=>i≤m.at_.length∧2≤n∧bn H 1=some (.row 40 3 (fZ true [.slice none 0 0, .slice none 0 0, .bool false]) [fZ true [.slice none 0 0, .slice none 0 0, .bool false]])∧∀j:Nat,j<i→m.mQ u j≠0) (fun i=>m.at_.length - i) 0 cI ⟨Nat.zero_le _,c8,bq,fun j hj=>by omega⟩ ?_
 rintro i H n ⟨hi,hn,hx,hall⟩
 by_cases hil:i<m.at_.length
 ·have c0:=FN u hr m h i
  by_cases hb:m.mQ u i=0
  ·have hs:m.stuck u=false:=by
    unfold MS.stuck
    rw[List.all_eq_false]
    exact⟨i,List.mem_range.2 hil,by simpa using hb⟩
   have r0:=decide_eq_true hb
   rw[ku,hs]
   refine cV ?_
   first|exact rfl|trivial
  ·have r0:=decide_eq_false hb
   refine cV ?_
   exact⟨i+1,by omega,cI,by omega,by omega,bq,fun j hj=>by
    by_cases e:j=i
    ·rw[e];exact hb
    ·exact hall j (by omega)⟩
 ·have hs:m.stuck u=true:=by
   unfold MS.stuck
   rw[List.all_eq_true]
   intro j hj
   exact decide_eq_true (hall j (by have:=List.mem_range.1 hj;omega))
  rw[ku,hs]
  refine cV ?_
  first|exact rfl|trivial
end Go.Proofs.YtekfmjjmihomlaaGreat
end
section
/- The machine in rows: Copy. -/
namespace Go.Proofs.YtekfmjjmihomlaaGreat
open Go Go.cZ Go.Proofs
set_option linter.unusedSimpArgs false
set_option linter.unusedVariables false
def dG (ids:List Nat) (l:List (List Int)):List AV:=(ids.zip l).map fun p=> .sl p.1 p.2.length
def MS.rows (u:bt) (m:MS) (a s me ho pr:Nat):AV:= .agg [bw u.shared,bw u.bx,cR u.bo, .sl a m.at_.length, .sl s m.br.length, .sl me m.mem.length, .sl ho m.hold.length, .sl pr m.bu.length]
structure PT (u:bt) (m:MS) (mr a s me ho pr:Nat) (ids:List Nat) (H:Hp):Prop where
 rM:∃d,bn H mr=some (.row 100 8 d [m.rows u a s me ho pr])
 rA:∃d,bn H a=some (.row 3 1 d (m.at_.map i64))
 rS:∃d,bn H s=some (.row 38 1 d (dG ids m.br))
 rL:∀t,t<m.br.length→∃d,bn H (ids.getD t 0)=some (.row 2 1 d ((m.br.getD t []).map i64))
 rE:∃d,bn H me=some (.row 2 1 d (m.mem.map i64))
 rH:∃d,bn H ho=some (.row 3 1 d (m.hold.map i64))
 rP:∃d,bn H pr=some (.row 89 2 d (m.bu.map cg.av))
 len:ids.length=m.br.length
 nodup:(mr::a::s::me::ho::pr::ids).Nodup
theorem mP {ids:List Nat} {l:List (List Int)} (h:ids.length=l.length) (i:Nat) (x:List Int):dG (ids++[i]) (l++[x])=dG ids l++[.sl i x.length]:=by
 unfold dG
 rw[List.zip_append h]
 simp
theorem copied (es:List AV) (z:AV):List.take (es.length.min (es.length:Int).toNat) es++List.drop (es.length.min (es.length:Int).toNat) (List.replicate (es.length:Int).toNat z)=es:=by
 rw[Int.toNat_natCast,show es.length.min es.length=es.length from Nat.min_self _]
 simp
set_option maxHeartbeats 4000000 in
theorem yh (u:bt) (m:MS) (h1:m.at_.length≤4096) (h2:m.mem.length≤4096) (h3:m.hold.length≤4096) (h4:m.bu.length≤1048576) (h5:m.br.length≤4096) (h6:∀l∈m.br,l.length≤1048576) (H0:Hp) (nx:Nat):cP Tryz.prog 65 [m.fz u] H0 nx (fun r H n=>∃mr a s me ho pr ids,r= .pt mr 1 0 0∧PT u m mr a s me ho pr ids H∧(∀x∈mr::a::s::me::ho::pr::ids,nx≤x∧x<n)∧nx≤n∧∀y,y<nx→bn H y=bn H0 y):=by
 refine aQ H6 rfl ?_
 refine cV ?_
 simp only[copied]
 simp only[List.length_map,Int.toNat_natCast]
 refine aU (fun σ:Nat×List Nat=>[(0,m.fz u),(3, .pt (nx+32) 1 0 0),(78,qR m.br),(79,i64 m.br.length),(80,i64 σ.1)])
  (fun σ H n=>σ.1≤m.br.length∧nx+77≤n∧σ.2.length=σ.1∧σ.2.Nodup∧(∀x∈σ.2,nx+77≤x∧x<n)∧(∃d,bn H (nx+32)=some (.row 100 8 d [.agg [bw u.shared,bw u.bx,cR u.bo, .sl (nx+12) m.at_.length, .sl (nx+76) σ.1, .sl (nx+18) m.mem.length, .sl (nx+24) m.hold.length, .sl (nx+30) m.bu.length]]))∧(∃d,bn H (nx+12)=some (.row 3 1 d (m.at_.map i64)))∧(∃d,bn H (nx+18)=some (.row 2 1 d (m.mem.map i64)))∧(∃d,bn H (nx+24)=some (.row 3 1 d (m.hold.map i64)))∧(∃d,bn H (nx+30)=some (.row 89 2 d (m.bu.map cg.av)))∧(∃d,bn H (nx+76)=some (.row 38 1 d (dG σ.2 (m.br.take σ.1))))∧(∀t,t<σ.1→∃d,bn H (σ.2.getD t 0)=some (.row 2 1 d ((m.br.getD t []).map i64)))∧∀y,y<nx→bn H y=bn H0 y) (fun σ=>m.br.length - σ.1) (0,[])
  ⟨_,_,_,Rt.wk (Wk.fX (b:=nx+32) (e:=38) (sz:=1) (by simp only[List.length_cons,List.length_nil];omega) (by omega) (te:=100) (tz:=8) (cs:=[bw u.shared,bw u.bx,cR u.bo, .sl (nx+12) m.at_.length, .sc (.slice none 0 0), .sl (nx+18) m.mem.length, .sl (nx+24) m.hold.length, .sl (nx+30) m.bu.length]) (j:=4) bq (by show 4<8;omega) rfl),cI,Nat.zero_le _,c8,rfl,List.nodup_nil,fun x hx=>by simp at hx,⟨_,bq⟩,⟨_,bq⟩,⟨_,bq⟩,⟨_,bq⟩,⟨_,bq⟩,⟨_,bq⟩,fun t ht=>absurd ht (Nat.not_lt_zero _),fun y hy=>cB⟩ ?_
 rintro⟨t,ids⟩ H n ⟨ht,hn,hil,hnd,hin,⟨d0,r0⟩,⟨d1,r1⟩,⟨d2,r2⟩,⟨d3,r3⟩,⟨d4,r4⟩,⟨d5,r5⟩,hls,hkp⟩
 dsimp only at ht hil hnd hin r0 r5 hls ⊢
 have htk:(m.br.take t).length=t:=by rw[List.length_take];omega
 have hrl:(dG ids (m.br.take t)).length=t:=by unfold dG;rw[List.length_map,List.length_zip,htk,hil];omega
 by_cases htl:t<m.br.length
 ·have e0:∀d,(m.br.map cm).getD ((t:Int)).toNat d=cm (m.br.getD t []):=fun d=>by rw[Int.toNat_natCast];exact dB cm m.br t d htl
  have a0:(m.br.map cm).length=m.br.length:=by simp
  have hnx:dG (ids++[n+6]) (m.br.take (t+1))=dG ids (m.br.take t)++[.sl (n+6) (m.br.getD t []).length]:=by
   rw[List.take_succ_eq_append_getElem htl,mP (by rw[hil,htk]),show m.br.getD t []=m.br[t] by simp[List.getD,htl]]
  have h7:=h6 _ (cW (l:=m.br) [] htl)
  refine cV ?_
  simp only[copied]
  simp only[List.length_map,Int.toNat_natCast]
  refine⟨(t+1,ids++[n+6]),by dsimp only;omega,_,_,_,Rt.refl _ _ _,cI,by dsimp only;omega,by omega,by simp[hil], ?_, ?_,⟨_,bq⟩,⟨_,bq⟩,⟨_,bq⟩,⟨_,bq⟩,⟨_,bq⟩,⟨_,by dsimp only;rw[hnx];exact bq⟩, ?_,fun y hy=>Eq.trans cB (hkp y hy)⟩
  ·refine List.nodup_append.2 ⟨hnd,by simp,fun a ha b hb=> ?_⟩
   simp only[List.mem_cons,List.not_mem_nil,or_false] at hb
   have:=hin _ ha;omega
  ·intro x hx
   rcases List.mem_append.1 hx with hx|hx
   ·have:=hin _ hx;exact⟨this.1,Nat.lt_of_lt_of_le this.2 c8⟩
   ·simp only[List.mem_cons,List.not_mem_nil,or_false] at hx
    subst hx;exact⟨by omega,c8⟩
  ·intro q hq
   have hq:q<t+1:=hq
   by_cases e:q=t
   ·subst e
    have e2:(ids++[n+6]).getD q 0=n+6:=by rw[List.getD,List.getElem?_append_right (by omega),hil,Nat.sub_self];rfl
    dsimp only
    rw[e2];exact⟨_,bq⟩
   ·obtain⟨d,hd⟩:=hls q (by omega)
    have e2:(ids++[n+6]).getD q 0=ids.getD q 0:=by simp[List.getD,List.getElem?_append,show q<ids.length by omega]
    have:=hin _ (dN (l:=ids) (q:=q) (by omega))
    dsimp only
    rw[e2];exact⟨d,Eq.trans cB hd⟩
 ·have:t=m.br.length:=by omega
  subst this
  rw[List.take_length] at r5
  refine cV ?_
  refine⟨⟨nx+32,nx+12,nx+76,nx+18,nx+24,nx+30,ids,rfl,⟨⟨_,bq⟩,⟨_,bq⟩,⟨_,bq⟩,fun t ht=> ?_,⟨_,bq⟩,⟨_,bq⟩,⟨_,bq⟩,hil, ?_⟩, ?_,c8,fun y hy=>Eq.trans cB (hkp y hy)⟩⟩
  ·obtain⟨d,hd⟩:=hls t ht
   have:=hin _ (dN (l:=ids) (q:=t) (by omega))
   exact⟨d,Eq.trans cB hd⟩
  ·have hno:∀k,k<nx+77→k∉ids:=fun k hk h=>by have:=hin _ h;omega
   simp only[List.nodup_cons,List.mem_cons,not_or]
   exact⟨⟨by omega,by omega,by omega,by omega,by omega,hno _ (by omega)⟩,⟨by omega,by omega,by omega,by omega,hno _ (by omega)⟩,⟨by omega,by omega,by omega,hno _ (by omega)⟩,⟨by omega,by omega,hno _ (by omega)⟩,⟨by omega,hno _ (by omega)⟩,hno _ (by omega),hnd⟩
  ·intro x hx
   simp only[List.mem_cons] at hx
   rcases hx with rfl|rfl|rfl|rfl|rfl|rfl|hx
   all_goals first
    |exact⟨by omega,by omega⟩
    |(have:=hin _ hx;exact⟨by omega,by omega⟩)
end Go.Proofs.YtekfmjjmihomlaaGreat
end
section
/- The machine in rows, frozen. -/
namespace Go.Proofs.YtekfmjjmihomlaaGreat
open Go Go.cZ Go.Proofs
set_option linter.unusedSimpArgs false
set_option linter.unusedVariables false
theorem j4 {H:Hp} {k:Nat} {cs:List AV}:cZ.dX H (k+1) (.agg cs)= .agg (cs.map (cZ.dX H k)):=by simp only[dX]
theorem PT.dX {u:bt} {m:MS} {mr a s me ho pr:Nat} {ids:List Nat} {H:Hp} (h:PT u m mr a s me ho pr ids H) (k:Nat):cZ.dX H (k+5) (.pt mr 1 0 0)=m.fz u:=by
 obtain⟨d1,h1⟩:=h.rM
 obtain⟨d2,h2⟩:=h.rA
 obtain⟨d3,h3⟩:=h.rS
 obtain⟨d4,h4⟩:=h.rE
 obtain⟨d5,h5⟩:=h.rH
 obtain⟨d6,h6⟩:=h.rP
 have hsl:(dG ids m.br).length=m.br.length:=by unfold dG;rw[List.length_map,List.length_zip,h.len];simp
 have hs:(dG ids m.br).map (cZ.dX H (k+2))=m.br.map cm:=by
  apply List.ext_getElem (by simp[hsl])
  intro t q1 q2
  have ht:t<m.br.length:=by simpa using q2
  have hti:t<ids.length:=by rw[h.len];exact ht
  obtain⟨d,hd⟩:=h.rL t ht
  rw[show ids.getD t 0=ids[t] by simp[List.getD,hti],show m.br.getD t []=m.br[t] by simp[List.getD,ht]] at hd
  rw[List.getElem_map,List.getElem_map]
  simp only[dG,List.getElem_map,List.getElem_zip]
  rw[dF hd (by simp),cc _ ((cC _ _).2 fun _ _=>by simp[cE])]
 simp only[cZ.dX,h1]
 simp only[List.length_cons,List.length_nil,if_true,List.map_cons,List.map_nil,MS.rows]
 rw[j4]
 simp only[List.map_cons,List.map_nil]
 rw[dF h2 (by simp),dF h3 hsl,dF h4 (by simp),dF h5 (by simp),dF h6 (by simp),hs]
 rw[cc _ ((cC _ _).2 fun _ _=>by simp[cE]),cc _ ((cC _ _).2 fun _ _=>by simp[cE]),cc _ ((cC _ _).2 fun _ _=>by simp[cE]),cc _ ((cC _ _).2 fun _ _=>by simp[cE])]
 rw[cx _ (show cE 0 (bw u.shared) by simp[cE,cC]),cx _ (show cE 0 (bw u.bx) by simp[cE,cC]),cx _ (show cE 0 (cR u.bo) by simp[cE,cC])]
 rfl
end Go.Proofs.YtekfmjjmihomlaaGreat
end
section
/- The machine that has done nothing. -/
namespace Go.Proofs.YtekfmjjmihomlaaGreat
open Go Go.cZ Go.Proofs
set_option linter.unusedSimpArgs false
set_option linter.unusedVariables false
def dA (u:bt):MS:=⟨u.bo.map fun _=>0,u.bo.map fun g=>List.replicate g.br.toNat 0,u.shared.map Decl.word,u.bx.map fun _=>-1,[]⟩
theorem L7 (u:bt) (hr:dC u) (hw:∀d∈u.shared,eM d.word) (hn:∀t,t<u.bo.length→0<(u.gr t).nodes.length):eU u (dA u) where
 nX:=by simp[dA]
 gy:=fun t ht=>by
  have e:(dA u).at_.getD t 0=0:=by simp[dA,List.getD,ht]
  rw[e]
  exact⟨Int.le_refl _,by have:=hn t ht;omega⟩
 sl:=by simp[dA]
 yR:=fun t ht=>by
  have e:(dA u).br.getD t []=List.replicate (u.gr t).br.toNat 0:=by simp[dA,List.getD,bt.gr,ht]
  rw[e,List.length_replicate]
 AG:=fun t ht w hw=>by
  have e:(dA u).br.getD t []=List.replicate (u.gr t).br.toNat 0:=by simp[dA,List.getD,bt.gr,ht]
  rw[e] at hw
  rw[List.eq_of_mem_replicate hw]
  exact⟨by omega,by omega⟩
 ml:=by simp[dA]
 mw:=fun w h=>by
  obtain⟨d,hd,rfl⟩:=List.mem_map.1 h
  exact hw d hd
 hl:=by simp[dA]
 hw:=fun w h=>by
  obtain⟨d,hd,rfl⟩:=List.mem_map.1 h
  exact⟨by omega,by omega⟩
 pw:=fun p h=>by simp[dA] at h
end Go.Proofs.YtekfmjjmihomlaaGreat
end
section
/- Operators. -/
namespace Go.Proofs.YtekfmjjmihomlaaGreat
open Go Go.cZ Go.Proofs
set_option linter.unusedSimpArgs false
set_option linter.unusedVariables false
set_option maxHeartbeats 1000000
abbrev vP (n:Int):Int:=IntKind.i64.wrap n
def xk (a b:Int):Int:=if b=0 then 0 else if b=-1 then vP (0 - a) else vP (a.tdiv b)
def vC (a b:Int):Int:=if b=0 then a else vP (a - vP (xk a b * b))
def P6 (a b:Int):Int:=vP ((BitVec.ofInt 64 a&&& BitVec.ofInt 64 b).toNat:Int)
def SM (a b:Int):Int:=vP ((BitVec.ofInt 64 a|||BitVec.ofInt 64 b).toNat:Int)
def RB (a b:Int):Int:=vP ((BitVec.ofInt 64 a^^^BitVec.ofInt 64 b).toNat:Int)
def u5 (b:Int):Int:=IntKind.u64.wrap ((BitVec.ofInt 64 (IntKind.u64.wrap b)&&& BitVec.ofInt 64 63).toNat:Int)
def MN (a b:Int):Int:=vP (a * 2^(min (u5 b).toNat 64))
def EK (a b:Int):Int:=a.fdiv (2^(min (u5 b).toNat 64))
def tr (t:Bool):Int:=if t=true then 1 else 0
theorem cw (t:Bool):Pure Tryz.prog 173 [bl t] (fun r=>r=i64 (tr t)):=by
 refine aI xW rfl ?_
 repeat' (first|((with_reducible refine aF ?_);conv=>whnf)|refine aG ?_|exact aC|with_reducible refine aD ?_ ?_|(apply aA;(·exact cF))|refine aH ?_|((with_reducible refine aB ?_ ?_)<;>intro hc<;>(try simp only[List.length_map,ne_eq,dE] at hc)<;>try(exfalso;omega)))
 all_goals simp_all[tr]
theorem ng (a b:Int):Pure Tryz.prog 155 [i64 a,i64 b] (fun r=>r=i64 (vP (a+b))):=by
 refine aI xD rfl ?_
 repeat' (first|((with_reducible refine aF ?_);conv=>whnf)|refine aG ?_|exact aC|with_reducible refine aD ?_ ?_|(apply aA;(·exact cF))|refine aH ?_|((with_reducible refine aB ?_ ?_)<;>intro hc<;>(try simp only[List.length_map,ne_eq,dE] at hc)<;>try(exfalso;omega)))
 all_goals exact rfl
theorem o7 (a b:Int):Pure Tryz.prog 156 [i64 a,i64 b] (fun r=>r=i64 (vP (a - b))):=by
 refine aI xE rfl ?_
 repeat' (first|((with_reducible refine aF ?_);conv=>whnf)|refine aG ?_|exact aC|with_reducible refine aD ?_ ?_|(apply aA;(·exact cF))|refine aH ?_|((with_reducible refine aB ?_ ?_)<;>intro hc<;>(try simp only[List.length_map,ne_eq,dE] at hc)<;>try(exfalso;omega)))
 all_goals exact rfl
theorem oM (a b:Int):Pure Tryz.prog 157 [i64 a,i64 b] (fun r=>r=i64 (vP (a * b))):=by
 refine aI xF rfl ?_
 repeat' (first|((with_reducible refine aF ?_);conv=>whnf)|refine aG ?_|exact aC|with_reducible refine aD ?_ ?_|(apply aA;(·exact cF))|refine aH ?_|((with_reducible refine aB ?_ ?_)<;>intro hc<;>(try simp only[List.length_map,ne_eq,dE] at hc)<;>try(exfalso;omega)))
 all_goals exact rfl
theorem iM (a b:Int):Pure Tryz.prog 158 [i64 a,i64 b] (fun r=>r=i64 (xk a b)):=by
 refine aI xG rfl ?_
 repeat' (first|((with_reducible refine aF ?_);conv=>whnf)|refine aG ?_|exact aC|with_reducible refine aD ?_ ?_|(apply aA;(·exact cF))|refine aH ?_|((with_reducible refine aB ?_ ?_)<;>intro hc<;>(try simp only[List.length_map,ne_eq,dE] at hc)<;>try(exfalso;omega)))
 all_goals simp_all[xk]
theorem oV (a b:Int):Pure Tryz.prog 159 [i64 a,i64 b] (fun r=>r=i64 (vC a b)):=by
 refine aI xH rfl ?_
 repeat' (first|((with_reducible refine aF ?_);conv=>whnf)|refine aG ?_|exact aC|with_reducible refine aD ?_ ?_|(apply aA;(·exact cF))|((with_reducible refine aN (iM _ _) ?_ ?_);(·exact bz))|((with_reducible refine aJ (fun _=>iM _ _) ?_ ?_);(·exact bz))|((with_reducible refine aL (iM _ _) ?_ ?_);(·exact bz))|((with_reducible refine aM (fun _=>iM _ _) ?_ ?_);(·exact bz))|refine aH ?_|((with_reducible refine aB ?_ ?_)<;>intro hc<;>(try simp only[List.length_map,ne_eq,dE] at hc)<;>try(exfalso;omega)))
 all_goals simp_all[vC]
theorem nh (a b:Int):Pure Tryz.prog 160 [i64 a,i64 b] (fun r=>r=i64 (P6 a b)):=by
 refine aI xI rfl ?_
 repeat' (first|((with_reducible refine aF ?_);conv=>whnf)|refine aG ?_|exact aC|with_reducible refine aD ?_ ?_|(apply aA;(·exact cF))|refine aH ?_|((with_reducible refine aB ?_ ?_)<;>intro hc<;>(try simp only[List.length_map,ne_eq,dE] at hc)<;>try(exfalso;omega)))
 all_goals exact rfl
theorem oS (a b:Int):Pure Tryz.prog 161 [i64 a,i64 b] (fun r=>r=i64 (SM a b)):=by
 refine aI xJ rfl ?_
 repeat' (first|((with_reducible refine aF ?_);conv=>whnf)|refine aG ?_|exact aC|with_reducible refine aD ?_ ?_|(apply aA;(·exact cF))|refine aH ?_|((with_reducible refine aB ?_ ?_)<;>intro hc<;>(try simp only[List.length_map,ne_eq,dE] at hc)<;>try(exfalso;omega)))
 all_goals exact rfl
theorem o9 (a b:Int):Pure Tryz.prog 162 [i64 a,i64 b] (fun r=>r=i64 (RB a b)):=by
 refine aI xK rfl ?_
 repeat' (first|((with_reducible refine aF ?_);conv=>whnf)|refine aG ?_|exact aC|with_reducible refine aD ?_ ?_|(apply aA;(·exact cF))|refine aH ?_|((with_reducible refine aB ?_ ?_)<;>intro hc<;>(try simp only[List.length_map,ne_eq,dE] at hc)<;>try(exfalso;omega)))
 all_goals exact rfl
theorem oY (a b:Int):Pure Tryz.prog 163 [i64 a,i64 b] (fun r=>r=i64 (MN a b)):=by
 refine aI xL rfl ?_
 repeat' (first|((with_reducible refine aF ?_);conv=>whnf)|refine aG ?_|exact aC|with_reducible refine aD ?_ ?_|(apply aA;(·exact cF))|refine aH ?_|((with_reducible refine aB ?_ ?_)<;>intro hc<;>(try simp only[List.length_map,ne_eq,dE] at hc)<;>try(exfalso;omega)))
 all_goals exact rfl
theorem oZ (a b:Int):Pure Tryz.prog 164 [i64 a,i64 b] (fun r=>r=i64 (EK a b)):=by
 refine aI xM rfl ?_
 repeat' (first|((with_reducible refine aF ?_);conv=>whnf)|refine aG ?_|exact aC|with_reducible refine aD ?_ ?_|(apply aA;(·exact cF))|refine aH ?_|((with_reducible refine aB ?_ ?_)<;>intro hc<;>(try simp only[List.length_map,ne_eq,dE] at hc)<;>try(exfalso;omega)))
 all_goals exact rfl
theorem qO (a b:Int):Pure Tryz.prog 165 [i64 a,i64 b] (fun r=>r=i64 (tr (decide (a=b)))):=by
 refine aI xN rfl ?_
 repeat' (first|((with_reducible refine aF ?_);conv=>whnf)|refine aG ?_|exact aC|with_reducible refine aD ?_ ?_|(apply aA;(·exact cF))|((with_reducible refine aN (cw _) ?_ ?_);(·exact bz))|((with_reducible refine aJ (fun _=>cw _) ?_ ?_);(·exact bz))|((with_reducible refine aL (cw _) ?_ ?_);(·exact bz))|((with_reducible refine aM (fun _=>cw _) ?_ ?_);(·exact bz))|refine aH ?_|((with_reducible refine aB ?_ ?_)<;>intro hc<;>(try simp only[List.length_map,ne_eq,dE] at hc)<;>try(exfalso;omega)))
 all_goals exact rfl
theorem kb (a b:Int):Pure Tryz.prog 166 [i64 a,i64 b] (fun r=>r=i64 (tr (decide (a≠b)))):=by
 refine aI xO rfl ?_
 repeat' (first|((with_reducible refine aF ?_);conv=>whnf)|refine aG ?_|exact aC|with_reducible refine aD ?_ ?_|(apply aA;(·exact cF))|((with_reducible refine aN (cw _) ?_ ?_);(·exact bz))|((with_reducible refine aJ (fun _=>cw _) ?_ ?_);(·exact bz))|((with_reducible refine aL (cw _) ?_ ?_);(·exact bz))|((with_reducible refine aM (fun _=>cw _) ?_ ?_);(·exact bz))|refine aH ?_|((with_reducible refine aB ?_ ?_)<;>intro hc<;>(try simp only[List.length_map,ne_eq,dE] at hc)<;>try(exfalso;omega)))
 all_goals exact rfl
theorem mE (a b:Int):Pure Tryz.prog 167 [i64 a,i64 b] (fun r=>r=i64 (tr (decide (a<b)))):=by
 refine aI xP rfl ?_
 repeat' (first|((with_reducible refine aF ?_);conv=>whnf)|refine aG ?_|exact aC|with_reducible refine aD ?_ ?_|(apply aA;(·exact cF))|((with_reducible refine aN (cw _) ?_ ?_);(·exact bz))|((with_reducible refine aJ (fun _=>cw _) ?_ ?_);(·exact bz))|((with_reducible refine aL (cw _) ?_ ?_);(·exact bz))|((with_reducible refine aM (fun _=>cw _) ?_ ?_);(·exact bz))|refine aH ?_|((with_reducible refine aB ?_ ?_)<;>intro hc<;>(try simp only[List.length_map,ne_eq,dE] at hc)<;>try(exfalso;omega)))
 all_goals exact rfl
theorem mF (a b:Int):Pure Tryz.prog 168 [i64 a,i64 b] (fun r=>r=i64 (tr (decide (a≤b)))):=by
 refine aI xR rfl ?_
 repeat' (first|((with_reducible refine aF ?_);conv=>whnf)|refine aG ?_|exact aC|with_reducible refine aD ?_ ?_|(apply aA;(·exact cF))|((with_reducible refine aN (cw _) ?_ ?_);(·exact bz))|((with_reducible refine aJ (fun _=>cw _) ?_ ?_);(·exact bz))|((with_reducible refine aL (cw _) ?_ ?_);(·exact bz))|((with_reducible refine aM (fun _=>cw _) ?_ ?_);(·exact bz))|refine aH ?_|((with_reducible refine aB ?_ ?_)<;>intro hc<;>(try simp only[List.length_map,ne_eq,dE] at hc)<;>try(exfalso;omega)))
 all_goals exact rfl
theorem kS (a b:Int):Pure Tryz.prog 169 [i64 a,i64 b] (fun r=>r=i64 (tr (decide (b<a)))):=by
 refine aI xS rfl ?_
 repeat' (first|((with_reducible refine aF ?_);conv=>whnf)|refine aG ?_|exact aC|with_reducible refine aD ?_ ?_|(apply aA;(·exact cF))|((with_reducible refine aN (cw _) ?_ ?_);(·exact bz))|((with_reducible refine aJ (fun _=>cw _) ?_ ?_);(·exact bz))|((with_reducible refine aL (cw _) ?_ ?_);(·exact bz))|((with_reducible refine aM (fun _=>cw _) ?_ ?_);(·exact bz))|refine aH ?_|((with_reducible refine aB ?_ ?_)<;>intro hc<;>(try simp only[List.length_map,ne_eq,dE] at hc)<;>try(exfalso;omega)))
 all_goals exact rfl
theorem kg (a b:Int):Pure Tryz.prog 170 [i64 a,i64 b] (fun r=>r=i64 (tr (decide (b≤a)))):=by
 refine aI xT rfl ?_
 repeat' (first|((with_reducible refine aF ?_);conv=>whnf)|refine aG ?_|exact aC|with_reducible refine aD ?_ ?_|(apply aA;(·exact cF))|((with_reducible refine aN (cw _) ?_ ?_);(·exact bz))|((with_reducible refine aJ (fun _=>cw _) ?_ ?_);(·exact bz))|((with_reducible refine aL (cw _) ?_ ?_);(·exact bz))|((with_reducible refine aM (fun _=>cw _) ?_ ?_);(·exact bz))|refine aH ?_|((with_reducible refine aB ?_ ?_)<;>intro hc<;>(try simp only[List.length_map,ne_eq,dE] at hc)<;>try(exfalso;omega)))
 all_goals exact rfl
theorem kq (a:Int):Pure Tryz.prog 171 [i64 a] (fun r=>r=i64 (vP (0 - a))):=by
 refine aI xU rfl ?_
 repeat' (first|((with_reducible refine aF ?_);conv=>whnf)|refine aG ?_|exact aC|with_reducible refine aD ?_ ?_|(apply aA;(·exact cF))|refine aH ?_|((with_reducible refine aB ?_ ?_)<;>intro hc<;>(try simp only[List.length_map,ne_eq,dE] at hc)<;>try(exfalso;omega)))
 all_goals exact rfl
theorem oP (a:Int):Pure Tryz.prog 172 [i64 a] (fun r=>r=i64 (tr (decide (a=0)))):=by
 refine aI xV rfl ?_
 repeat' (first|((with_reducible refine aF ?_);conv=>whnf)|refine aG ?_|exact aC|with_reducible refine aD ?_ ?_|(apply aA;(·exact cF))|((with_reducible refine aN (cw _) ?_ ?_);(·exact bz))|((with_reducible refine aJ (fun _=>cw _) ?_ ?_);(·exact bz))|((with_reducible refine aL (cw _) ?_ ?_);(·exact bz))|((with_reducible refine aM (fun _=>cw _) ?_ ?_);(·exact bz))|refine aH ?_|((with_reducible refine aB ?_ ?_)<;>intro hc<;>(try simp only[List.length_map,ne_eq,dE] at hc)<;>try(exfalso;omega)))
 all_goals exact rfl
def NV:AV:= .agg [.sc .nilFunc, .sc .nilFunc, .fn (.func 155) [] [], .sc .nilFunc, .fn (.func 156) [] [], .sc .nilFunc, .fn (.func 157) [] [], .sc .nilFunc, .fn (.func 158) [] [], .sc .nilFunc, .fn (.func 159) [] [], .sc .nilFunc, .fn (.func 160) [] [], .sc .nilFunc, .fn (.func 161) [] [], .sc .nilFunc, .fn (.func 162) [] [], .sc .nilFunc, .fn (.func 163) [] [], .sc .nilFunc, .fn (.func 164) [] [], .sc .nilFunc, .fn (.func 165) [] [], .sc .nilFunc, .fn (.func 166) [] [], .sc .nilFunc, .fn (.func 167) [] [], .sc .nilFunc, .fn (.func 168) [] [], .sc .nilFunc, .fn (.func 169) [] [], .sc .nilFunc, .fn (.func 170) [] [], .sc .nilFunc, .sc .nilFunc, .fn (.func 171) [] [], .sc .nilFunc, .fn (.func 172) [] []]
theorem l5:Pure Tryz.prog 147 [] (fun r=>r=NV):=mO (by simp[NV,cE,cT]) (by kernel_rfl)
def J3 (op a b:Int):Int:=if op=1 then vP (a+b) else if op=2 then vP (a - b) else if op=3 then vP (a * b) else if op=4 then xk a b else if op=5 then vC a b else if op=6 then P6 a b else if op=7 then SM a b else if op=8 then RB a b else if op=9 then MN a b else if op=10 then EK a b else if op=11 then tr (decide (a=b)) else if op=12 then tr (decide (a≠b)) else if op=13 then tr (decide (a<b)) else if op=14 then tr (decide (a≤b)) else if op=15 then tr (decide (b<a)) else tr (decide (b≤a))
def I7 (op a:Int):Int:=if op=17 then vP (0 - a) else tr (decide (a=0))
theorem uB {op:Int} (h:dW op=true):op=1∨op=2∨op=3∨op=4∨op=5∨op=6∨op=7∨op=8∨op=9∨op=10∨op=11∨op=12∨op=13∨op=14∨op=15∨op=16:=by
 simp only[dW,Bool.and_eq_true,decide_eq_true_eq] at h;omega
theorem N1 (op a b:Int) (h:dW op=true):Pure Tryz.prog 124 [u8 op,i64 a,i64 b] (fun r=>r= .dV [i64 (J3 op a b),i64 0]):=by
 refine aI w7 rfl ?_
 rcases uB h with rfl|rfl|rfl|rfl|rfl|rfl|rfl|rfl|rfl|rfl|rfl|rfl|rfl|rfl|rfl|rfl
 all_goals repeat' (first|((with_reducible refine aF ?_);conv=>whnf)|refine aG ?_|exact aC|with_reducible refine aD ?_ ?_|(apply aA;(·exact cF))|((with_reducible refine aN (fP _ (by omega)) ?_ ?_);(·exact bz))|((with_reducible refine aJ (fun _=>fP _ (by omega)) ?_ ?_);(·exact bz))|((with_reducible refine aL (fP _ (by omega)) ?_ ?_);(·exact bz))|((with_reducible refine aM (fun _=>fP _ (by omega)) ?_ ?_);(·exact bz))|refine aK (l5) ?_|((with_reducible refine aN (ng _ _) ?_ ?_);(·exact bz))|((with_reducible refine aJ (fun _=>ng _ _) ?_ ?_);(·exact bz))|((with_reducible refine aL (ng _ _) ?_ ?_);(·exact bz))|((with_reducible refine aM (fun _=>ng _ _) ?_ ?_);(·exact bz))|((with_reducible refine aN (o7 _ _) ?_ ?_);(·exact bz))|((with_reducible refine aJ (fun _=>o7 _ _) ?_ ?_);(·exact bz))|((with_reducible refine aL (o7 _ _) ?_ ?_);(·exact bz))|((with_reducible refine aM (fun _=>o7 _ _) ?_ ?_);(·exact bz))|((with_reducible refine aN (oM _ _) ?_ ?_);(·exact bz))|((with_reducible refine aJ (fun _=>oM _ _) ?_ ?_);(·exact bz))|((with_reducible refine aL (oM _ _) ?_ ?_);(·exact bz))|((with_reducible refine aM (fun _=>oM _ _) ?_ ?_);(·exact bz))|((with_reducible refine aN (iM _ _) ?_ ?_);(·exact bz))|((with_reducible refine aJ (fun _=>iM _ _) ?_ ?_);(·exact bz))|((with_reducible refine aL (iM _ _) ?_ ?_);(·exact bz))|((with_reducible refine aM (fun _=>iM _ _) ?_ ?_);(·exact bz))|((with_reducible refine aN (oV _ _) ?_ ?_);(·exact bz))|((with_reducible refine aJ (fun _=>oV _ _) ?_ ?_);(·exact bz))|((with_reducible refine aL (oV _ _) ?_ ?_);(·exact bz))|((with_reducible refine aM (fun _=>oV _ _) ?_ ?_);(·exact bz))|((with_reducible refine aN (nh _ _) ?_ ?_);(·exact bz))|((with_reducible refine aJ (fun _=>nh _ _) ?_ ?_);(·exact bz))|((with_reducible refine aL (nh _ _) ?_ ?_);(·exact bz))|((with_reducible refine aM (fun _=>nh _ _) ?_ ?_);(·exact bz))|((with_reducible refine aN (oS _ _) ?_ ?_);(·exact bz))|((with_reducible refine aJ (fun _=>oS _ _) ?_ ?_);(·exact bz))|((with_reducible refine aL (oS _ _) ?_ ?_);(·exact bz))|((with_reducible refine aM (fun _=>oS _ _) ?_ ?_);(·exact bz))|((with_reducible refine aN (o9 _ _) ?_ ?_);(·exact bz))|((with_reducible refine aJ (fun _=>o9 _ _) ?_ ?_);(·exact bz))|((with_reducible refine aL (o9 _ _) ?_ ?_);(·exact bz))|((with_reducible refine aM (fun _=>o9 _ _) ?_ ?_);(·exact bz))|((with_reducible refine aN (oY _ _) ?_ ?_);(·exact bz))|((with_reducible refine aJ (fun _=>oY _ _) ?_ ?_);(·exact bz))|((with_reducible refine aL (oY _ _) ?_ ?_);(·exact bz))|((with_reducible refine aM (fun _=>oY _ _) ?_ ?_);(·exact bz))|((with_reducible refine aN (oZ _ _) ?_ ?_);(·exact bz))|((with_reducible refine aJ (fun _=>oZ _ _) ?_ ?_);(·exact bz))|((with_reducible refine aL (oZ _ _) ?_ ?_);(·exact bz))|((with_reducible refine aM (fun _=>oZ _ _) ?_ ?_);(·exact bz))|((with_reducible refine aN (qO _ _) ?_ ?_);(·exact bz))|((with_reducible refine aJ (fun _=>qO _ _) ?_ ?_);(·exact bz))|((with_reducible refine aL (qO _ _) ?_ ?_);(·exact bz))|((with_reducible refine aM (fun _=>qO _ _) ?_ ?_);(·exact bz))|((with_reducible refine aN (kb _ _) ?_ ?_);(·exact bz))|((with_reducible refine aJ (fun _=>kb _ _) ?_ ?_);(·exact bz))|((with_reducible refine aL (kb _ _) ?_ ?_);(·exact bz))|((with_reducible refine aM (fun _=>kb _ _) ?_ ?_);(·exact bz))|((with_reducible refine aN (mE _ _) ?_ ?_);(·exact bz))|((with_reducible refine aJ (fun _=>mE _ _) ?_ ?_);(·exact bz))|((with_reducible refine aL (mE _ _) ?_ ?_);(·exact bz))|((with_reducible refine aM (fun _=>mE _ _) ?_ ?_);(·exact bz))|((with_reducible refine aN (mF _ _) ?_ ?_);(·exact bz))|((with_reducible refine aJ (fun _=>mF _ _) ?_ ?_);(·exact bz))|((with_reducible refine aL (mF _ _) ?_ ?_);(·exact bz))|((with_reducible refine aM (fun _=>mF _ _) ?_ ?_);(·exact bz))|((with_reducible refine aN (kS _ _) ?_ ?_);(·exact bz))|((with_reducible refine aJ (fun _=>kS _ _) ?_ ?_);(·exact bz))|((with_reducible refine aL (kS _ _) ?_ ?_);(·exact bz))|((with_reducible refine aM (fun _=>kS _ _) ?_ ?_);(·exact bz))|((with_reducible refine aN (kg _ _) ?_ ?_);(·exact bz))|((with_reducible refine aJ (fun _=>kg _ _) ?_ ?_);(·exact bz))|((with_reducible refine aL (kg _ _) ?_ ?_);(·exact bz))|((with_reducible refine aM (fun _=>kg _ _) ?_ ?_);(·exact bz))|refine aH ?_|((with_reducible refine aB ?_ ?_)<;>intro hc<;>(try simp only[List.length_map,ne_eq,dE] at hc)<;>try(exfalso;omega)))
 all_goals (first|exact rfl|trace_state)
theorem KF (op a:Int) (h:op=17∨op=18):Pure Tryz.prog 125 [u8 op,i64 a] (fun r=>r= .dV [i64 (I7 op a),i64 0]):=by
 refine aI w8 rfl ?_
 rcases h with rfl|rfl
 all_goals repeat' (first|((with_reducible refine aF ?_);conv=>whnf)|refine aG ?_|exact aC|with_reducible refine aD ?_ ?_|(apply aA;(·exact cF))|((with_reducible refine aN (fi _) ?_ ?_);(·exact bz))|((with_reducible refine aJ (fun _=>fi _) ?_ ?_);(·exact bz))|((with_reducible refine aL (fi _) ?_ ?_);(·exact bz))|((with_reducible refine aM (fun _=>fi _) ?_ ?_);(·exact bz))|((with_reducible refine aN (fP _ (by omega)) ?_ ?_);(·exact bz))|((with_reducible refine aJ (fun _=>fP _ (by omega)) ?_ ?_);(·exact bz))|((with_reducible refine aL (fP _ (by omega)) ?_ ?_);(·exact bz))|((with_reducible refine aM (fun _=>fP _ (by omega)) ?_ ?_);(·exact bz))|refine aK (l5) ?_|((with_reducible refine aN (kq _) ?_ ?_);(·exact bz))|((with_reducible refine aJ (fun _=>kq _) ?_ ?_);(·exact bz))|((with_reducible refine aL (kq _) ?_ ?_);(·exact bz))|((with_reducible refine aM (fun _=>kq _) ?_ ?_);(·exact bz))|((with_reducible refine aN (oP _) ?_ ?_);(·exact bz))|((with_reducible refine aJ (fun _=>oP _) ?_ ?_);(·exact bz))|((with_reducible refine aL (oP _) ?_ ?_);(·exact bz))|((with_reducible refine aM (fun _=>oP _) ?_ ?_);(·exact bz))|refine aH ?_|((with_reducible refine aB ?_ ?_)<;>intro hc<;>(try simp only[List.length_map,ne_eq,dE] at hc)<;>try(exfalso;omega)))
 all_goals (first|exact rfl|trace_state)
end Go.Proofs.YtekfmjjmihomlaaGreat
end
section
/- A step in plain data. -/
namespace Go.Proofs.YtekfmjjmihomlaaGreat
open Go Go.cZ Go.Proofs
set_option linter.unusedSimpArgs false
set_option linter.unusedVariables false
structure fJ where
 ch:Int
 node:Int
 kind:Int
 cH:Int
 word:Int
 put:Int
 deriving Inhabited,DecidableEq
def fJ.cells (d:fJ):List AV:=[i64 d.ch,i64 d.node,u8 d.kind,i64 d.cH,i64 d.word,i64 d.put]
abbrev fJ.av (d:fJ):AV:= .agg d.cells
def MS.val (m:MS) (t:Nat) (v:iR):Int:=if v.fy then(m.br.getD t []).getD v.slot.toNat 0 else v.word
def MS.dc (m:MS) (t:Nat) (k:Int) (w:Int):MS:={ m with br:=m.br.set t ((m.br.getD t []).set k.toNat w) }
def MS.l9 (m:MS) (t:Nat) (n:Node):Int:=if dW n.op then J3 n.op (m.val t n.a) (m.val t n.b) else if n.op≠0 then I7 n.op (m.val t n.a) else m.val t n.a
def MS.act (m:MS) (t:Nat) (n:Node):MS×Int×Int×Int×Int:=
 if n.kind=1 then(m.dc t n.slot (m.l9 t n),n.next,0,m.l9 t n,0)
 else if n.kind=2 then(m.dc t n.slot (m.mem.getD n.cH.toNat 0),n.next,n.cH,m.mem.getD n.cH.toNat 0,0)
 else if n.kind=3 then({ m with mem:=m.mem.set n.cH.toNat (m.val t n.a) },n.next,n.cH,m.val t n.a,0)
 else if n.kind=4 then({ m.dc t n.slot (m.mem.getD n.cH.toNat 0) with mem:=m.mem.set n.cH.toNat (m.val t n.a) },n.next,n.cH,m.mem.getD n.cH.toNat 0,m.val t n.a)
 else if n.kind=5 then({ m with hold:=m.hold.set n.cH.toNat t },n.next,n.cH,0,0)
 else if n.kind=6 then({ m with hold:=m.hold.set n.cH.toNat (-1) },n.next,n.cH,0,0)
 else if n.kind=7 then({ m with bu:=m.bu++[⟨t,m.val t n.a⟩] },n.next,0,m.val t n.a,0)
 else(m,if m.val t n.a=0 then n.nq else n.next,0,m.val t n.a,0)
def MS.step (u:bt) (m:MS) (t:Nat):MS×fJ:=
 let n:=m.node u t
 let r:=m.act t n
 ({ r.1 with at_:=m.at_.set t r.2.1 },⟨t,m.at_.getD t 0,n.kind,r.2.2.1,r.2.2.2.1,r.2.2.2.2⟩)
end Go.Proofs.YtekfmjjmihomlaaGreat
end
