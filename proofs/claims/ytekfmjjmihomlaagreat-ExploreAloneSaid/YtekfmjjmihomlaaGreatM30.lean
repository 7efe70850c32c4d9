import Derived.Test.YtekfmjjmihomlaaGreatM26
import Derived.Test.YtekfmjjmihomlaaGreatM27
import Derived.Test.YtekfmjjmihomlaaGreatM28
import Derived.Test.YtekfmjjmihomlaaGreatM29
section
/- The source machine in plain data. -/
namespace Go.Proofs.YtekfmjjmihomlaaGreat
open Go Go.cO Go.Proofs
set_option linter.unusedSimpArgs false
set_option linter.unusedVariables false
structure cY where
 cL:Int
 word:Int
 deriving Inhabited,DecidableEq
def cY.cells (p:cY):List AV:=[i64 p.cL,i64 p.word]
abbrev cY.av (p:cY):AV:= .agg p.cells
structure MS where
 at_:List Int
 bg:List (List Int)
 mem:List Int
 hold:List Int
 bn:List cY
 deriving Inhabited,DecidableEq
abbrev cw (l:List Int):AV:= .im 1 .any (l.map i64)
abbrev yo (l:List (List Int)):AV:= .im 1 .any (l.map cw)
abbrev ef (l:List cY):AV:= .im 2 .any (l.map cY.av)
def MS.cells (u:bf) (m:MS):List AV:=[cV u.shared,cV u.bz,dQ u.bj,cw m.at_,yo m.bg,cw m.mem,cw m.hold,ef m.bn]
abbrev MS.fz (u:bf) (m:MS):AV:= .ip 8 .any [.agg (m.cells u)] 0 0
@[simp] theorem KT (n:Nat) (p:cY):cK n p.cells:=by simp[cY.cells,cK,bx]
@[simp] theorem NC (n:Nat) (u:bf) (m:MS):cK n (m.cells u):=by simp[MS.cells,cK,bx,cB]
theorem gm (n:Nat) (u:bf) (m:MS):bx n (m.fz u):=by simp[bx,cK]
structure dw (u:bf) (m:MS):Prop where
 l9:m.at_.length=u.bj.length
 gB:∀t,t<u.bj.length→0≤m.at_.getD t 0∧m.at_.getD t 0<(u.gr t).nodes.length
 sl:m.bg.length=u.bj.length
 xM:∀t,t<u.bj.length→(m.bg.getD t []).length=(u.gr t).bg.toNat
 xN:∀t,t<u.bj.length→∀w∈m.bg.getD t [],di w
 ml:m.mem.length=u.shared.length
 mw:∀w∈m.mem,di w
 hl:m.hold.length=u.bz.length
 hw:∀w∈m.hold,-1≤w∧w<u.bj.length
 pw:∀p∈m.bn,0≤p.cL∧p.cL<u.bj.length∧di p.word
abbrev MS.node (u:bf) (m:MS) (t:Nat):Node:=(u.gr t).nd (m.at_.getD t 0).toNat
def MS.ky (u:bf) (m:MS) (t:Int):Int:=if t<0∨(m.at_.length:Int)≤t then 2 else if(m.node u t.toNat).kind=9 then 70 else if(m.node u t.toNat).kind=5∧0≤m.hold.getD (m.node u t.toNat).cH.toNat 0 then 71 else 0
theorem ep {l:List Int} {k:Nat} (h:k<l.length) (d:AV):(l.map i64).getD ((k:Int)).toNat d=i64 (l.getD k 0):=by
 rw[Int.toNat_natCast];exact dP i64 l k d h
theorem lz {l:List Int} {k:Int} (h:k.toNat<l.length) (d:AV):(l.map i64).getD k.toNat d=i64 (l.getD k.toNat 0):=dP i64 l k.toNat d h
theorem dw.node {u:bf} {m:MS} (hr:c8 u) (h:dw u m) {t:Nat} (ht:t<u.bj.length):mg u (u.gr t) (m.node u t):=by
 have:=h.gB t ht
 exact(hr.gr ht).nodes _ (cW default (by omega))
theorem FE {u:bf} {m:MS} {t:Int} (h:t<0∨(m.at_.length:Int)≤t):m.ky u t=2:=by unfold MS.ky;rw[if_pos h]
theorem ES (u:bf) (m:MS) (t:Int):Pure Tryz.prog 81 [m.fz u,i64 t] (fun r=>r=bl (decide (¬(t<0∨(m.at_.length:Int)≤t)))):=by
 refine aI DQ rfl ?_
 refine cQ ?_
 refine ec ?_
 rw[List.length_map]
 by_cases h1:0≤t<;>by_cases h2:t<m.at_.length<;>simp[h1,h2]<;>omega
set_option maxRecDepth 8000 in
set_option maxHeartbeats 2000000 in
theorem vm (u:bf) (hr:c8 u) (m:MS) (h:dw u m) (t:Int):Pure Tryz.prog 54 [m.fz u,i64 t] (fun r=>r=i64 (m.ky u t)):=by
 have c0:=ES u m t
 have hl:=h.l9
 by_cases ht:t<0∨(m.at_.length:Int)≤t
 ·rw[FE ht]
  rw[decide_eq_false (fun e=>e ht)] at c0
  refine aI sH rfl ?_
  refine cQ ?_
  first|exact rfl|trivial
 ·rw[decide_eq_true ht] at c0
  obtain⟨k,rfl⟩:∃k:Nat,t=k:=⟨t.toNat,by omega⟩
  have hk:k<u.bj.length:=by omega
  have hbar:m.ky u k=if(m.node u k).kind=9 then 70 else if(m.node u k).kind=5∧0≤m.hold.getD (m.node u k).cH.toNat 0 then 71 else 0:=by
   unfold MS.ky;rw[if_neg ht,Int.toNat_natCast]
  rw[hbar]
  have hno:=h.node hr hk
  obtain⟨p0,p1⟩:=h.gB k hk
  have e0:=fun d=>xn (l:=u.bj) hk d
  have e1:=fun d=>ep (l:=m.at_) (k:=k) (by omega) d
  obtain⟨j,hj⟩:∃j:Nat,m.at_.getD k 0=j:=⟨(m.at_.getD k 0).toNat,by omega⟩
  rw[hj] at e1 p1
  have hnd:m.node u k=(u.gr k).nd j:=by unfold MS.node;rw[hj,Int.toNat_natCast]
  rw[hnd] at hno ⊢
  have hgr:u.bj.getD k default=u.gr k:=rfl
  rw[hgr] at e0
  generalize u.gr k=g at *
  have e2:=fun d=>ko (l:=g.nodes) (i:=j) (by omega) d
  rw[show g.nodes.getD j default=g.nd j from rfl] at e2
  generalize g.nd j=n at *
  have a0:(u.bj.map cA.av).length=u.bj.length:=by simp
  have a1:(m.at_.map i64).length=u.bj.length:=by simp[hl]
  have a2:(g.nodes.map Node.av).length=g.nodes.length:=by simp
  have a3:(m.hold.map i64).length=u.bz.length:=by simp[h.hl]
  by_cases h9:n.kind=9
  ·have r0:=h9
   rw[if_pos h9]
   refine aI sH rfl ?_
   refine cQ ?_
   first|exact rfl|trivial
  ·rw[if_neg h9]
   by_cases h5:n.kind=5
   ·have hth:=hno.cH.1 (by unfold fu;exact decide_eq_true (by omega))
    rw[if_pos (.inl h5)] at hth
    have hhl:=h.hl
    have e3:=fun d=>lz (l:=m.hold) (k:=n.cH) (by omega) d
    have r0:=h5
    by_cases hh:0≤m.hold.getD n.cH.toNat 0
    ·rw[if_pos ⟨h5,hh⟩]
     have r1:=decide_eq_true hh
     refine aI sH rfl ?_
     refine cQ ?_
     first|exact rfl|trivial
    ·rw[if_neg fun e=>hh e.2]
     have r1:=decide_eq_false hh
     refine aI sH rfl ?_
     refine cQ ?_
     first|exact rfl|trivial
   ·rw[if_neg fun e=>h5 e.1]
    have r1:=decide_eq_false h5
    refine aI sH rfl ?_
    refine cQ ?_
    first|exact rfl|trivial
theorem kz (u:bf) (hr:c8 u) (m:MS) (h:dw u m) (t:Int):Pure Tryz.prog 22 [m.fz u,i64 t] (fun r=>r=bl (decide (m.ky u t=0))):=by
 have c0:=vm u hr m h t
 refine aI CZ rfl ?_
 refine cQ ?_
 first|exact rfl|trivial
def MS.ended (u:bf) (m:MS):Bool:=(List.range m.at_.length).all fun t=>decide (m.ky u t=70)
theorem tM (u:bf) (hr:c8 u) (m:MS) (h:dw u m):Pure Tryz.prog 57 [m.fz u] (fun r=>r=bl (m.ended u)):=by
 have hl:=h.l9
 have hgl:=hr.AZ
 refine aI DG rfl ?_
 refine cQ ?_
 rw[List.length_map]
 refine aR (fun i:Nat=>[(0,m.fz u),(10,i64 m.at_.length),(11,i64 i)]) (fun i H n=>i≤m.at_.length∧∀j:Nat,j<i→m.ky u j=70) (fun i=>m.at_.length - i) 0 cM ⟨Nat.zero_le _,fun j hj=>by omega⟩ ?_
 rintro i H n ⟨hi,hall⟩
 by_cases hil:i<m.at_.length
 ·have c0:=vm u hr m h i
  by_cases hb:m.ky u i=70
  ·have r0:=hb
   refine cQ ?_
   exact⟨i+1,by omega,cM,by omega,fun j hj=>by
    by_cases e:j=i
    ·rw[e];exact hb
    ·exact hall j (by omega)⟩
  ·have r0:=decide_eq_true hb
   refine cQ ?_
   refine ec (Eq.symm ?_)
   unfold MS.ended
   rw[List.all_eq_false]
   exact⟨i,List.mem_range.2 hil,by simpa using hb⟩
 ·refine cQ ?_
  refine ec (Eq.symm ?_)
  unfold MS.ended
  rw[List.all_eq_true]
  intro j hj
  exact decide_eq_true (hall j (by have:=List.mem_range.1 hj;omega))
end Go.Proofs.YtekfmjjmihomlaaGreat
end
section
/- Ends compared: plain data, the small functions of the code. -/
namespace Go.Proofs.YtekfmjjmihomlaaGreat
open Go Go.cO Go.Proofs
set_option linter.unusedSimpArgs false
set_option linter.unusedVariables false
structure dK where
 bn:List cY
 mem:List Int
 ended:Bool
 deriving Inhabited,DecidableEq
def dK.cells (e:dK):List AV:=[ef e.bn,cw e.mem,bl e.ended]
abbrev dK.av (e:dK):AV:= .agg e.cells
@[simp] theorem MN (n:Nat) (e:dK):cK n e.cells:=by simp[dK.cells,cK,bx,cB]
def eG (x y:Int):Int:=if x<y then -1 else if y<x then 1 else 0
def jZ:List Int→Int
 |[]=>0
 |x::l=>if x=0 then jZ l else x
def ej (p q:cY):Int:=jZ [eG p.cL q.cL,eG p.word q.word]
def eD {α:Type} (f:α→α→Int):List α→List α→Int
 |[],[]=>0
 |[],_::_=>-1
 |_::_,[]=>1
 |x::a,y::b=>if f x y=0 then eD f a b else f x y
def pj (a b:Bool):Int:=if a=b then 0 else if b then -1 else 1
def dt (a b:dK):Int:=jZ [eD ej a.bn b.bn,eD eG a.mem b.mem,pj a.ended b.ended]
theorem nw {α:Type} (f:α→α→Int) (d:α) {a b:List α} {i:Nat} (h1:i<a.length) (h2:i<b.length):eD f (a.drop i) (b.drop i)=if f (a.getD i d) (b.getD i d)=0 then eD f (a.drop (i+1)) (b.drop (i+1)) else f (a.getD i d) (b.getD i d):=by
 rw[List.drop_eq_getElem_cons h1,List.drop_eq_getElem_cons h2,eD]
 simp[List.getD,List.getElem?_eq_getElem h1,List.getElem?_eq_getElem h2]
theorem ll {α:Type} (f:α→α→Int) {a b:List α} {i:Nat} (h1:i<a.length) (h2:b.length≤i):eD f (a.drop i) (b.drop i)=1:=by
 rw[List.drop_eq_getElem_cons h1,List.drop_of_length_le h2,eD]
theorem lj {α:Type} (f:α→α→Int) {a b:List α} {i:Nat} (h1:a.length≤i) (h2:i≤b.length):eD f (a.drop i) (b.drop i)=if i<b.length then -1 else 0:=by
 rw[List.drop_of_length_le h1]
 split
 ·rename_i h;rw[List.drop_eq_getElem_cons h,eD]
 ·rw[List.drop_of_length_le (by omega),eD]
theorem yc (x:Int):Pure Tryz.prog 76 [i64 x] (fun r=>r=bl false):=by
 refine aI DL rfl ?_
 refine cQ ?_
 refine ec ?_
 simp
theorem uy (x:Int):Pure Tryz.prog 77 [i64 x] (fun r=>r=bl false):=by
 refine aI DM rfl ?_
 refine cQ ?_
 refine ec ?_
 simp
theorem BP (x y:Int):Pure Tryz.prog 48 [i64 x,i64 y] (fun r=>r=i64 (eG x y)):=by
 have c0:=yc x
 have c1:=yc y
 unfold eG
 by_cases h:x<y
 ·rw[if_pos h]
  refine aI wY rfl ?_
  refine cQ ?_
  first|exact rfl|trivial
 ·rw[if_neg h]
  by_cases h2:y<x
  ·rw[if_pos h2]
   refine aI wY rfl ?_
   refine cQ ?_
   first|exact rfl|trivial
  ·rw[if_neg h2]
   refine aI wY rfl ?_
   refine cQ ?_
   first|exact rfl|trivial
theorem qN (x y:Int):Pure Tryz.prog 49 [i64 x,i64 y] (fun r=>r=i64 (eG x y)):=by
 have c0:=uy x
 have c1:=uy y
 unfold eG
 by_cases h:x<y
 ·rw[if_pos h]
  refine aI wZ rfl ?_
  refine cQ ?_
  first|exact rfl|trivial
 ·rw[if_neg h]
  by_cases h2:y<x
  ·rw[if_pos h2]
   refine aI wZ rfl ?_
   refine cQ ?_
   first|exact rfl|trivial
  ·rw[if_neg h2]
   refine aI wZ rfl ?_
   refine cQ ?_
   first|exact rfl|trivial
theorem D8 {l:List Int} {i:Nat} (h:i<l.length):jZ (l.drop i)=if l.getD i 0=0 then jZ (l.drop (i+1)) else l.getD i 0:=by
 rw[List.drop_eq_getElem_cons h,jZ]
 simp[List.getD,List.getElem?_eq_getElem h]
theorem yg (l:List Int) (hl:l.length≤1000):Pure Tryz.prog 47 [cw l] (fun r=>r=i64 (jZ l)):=by
 refine aI DA rfl ?_
 refine cQ ?_
 rw[List.length_map]
 refine aR (fun i:Nat=>[(3,i64 0),(6,cw l),(7,i64 l.length),(8,i64 i)]) (fun i H n=>i≤l.length∧jZ l=jZ (l.drop i)) (fun i=>l.length - i) 0 cM ⟨Nat.zero_le _,rfl⟩ ?_
 rintro i H n ⟨hi,ho⟩
 rw[ho]
 by_cases hil:i<l.length
 ·have e0:=fun d=>ep (l:=l) hil d
  have a0:(l.map i64).length=l.length:=by simp
  have hd:=D8 hil
  by_cases hz:l.getD i 0=0
  ·have r0:=hz
   rw[if_pos hz] at hd
   refine cQ ?_
   exact⟨i+1,by omega,cM,by omega,hd⟩
  ·have r0:=decide_eq_true hz
   rw[if_neg hz] at hd
   refine cQ ?_
   rw[hd]
 ·rw[List.drop_of_length_le (by omega)]
  refine cQ ?_
  first|exact rfl|trivial
end Go.Proofs.YtekfmjjmihomlaaGreat
end
section
/- Copies of lists; what a machine shows. -/
namespace Go.Proofs.YtekfmjjmihomlaaGreat
open Go Go.cO Go.Proofs
set_option linter.unusedSimpArgs false
set_option linter.unusedVariables false
theorem p7 {p:Prop} (h:Go p):p:=h
theorem zH {es:List AV} (hf:cK 0 es) (hl:es.length * 16≤140737488355328):cD Tryz.prog 63 [.im 2 .any es] [] 0 (fun r H _=>cO.dM H 6 r= .sc (.slice none 0 0)∧es=[]∨cO.dM H 6 r= .im 2 .any es):=by
 refine aQ DI rfl ?_
 cases es with
 |nil=>
  refine cQ ?_
  refine⟨p7 ?_,p7 ?_⟩
  ·refine cQ ?_
   exact⟨.inl ⟨rfl,rfl⟩⟩
  ·refine cQ ?_
   exact⟨.inr rfl⟩
 |cons x t=>
  have a0:(x::t).length * 16≤gG:=hl
  simp only[List.length_cons] at hl
  refine cQ ?_
  refine⟨.inr ((eA (e:=89) (sz:=2) (es:=x::t) bh (Nat.zero_add _).symm).trans ?_)⟩
  rw[dE _ hf]
theorem zI {es:List AV} (hf:cK 0 es) (hl:es.length * 8≤140737488355328):cD Tryz.prog 90 [.im 1 .any es] [] 0 (fun r H _=>cO.dM H 6 r= .sc (.slice none 0 0)∧es=[]∨cO.dM H 6 r= .im 1 .any es):=by
 refine aQ DX rfl ?_
 cases es with
 |nil=>
  refine cQ ?_
  refine⟨p7 ?_,p7 ?_⟩
  ·refine cQ ?_
   exact⟨.inl ⟨rfl,rfl⟩⟩
  ·refine cQ ?_
   exact⟨.inr rfl⟩
 |cons x t=>
  have a0:(x::t).length * 8≤gG:=hl
  simp only[List.length_cons] at hl
  refine cQ ?_
  refine⟨.inr ((eA (e:=2) (sz:=1) (es:=x::t) bh (Nat.zero_add _).symm).trans ?_)⟩
  rw[dE _ hf]
theorem tH (l:List cY) (hl:l.length * 16≤140737488355328):Pure Tryz.prog 63 [ef l] (fun r=>r=ef l):=
 mO (by simp[bx,cB]) (zH ((cB _ _).2 fun _ _=>by simp[bx]) (by rw[List.length_map];exact hl))
theorem tI (l:List Int) (hl:l.length * 8≤140737488355328):Pure Tryz.prog 90 [cw l] (fun r=>r=cw l):=
 mO (by simp[bx,cB]) (zI ((cB _ _).2 fun _ _=>by simp[bx]) (by rw[List.length_map];exact hl))
theorem qo (u:bf) (m:MS) (hl:m.bn.length * 16≤140737488355328):Pure Tryz.prog 30 [m.fz u] (fun r=>r=ef m.bn):=by
 have c0:=tH m.bn hl
 refine aI C3 rfl ?_
 refine cQ ?_
 first|exact rfl|trivial
theorem qj (u:bf) (m:MS) (hl:m.mem.length * 8≤140737488355328):Pure Tryz.prog 56 [m.fz u] (fun r=>r=cw m.mem):=by
 have c0:=tI m.mem hl
 refine aI DF rfl ?_
 refine cQ ?_
 first|exact rfl|trivial
end Go.Proofs.YtekfmjjmihomlaaGreat
end
section
/- Whether a situation is an end. -/
namespace Go.Proofs.YtekfmjjmihomlaaGreat
open Go Go.cO Go.Proofs
set_option linter.unusedSimpArgs false
set_option linter.unusedVariables false
def MS.stuck (u:bf) (m:MS):Bool:=(List.range m.at_.length).all fun t=>decide (m.ky u t≠0)
def MS.end_ (u:bf) (m:MS):dK:=⟨m.bn,m.mem,m.ended u⟩
def j0 (u:bf) (m:MS):AV:=if m.stuck u then .db [(m.end_ u).av,bl true] else .db [.agg [.sc (.slice none 0 0), .sc (.slice none 0 0),bl false],bl false]
theorem qn (u:bf) (hr:c8 u) (m:MS) (h:dw u m) (hp:m.bn.length * 16≤140737488355328) (hm:m.mem.length * 8≤140737488355328):Pure Tryz.prog 36 [u.av,m.fz u] (fun r=>r=j0 u m):=by
 have hl:=h.l9
 have hgl:=hr.AZ
 have c1:=qo u m hp
 have c2:=qj u m hm
 have c3:=tM u hr m h
 refine aI C5 rfl ?_
 refine cQ ?_
 rw[List.length_map,←hl]
 refine aR (fun i:Nat=>[(1,m.fz u),(4, .pt 1 1 0 0),(9,i64 m.at_.length),(10,i64 i)]) (fun i H n=>i≤m.at_.length∧2≤n∧bd H 1=some (.row 40 3 (fR true [.slice none 0 0, .slice none 0 0, .bool false]) [fR true [.slice none 0 0, .slice none 0 0, .bool false]])∧∀j:Nat,j<i→m.ky u j≠0) (fun i=>m.at_.length - i) 0 cM ⟨Nat.zero_le _,cZ,bh,fun j hj=>by omega⟩ ?_
 rintro i H n ⟨hi,hn,hx,hall⟩
 by_cases hil:i<m.at_.length
 ·have c0:=kz u hr m h i
  by_cases hb:m.ky u i=0
  ·have hs:m.stuck u=false:=by
    unfold MS.stuck
    rw[List.all_eq_false]
    exact⟨i,List.mem_range.2 hil,by simpa using hb⟩
   have r0:=decide_eq_true hb
   rw[j0,hs]
   refine cQ ?_
   first|exact rfl|trivial
  ·have r0:=decide_eq_false hb
   refine cQ ?_
   exact⟨i+1,by omega,cM,by omega,by omega,bh,fun j hj=>by
    by_cases e:j=i
    ·rw[e];exact hb
    ·exact hall j (by omega)⟩
 ·have hs:m.stuck u=true:=by
   unfold MS.stuck
   rw[List.all_eq_true]
   intro j hj
   exact decide_eq_true (hall j (by have:=List.mem_range.1 hj;omega))
  rw[j0,hs]
  refine cQ ?_
  first|exact rfl|trivial
end Go.Proofs.YtekfmjjmihomlaaGreat
end
section
/- The machine in rows: Copy. -/
namespace Go.Proofs.YtekfmjjmihomlaaGreat
open Go Go.cO Go.Proofs
set_option linter.unusedSimpArgs false
set_option linter.unusedVariables false
def dh (ids:List Nat) (l:List (List Int)):List AV:=(ids.zip l).map fun p=> .sl p.1 p.2.length
def MS.rows (u:bf) (m:MS) (a s me ho pr:Nat):AV:= .agg [cV u.shared,cV u.bz,dQ u.bj, .sl a m.at_.length, .sl s m.bg.length, .sl me m.mem.length, .sl ho m.hold.length, .sl pr m.bn.length]
structure KP (u:bf) (m:MS) (mr a s me ho pr:Nat) (ids:List Nat) (H:Hp):Prop where
 rM:∃d,bd H mr=some (.row 100 8 d [m.rows u a s me ho pr])
 rA:∃d,bd H a=some (.row 3 1 d (m.at_.map i64))
 rS:∃d,bd H s=some (.row 38 1 d (dh ids m.bg))
 rL:∀t,t<m.bg.length→∃d,bd H (ids.getD t 0)=some (.row 2 1 d ((m.bg.getD t []).map i64))
 rE:∃d,bd H me=some (.row 2 1 d (m.mem.map i64))
 rH:∃d,bd H ho=some (.row 3 1 d (m.hold.map i64))
 rP:∃d,bd H pr=some (.row 89 2 d (m.bn.map cY.av))
 len:ids.length=m.bg.length
 nodup:(mr::a::s::me::ho::pr::ids).Nodup
theorem qt {ids:List Nat} {l:List (List Int)} (h:ids.length=l.length) (i:Nat) (x:List Int):dh (ids++[i]) (l++[x])=dh ids l++[.sl i x.length]:=by
 unfold dh
 rw[List.zip_append h]
 simp
theorem copied (es:List AV) (z:AV):List.take (es.length.min (es.length:Int).toNat) es++List.drop (es.length.min (es.length:Int).toNat) (List.replicate (es.length:Int).toNat z)=es:=by
 rw[Int.toNat_natCast,show es.length.min es.length=es.length from Nat.min_self _]
 simp
set_option maxHeartbeats 4000000 in
theorem vx (u:bf) (m:MS) (h1:m.at_.length≤4096) (h2:m.mem.length≤4096) (h3:m.hold.length≤4096) (h4:m.bn.length≤1048576) (h5:m.bg.length≤4096) (h6:∀l∈m.bg,l.length≤1048576) (H0:Hp) (nx:Nat):cD Tryz.prog 65 [m.fz u] H0 nx (fun r H n=>∃mr a s me ho pr ids,r= .pt mr 1 0 0∧KP u m mr a s me ho pr ids H∧(∀x∈mr::a::s::me::ho::pr::ids,nx≤x∧x<n)∧nx≤n∧∀y,y<nx→bd H y=bd H0 y):=by
 refine aQ DK rfl ?_
 refine cQ ?_
 simp only[copied]
 simp only[List.length_map,Int.toNat_natCast]
 refine aU (fun σ:Nat×List Nat=>[(0,m.fz u),(3, .pt (nx+32) 1 0 0),(78,yo m.bg),(79,i64 m.bg.length),(80,i64 σ.1)])
  (fun σ H n=>σ.1≤m.bg.length∧nx+77≤n∧σ.2.length=σ.1∧σ.2.Nodup∧(∀x∈σ.2,nx+77≤x∧x<n)∧(∃d,bd H (nx+32)=some (.row 100 8 d [.agg [cV u.shared,cV u.bz,dQ u.bj, .sl (nx+12) m.at_.length, .sl (nx+76) σ.1, .sl (nx+18) m.mem.length, .sl (nx+24) m.hold.length, .sl (nx+30) m.bn.length]]))∧(∃d,bd H (nx+12)=some (.row 3 1 d (m.at_.map i64)))∧(∃d,bd H (nx+18)=some (.row 2 1 d (m.mem.map i64)))∧(∃d,bd H (nx+24)=some (.row 3 1 d (m.hold.map i64)))∧(∃d,bd H (nx+30)=some (.row 89 2 d (m.bn.map cY.av)))∧(∃d,bd H (nx+76)=some (.row 38 1 d (dh σ.2 (m.bg.take σ.1))))∧(∀t,t<σ.1→∃d,bd H (σ.2.getD t 0)=some (.row 2 1 d ((m.bg.getD t []).map i64)))∧∀y,y<nx→bd H y=bd H0 y) (fun σ=>m.bg.length - σ.1) (0,[])
  ⟨_,_,_,Rt.wk (Wk.mG (b:=nx+32) (e:=38) (sz:=1) (by simp only[List.length_cons,List.length_nil];omega) (by omega) (te:=100) (tz:=8) (cs:=[cV u.shared,cV u.bz,dQ u.bj, .sl (nx+12) m.at_.length, .sc (.slice none 0 0), .sl (nx+18) m.mem.length, .sl (nx+24) m.hold.length, .sl (nx+30) m.bn.length]) (j:=4) bh (by show 4<8;omega) rfl),cM,Nat.zero_le _,cZ,rfl,List.nodup_nil,fun x hx=>by simp at hx,⟨_,bh⟩,⟨_,bh⟩,⟨_,bh⟩,⟨_,bh⟩,⟨_,bh⟩,⟨_,bh⟩,fun t ht=>absurd ht (Nat.not_lt_zero _),fun y hy=>bq⟩ ?_
 rintro⟨t,ids⟩ H n ⟨ht,hn,hil,hnd,hin,⟨d0,r0⟩,⟨d1,r1⟩,⟨d2,r2⟩,⟨d3,r3⟩,⟨d4,r4⟩,⟨d5,r5⟩,hls,hkp⟩
 dsimp only at ht hil hnd hin r0 r5 hls ⊢
 have htk:(m.bg.take t).length=t:=by rw[List.length_take];omega
 have hrl:(dh ids (m.bg.take t)).length=t:=by unfold dh;rw[List.length_map,List.length_zip,htk,hil];omega
 by_cases htl:t<m.bg.length
 ·have e0:∀d,(m.bg.map cw).getD ((t:Int)).toNat d=cw (m.bg.getD t []):=fun d=>by rw[Int.toNat_natCast];exact dP cw m.bg t d htl
  have a0:(m.bg.map cw).length=m.bg.length:=by simp
  have hnx:dh (ids++[n+6]) (m.bg.take (t+1))=dh ids (m.bg.take t)++[.sl (n+6) (m.bg.getD t []).length]:=by
   rw[List.take_succ_eq_append_getElem htl,qt (by rw[hil,htk]),show m.bg.getD t []=m.bg[t] by simp[List.getD,htl]]
  have h7:=h6 _ (cW (l:=m.bg) [] htl)
  refine cQ ?_
  simp only[copied]
  simp only[List.length_map,Int.toNat_natCast]
  refine⟨(t+1,ids++[n+6]),by dsimp only;omega,_,_,_,Rt.refl _ _ _,cM,by dsimp only;omega,by omega,by simp[hil], ?_, ?_,⟨_,bh⟩,⟨_,bh⟩,⟨_,bh⟩,⟨_,bh⟩,⟨_,bh⟩,⟨_,by dsimp only;rw[hnx];exact bh⟩, ?_,fun y hy=>Eq.trans bq (hkp y hy)⟩
  ·refine List.nodup_append.2 ⟨hnd,by simp,fun a ha b hb=> ?_⟩
   simp only[List.mem_cons,List.not_mem_nil,or_false] at hb
   have:=hin _ ha;omega
  ·intro x hx
   rcases List.mem_append.1 hx with hx|hx
   ·have:=hin _ hx;exact⟨this.1,Nat.lt_of_lt_of_le this.2 cZ⟩
   ·simp only[List.mem_cons,List.not_mem_nil,or_false] at hx
    subst hx;exact⟨by omega,cZ⟩
  ·intro q hq
   have hq:q<t+1:=hq
   by_cases e:q=t
   ·subst e
    have e2:(ids++[n+6]).getD q 0=n+6:=by rw[List.getD,List.getElem?_append_right (by omega),hil,Nat.sub_self];rfl
    dsimp only
    rw[e2];exact⟨_,bh⟩
   ·obtain⟨d,hd⟩:=hls q (by omega)
    have e2:(ids++[n+6]).getD q 0=ids.getD q 0:=by simp[List.getD,List.getElem?_append,show q<ids.length by omega]
    have:=hin _ (eL (l:=ids) (q:=q) (by omega))
    dsimp only
    rw[e2];exact⟨d,Eq.trans bq hd⟩
 ·have:t=m.bg.length:=by omega
  subst this
  rw[List.take_length] at r5
  refine cQ ?_
  refine⟨⟨nx+32,nx+12,nx+76,nx+18,nx+24,nx+30,ids,rfl,⟨⟨_,bh⟩,⟨_,bh⟩,⟨_,bh⟩,fun t ht=> ?_,⟨_,bh⟩,⟨_,bh⟩,⟨_,bh⟩,hil, ?_⟩, ?_,cZ,fun y hy=>Eq.trans bq (hkp y hy)⟩⟩
  ·obtain⟨d,hd⟩:=hls t ht
   have:=hin _ (eL (l:=ids) (q:=t) (by omega))
   exact⟨d,Eq.trans bq hd⟩
  ·have hno:∀k,k<nx+77→k∉ids:=fun k hk h=>by have:=hin _ h;omega
   simp only[List.nodup_cons,List.mem_cons,not_or]
   exact⟨⟨by omega,by omega,by omega,by omega,by omega,hno _ (by omega)⟩,⟨by omega,by omega,by omega,by omega,hno _ (by omega)⟩,⟨by omega,by omega,by omega,hno _ (by omega)⟩,⟨by omega,by omega,hno _ (by omega)⟩,⟨by omega,hno _ (by omega)⟩,hno _ (by omega),hnd⟩
  ·intro x hx
   simp only[List.mem_cons] at hx
   rcases hx with rfl|rfl|rfl|rfl|rfl|rfl|hx
   all_goals first
    |exact⟨by omega,by omega⟩
    |(have:=hin _ hx;exact⟨by omega,by omega⟩)
end Go.Proofs.YtekfmjjmihomlaaGreat
end
section
/- The machine in rows, frozen. -/
namespace Go.Proofs.YtekfmjjmihomlaaGreat
open Go Go.cO Go.Proofs
set_option linter.unusedSimpArgs false
set_option linter.unusedVariables false
theorem rv {H:Hp} {k:Nat} {cs:List AV}:cO.dM H (k+1) (.agg cs)= .agg (cs.map (cO.dM H k)):=by simp only[dM]
theorem KP.dM {u:bf} {m:MS} {mr a s me ho pr:Nat} {ids:List Nat} {H:Hp} (h:KP u m mr a s me ho pr ids H) (k:Nat):cO.dM H (k+5) (.pt mr 1 0 0)=m.fz u:=by
 obtain⟨d1,h1⟩:=h.rM
 obtain⟨d2,h2⟩:=h.rA
 obtain⟨d3,h3⟩:=h.rS
 obtain⟨d4,h4⟩:=h.rE
 obtain⟨d5,h5⟩:=h.rH
 obtain⟨d6,h6⟩:=h.rP
 have hsl:(dh ids m.bg).length=m.bg.length:=by unfold dh;rw[List.length_map,List.length_zip,h.len];simp
 have hs:(dh ids m.bg).map (cO.dM H (k+2))=m.bg.map cw:=by
  apply List.ext_getElem (by simp[hsl])
  intro t q1 q2
  have ht:t<m.bg.length:=by simpa using q2
  have hti:t<ids.length:=by rw[h.len];exact ht
  obtain⟨d,hd⟩:=h.rL t ht
  rw[show ids.getD t 0=ids[t] by simp[List.getD,hti],show m.bg.getD t []=m.bg[t] by simp[List.getD,ht]] at hd
  rw[List.getElem_map,List.getElem_map]
  simp only[dh,List.getElem_map,List.getElem_zip]
  rw[eA hd (by simp),dE _ ((cB _ _).2 fun _ _=>by simp[bx])]
 simp only[cO.dM,h1]
 simp only[List.length_cons,List.length_nil,if_true,List.map_cons,List.map_nil,MS.rows]
 rw[rv]
 simp only[List.map_cons,List.map_nil]
 rw[eA h2 (by simp),eA h3 hsl,eA h4 (by simp),eA h5 (by simp),eA h6 (by simp),hs]
 rw[dE _ ((cB _ _).2 fun _ _=>by simp[bx]),dE _ ((cB _ _).2 fun _ _=>by simp[bx]),dE _ ((cB _ _).2 fun _ _=>by simp[bx]),dE _ ((cB _ _).2 fun _ _=>by simp[bx])]
 rw[dY _ (show bx 0 (cV u.shared) by simp[bx,cB]),dY _ (show bx 0 (cV u.bz) by simp[bx,cB]),dY _ (show bx 0 (dQ u.bj) by simp[bx,cB])]
 rfl
end Go.Proofs.YtekfmjjmihomlaaGreat
end
section
/- The machine that has done nothing. -/
namespace Go.Proofs.YtekfmjjmihomlaaGreat
open Go Go.cO Go.Proofs
set_option linter.unusedSimpArgs false
set_option linter.unusedVariables false
def dU (u:bf):MS:=⟨u.bj.map fun _=>0,u.bj.map fun g=>List.replicate g.bg.toNat 0,u.shared.map Decl.word,u.bz.map fun _=>-1,[]⟩
theorem yd (u:bf) (hr:c8 u) (hw:∀d∈u.shared,di d.word) (hn:∀t,t<u.bj.length→0<(u.gr t).nodes.length):dw u (dU u) where
 l9:=by simp[dU]
 gB:=fun t ht=>by
  have e:(dU u).at_.getD t 0=0:=by simp[dU,List.getD,ht]
  rw[e]
  exact⟨Int.le_refl _,by have:=hn t ht;omega⟩
 sl:=by simp[dU]
 xM:=fun t ht=>by
  have e:(dU u).bg.getD t []=List.replicate (u.gr t).bg.toNat 0:=by simp[dU,List.getD,bf.gr,ht]
  rw[e,List.length_replicate]
 xN:=fun t ht w hw=>by
  have e:(dU u).bg.getD t []=List.replicate (u.gr t).bg.toNat 0:=by simp[dU,List.getD,bf.gr,ht]
  rw[e] at hw
  rw[List.eq_of_mem_replicate hw]
  exact⟨by omega,by omega⟩
 ml:=by simp[dU]
 mw:=fun w h=>by
  obtain⟨d,hd,rfl⟩:=List.mem_map.1 h
  exact hw d hd
 hl:=by simp[dU]
 hw:=fun w h=>by
  obtain⟨d,hd,rfl⟩:=List.mem_map.1 h
  exact⟨by omega,by omega⟩
 pw:=fun p h=>by simp[dU] at h
end Go.Proofs.YtekfmjjmihomlaaGreat
end
section
/- Operators. -/
namespace Go.Proofs.YtekfmjjmihomlaaGreat
open Go Go.cO Go.Proofs
set_option linter.unusedSimpArgs false
set_option linter.unusedVariables false
set_option maxHeartbeats 1000000
abbrev sf (n:Int):Int:=IntKind.i64.wrap n
def AF (a b:Int):Int:=if b=0 then 0 else if b=-1 then sf (0 - a) else sf (a.tdiv b)
def EC (a b:Int):Int:=if b=0 then a else sf (a - sf (AF a b * b))
def K3 (a b:Int):Int:=sf ((BitVec.ofInt 64 a&&& BitVec.ofInt 64 b).toNat:Int)
def NU (a b:Int):Int:=sf ((BitVec.ofInt 64 a|||BitVec.ofInt 64 b).toNat:Int)
def MH (a b:Int):Int:=sf ((BitVec.ofInt 64 a^^^BitVec.ofInt 64 b).toNat:Int)
def BR (b:Int):Int:=IntKind.u64.wrap ((BitVec.ofInt 64 (IntKind.u64.wrap b)&&& BitVec.ofInt 64 63).toNat:Int)
def L1 (a b:Int):Int:=sf (a * 2^(min (BR b).toNat 64))
def HN (a b:Int):Int:=a.fdiv (2^(min (BR b).toNat 64))
def tr (t:Bool):Int:=if t=true then 1 else 0
theorem cS (t:Bool):Pure Tryz.prog 173 [bl t] (fun r=>r=i64 (tr t)):=by
 refine aI ug rfl ?_
 repeat' (first|((with_reducible refine aF ?_);conv=>whnf)|refine aG ?_|exact aC|with_reducible refine aD ?_ ?_|(apply aA;(·exact cI))|refine aH ?_|((with_reducible refine aB ?_ ?_)<;>intro hc<;>(try simp only[List.length_map,ne_eq,da] at hc)<;>try(exfalso;omega)))
 all_goals simp_all[tr]
theorem l6 (a b:Int):Pure Tryz.prog 155 [i64 a,i64 b] (fun r=>r=i64 (sf (a+b))):=by
 refine aI uR rfl ?_
 repeat' (first|((with_reducible refine aF ?_);conv=>whnf)|refine aG ?_|exact aC|with_reducible refine aD ?_ ?_|(apply aA;(·exact cI))|refine aH ?_|((with_reducible refine aB ?_ ?_)<;>intro hc<;>(try simp only[List.length_map,ne_eq,da] at hc)<;>try(exfalso;omega)))
 all_goals exact rfl
theorem mV (a b:Int):Pure Tryz.prog 156 [i64 a,i64 b] (fun r=>r=i64 (sf (a - b))):=by
 refine aI uS rfl ?_
 repeat' (first|((with_reducible refine aF ?_);conv=>whnf)|refine aG ?_|exact aC|with_reducible refine aD ?_ ?_|(apply aA;(·exact cI))|refine aH ?_|((with_reducible refine aB ?_ ?_)<;>intro hc<;>(try simp only[List.length_map,ne_eq,da] at hc)<;>try(exfalso;omega)))
 all_goals exact rfl
theorem mD (a b:Int):Pure Tryz.prog 157 [i64 a,i64 b] (fun r=>r=i64 (sf (a * b))):=by
 refine aI uT rfl ?_
 repeat' (first|((with_reducible refine aF ?_);conv=>whnf)|refine aG ?_|exact aC|with_reducible refine aD ?_ ?_|(apply aA;(·exact cI))|refine aH ?_|((with_reducible refine aB ?_ ?_)<;>intro hc<;>(try simp only[List.length_map,ne_eq,da] at hc)<;>try(exfalso;omega)))
 all_goals exact rfl
theorem gC (a b:Int):Pure Tryz.prog 158 [i64 a,i64 b] (fun r=>r=i64 (AF a b)):=by
 refine aI uU rfl ?_
 repeat' (first|((with_reducible refine aF ?_);conv=>whnf)|refine aG ?_|exact aC|with_reducible refine aD ?_ ?_|(apply aA;(·exact cI))|refine aH ?_|((with_reducible refine aB ?_ ?_)<;>intro hc<;>(try simp only[List.length_map,ne_eq,da] at hc)<;>try(exfalso;omega)))
 all_goals simp_all[AF]
theorem mQ (a b:Int):Pure Tryz.prog 159 [i64 a,i64 b] (fun r=>r=i64 (EC a b)):=by
 refine aI uV rfl ?_
 repeat' (first|((with_reducible refine aF ?_);conv=>whnf)|refine aG ?_|exact aC|with_reducible refine aD ?_ ?_|(apply aA;(·exact cI))|((with_reducible refine aO (gC _ _) ?_ ?_);(·exact bo))|((with_reducible refine aN (fun _=>gC _ _) ?_ ?_);(·exact bo))|((with_reducible refine aL (gC _ _) ?_ ?_);(·exact bo))|((with_reducible refine aM (fun _=>gC _ _) ?_ ?_);(·exact bo))|refine aH ?_|((with_reducible refine aB ?_ ?_)<;>intro hc<;>(try simp only[List.length_map,ne_eq,da] at hc)<;>try(exfalso;omega)))
 all_goals simp_all[EC]
theorem l8 (a b:Int):Pure Tryz.prog 160 [i64 a,i64 b] (fun r=>r=i64 (K3 a b)):=by
 refine aI uX rfl ?_
 repeat' (first|((with_reducible refine aF ?_);conv=>whnf)|refine aG ?_|exact aC|with_reducible refine aD ?_ ?_|(apply aA;(·exact cI))|refine aH ?_|((with_reducible refine aB ?_ ?_)<;>intro hc<;>(try simp only[List.length_map,ne_eq,da] at hc)<;>try(exfalso;omega)))
 all_goals exact rfl
theorem mL (a b:Int):Pure Tryz.prog 161 [i64 a,i64 b] (fun r=>r=i64 (NU a b)):=by
 refine aI uY rfl ?_
 repeat' (first|((with_reducible refine aF ?_);conv=>whnf)|refine aG ?_|exact aC|with_reducible refine aD ?_ ?_|(apply aA;(·exact cI))|refine aH ?_|((with_reducible refine aB ?_ ?_)<;>intro hc<;>(try simp only[List.length_map,ne_eq,da] at hc)<;>try(exfalso;omega)))
 all_goals exact rfl
theorem mZ (a b:Int):Pure Tryz.prog 162 [i64 a,i64 b] (fun r=>r=i64 (MH a b)):=by
 refine aI uZ rfl ?_
 repeat' (first|((with_reducible refine aF ?_);conv=>whnf)|refine aG ?_|exact aC|with_reducible refine aD ?_ ?_|(apply aA;(·exact cI))|refine aH ?_|((with_reducible refine aB ?_ ?_)<;>intro hc<;>(try simp only[List.length_map,ne_eq,da] at hc)<;>try(exfalso;omega)))
 all_goals exact rfl
theorem mS (a b:Int):Pure Tryz.prog 163 [i64 a,i64 b] (fun r=>r=i64 (L1 a b)):=by
 refine aI u0 rfl ?_
 repeat' (first|((with_reducible refine aF ?_);conv=>whnf)|refine aG ?_|exact aC|with_reducible refine aD ?_ ?_|(apply aA;(·exact cI))|refine aH ?_|((with_reducible refine aB ?_ ?_)<;>intro hc<;>(try simp only[List.length_map,ne_eq,da] at hc)<;>try(exfalso;omega)))
 all_goals exact rfl
theorem mT (a b:Int):Pure Tryz.prog 164 [i64 a,i64 b] (fun r=>r=i64 (HN a b)):=by
 refine aI u5 rfl ?_
 repeat' (first|((with_reducible refine aF ?_);conv=>whnf)|refine aG ?_|exact aC|with_reducible refine aD ?_ ?_|(apply aA;(·exact cI))|refine aH ?_|((with_reducible refine aB ?_ ?_)<;>intro hc<;>(try simp only[List.length_map,ne_eq,da] at hc)<;>try(exfalso;omega)))
 all_goals exact rfl
theorem oB (a b:Int):Pure Tryz.prog 165 [i64 a,i64 b] (fun r=>r=i64 (tr (decide (a=b)))):=by
 refine aI u6 rfl ?_
 repeat' (first|((with_reducible refine aF ?_);conv=>whnf)|refine aG ?_|exact aC|with_reducible refine aD ?_ ?_|(apply aA;(·exact cI))|((with_reducible refine aO (cS _) ?_ ?_);(·exact bo))|((with_reducible refine aN (fun _=>cS _) ?_ ?_);(·exact bo))|((with_reducible refine aL (cS _) ?_ ?_);(·exact bo))|((with_reducible refine aM (fun _=>cS _) ?_ ?_);(·exact bo))|refine aH ?_|((with_reducible refine aB ?_ ?_)<;>intro hc<;>(try simp only[List.length_map,ne_eq,da] at hc)<;>try(exfalso;omega)))
 all_goals exact rfl
theorem jT (a b:Int):Pure Tryz.prog 166 [i64 a,i64 b] (fun r=>r=i64 (tr (decide (a≠b)))):=by
 refine aI u7 rfl ?_
 repeat' (first|((with_reducible refine aF ?_);conv=>whnf)|refine aG ?_|exact aC|with_reducible refine aD ?_ ?_|(apply aA;(·exact cI))|((with_reducible refine aO (cS _) ?_ ?_);(·exact bo))|((with_reducible refine aN (fun _=>cS _) ?_ ?_);(·exact bo))|((with_reducible refine aL (cS _) ?_ ?_);(·exact bo))|((with_reducible refine aM (fun _=>cS _) ?_ ?_);(·exact bo))|refine aH ?_|((with_reducible refine aB ?_ ?_)<;>intro hc<;>(try simp only[List.length_map,ne_eq,da] at hc)<;>try(exfalso;omega)))
 all_goals exact rfl
theorem kQ (a b:Int):Pure Tryz.prog 167 [i64 a,i64 b] (fun r=>r=i64 (tr (decide (a<b)))):=by
 refine aI u9 rfl ?_
 repeat' (first|((with_reducible refine aF ?_);conv=>whnf)|refine aG ?_|exact aC|with_reducible refine aD ?_ ?_|(apply aA;(·exact cI))|((with_reducible refine aO (cS _) ?_ ?_);(·exact bo))|((with_reducible refine aN (fun _=>cS _) ?_ ?_);(·exact bo))|((with_reducible refine aL (cS _) ?_ ?_);(·exact bo))|((with_reducible refine aM (fun _=>cS _) ?_ ?_);(·exact bo))|refine aH ?_|((with_reducible refine aB ?_ ?_)<;>intro hc<;>(try simp only[List.length_map,ne_eq,da] at hc)<;>try(exfalso;omega)))
 all_goals exact rfl
theorem kS (a b:Int):Pure Tryz.prog 168 [i64 a,i64 b] (fun r=>r=i64 (tr (decide (a≤b)))):=by
 refine aI ua rfl ?_
 repeat' (first|((with_reducible refine aF ?_);conv=>whnf)|refine aG ?_|exact aC|with_reducible refine aD ?_ ?_|(apply aA;(·exact cI))|((with_reducible refine aO (cS _) ?_ ?_);(·exact bo))|((with_reducible refine aN (fun _=>cS _) ?_ ?_);(·exact bo))|((with_reducible refine aL (cS _) ?_ ?_);(·exact bo))|((with_reducible refine aM (fun _=>cS _) ?_ ?_);(·exact bo))|refine aH ?_|((with_reducible refine aB ?_ ?_)<;>intro hc<;>(try simp only[List.length_map,ne_eq,da] at hc)<;>try(exfalso;omega)))
 all_goals exact rfl
theorem jJ (a b:Int):Pure Tryz.prog 169 [i64 a,i64 b] (fun r=>r=i64 (tr (decide (b<a)))):=by
 refine aI uc rfl ?_
 repeat' (first|((with_reducible refine aF ?_);conv=>whnf)|refine aG ?_|exact aC|with_reducible refine aD ?_ ?_|(apply aA;(·exact cI))|((with_reducible refine aO (cS _) ?_ ?_);(·exact bo))|((with_reducible refine aN (fun _=>cS _) ?_ ?_);(·exact bo))|((with_reducible refine aL (cS _) ?_ ?_);(·exact bo))|((with_reducible refine aM (fun _=>cS _) ?_ ?_);(·exact bo))|refine aH ?_|((with_reducible refine aB ?_ ?_)<;>intro hc<;>(try simp only[List.length_map,ne_eq,da] at hc)<;>try(exfalso;omega)))
 all_goals exact rfl
theorem jV (a b:Int):Pure Tryz.prog 170 [i64 a,i64 b] (fun r=>r=i64 (tr (decide (b≤a)))):=by
 refine aI ud rfl ?_
 repeat' (first|((with_reducible refine aF ?_);conv=>whnf)|refine aG ?_|exact aC|with_reducible refine aD ?_ ?_|(apply aA;(·exact cI))|((with_reducible refine aO (cS _) ?_ ?_);(·exact bo))|((with_reducible refine aN (fun _=>cS _) ?_ ?_);(·exact bo))|((with_reducible refine aL (cS _) ?_ ?_);(·exact bo))|((with_reducible refine aM (fun _=>cS _) ?_ ?_);(·exact bo))|refine aH ?_|((with_reducible refine aB ?_ ?_)<;>intro hc<;>(try simp only[List.length_map,ne_eq,da] at hc)<;>try(exfalso;omega)))
 all_goals exact rfl
theorem jY (a:Int):Pure Tryz.prog 171 [i64 a] (fun r=>r=i64 (sf (0 - a))):=by
 refine aI ue rfl ?_
 repeat' (first|((with_reducible refine aF ?_);conv=>whnf)|refine aG ?_|exact aC|with_reducible refine aD ?_ ?_|(apply aA;(·exact cI))|refine aH ?_|((with_reducible refine aB ?_ ?_)<;>intro hc<;>(try simp only[List.length_map,ne_eq,da] at hc)<;>try(exfalso;omega)))
 all_goals exact rfl
theorem mI (a:Int):Pure Tryz.prog 172 [i64 a] (fun r=>r=i64 (tr (decide (a=0)))):=by
 refine aI uf rfl ?_
 repeat' (first|((with_reducible refine aF ?_);conv=>whnf)|refine aG ?_|exact aC|with_reducible refine aD ?_ ?_|(apply aA;(·exact cI))|((with_reducible refine aO (cS _) ?_ ?_);(·exact bo))|((with_reducible refine aN (fun _=>cS _) ?_ ?_);(·exact bo))|((with_reducible refine aL (cS _) ?_ ?_);(·exact bo))|((with_reducible refine aM (fun _=>cS _) ?_ ?_);(·exact bo))|refine aH ?_|((with_reducible refine aB ?_ ?_)<;>intro hc<;>(try simp only[List.length_map,ne_eq,da] at hc)<;>try(exfalso;omega)))
 all_goals exact rfl
def IZ:AV:= .agg [.sc .nilFunc, .sc .nilFunc, .fn (.func 155) [] [], .sc .nilFunc, .fn (.func 156) [] [], .sc .nilFunc, .fn (.func 157) [] [], .sc .nilFunc, .fn (.func 158) [] [], .sc .nilFunc, .fn (.func 159) [] [], .sc .nilFunc, .fn (.func 160) [] [], .sc .nilFunc, .fn (.func 161) [] [], .sc .nilFunc, .fn (.func 162) [] [], .sc .nilFunc, .fn (.func 163) [] [], .sc .nilFunc, .fn (.func 164) [] [], .sc .nilFunc, .fn (.func 165) [] [], .sc .nilFunc, .fn (.func 166) [] [], .sc .nilFunc, .fn (.func 167) [] [], .sc .nilFunc, .fn (.func 168) [] [], .sc .nilFunc, .fn (.func 169) [] [], .sc .nilFunc, .fn (.func 170) [] [], .sc .nilFunc, .sc .nilFunc, .fn (.func 171) [] [], .sc .nilFunc, .fn (.func 172) [] []]
theorem jw:Pure Tryz.prog 147 [] (fun r=>r=IZ):=kY (by simp[IZ,bx,cK]) (by kernel_rfl)
def ID (op a b:Int):Int:=if op=1 then sf (a+b) else if op=2 then sf (a - b) else if op=3 then sf (a * b) else if op=4 then AF a b else if op=5 then EC a b else if op=6 then K3 a b else if op=7 then NU a b else if op=8 then MH a b else if op=9 then L1 a b else if op=10 then HN a b else if op=11 then tr (decide (a=b)) else if op=12 then tr (decide (a≠b)) else if op=13 then tr (decide (a<b)) else if op=14 then tr (decide (a≤b)) else if op=15 then tr (decide (b<a)) else tr (decide (b≤a))
def HB (op a:Int):Int:=if op=17 then sf (0 - a) else tr (decide (a=0))
theorem AT {op:Int} (h:dJ op=true):op=1∨op=2∨op=3∨op=4∨op=5∨op=6∨op=7∨op=8∨op=9∨op=10∨op=11∨op=12∨op=13∨op=14∨op=15∨op=16:=by
 simp only[dJ,Bool.and_eq_true,decide_eq_true_eq] at h;omega
theorem I5 (op a b:Int) (h:dJ op=true):Pure Tryz.prog 124 [u8 op,i64 a,i64 b] (fun r=>r= .db [i64 (ID op a b),i64 0]):=by
 refine aI uK rfl ?_
 rcases AT h with rfl|rfl|rfl|rfl|rfl|rfl|rfl|rfl|rfl|rfl|rfl|rfl|rfl|rfl|rfl|rfl
 all_goals repeat' (first|((with_reducible refine aF ?_);conv=>whnf)|refine aG ?_|exact aC|with_reducible refine aD ?_ ?_|(apply aA;(·exact cI))|((with_reducible refine aO (eP _ (by omega)) ?_ ?_);(·exact bo))|((with_reducible refine aN (fun _=>eP _ (by omega)) ?_ ?_);(·exact bo))|((with_reducible refine aL (eP _ (by omega)) ?_ ?_);(·exact bo))|((with_reducible refine aM (fun _=>eP _ (by omega)) ?_ ?_);(·exact bo))|refine aK (jw) ?_|((with_reducible refine aO (l6 _ _) ?_ ?_);(·exact bo))|((with_reducible refine aN (fun _=>l6 _ _) ?_ ?_);(·exact bo))|((with_reducible refine aL (l6 _ _) ?_ ?_);(·exact bo))|((with_reducible refine aM (fun _=>l6 _ _) ?_ ?_);(·exact bo))|((with_reducible refine aO (mV _ _) ?_ ?_);(·exact bo))|((with_reducible refine aN (fun _=>mV _ _) ?_ ?_);(·exact bo))|((with_reducible refine aL (mV _ _) ?_ ?_);(·exact bo))|((with_reducible refine aM (fun _=>mV _ _) ?_ ?_);(·exact bo))|((with_reducible refine aO (mD _ _) ?_ ?_);(·exact bo))|((with_reducible refine aN (fun _=>mD _ _) ?_ ?_);(·exact bo))|((with_reducible refine aL (mD _ _) ?_ ?_);(·exact bo))|((with_reducible refine aM (fun _=>mD _ _) ?_ ?_);(·exact bo))|((with_reducible refine aO (gC _ _) ?_ ?_);(·exact bo))|((with_reducible refine aN (fun _=>gC _ _) ?_ ?_);(·exact bo))|((with_reducible refine aL (gC _ _) ?_ ?_);(·exact bo))|((with_reducible refine aM (fun _=>gC _ _) ?_ ?_);(·exact bo))|((with_reducible refine aO (mQ _ _) ?_ ?_);(·exact bo))|((with_reducible refine aN (fun _=>mQ _ _) ?_ ?_);(·exact bo))|((with_reducible refine aL (mQ _ _) ?_ ?_);(·exact bo))|((with_reducible refine aM (fun _=>mQ _ _) ?_ ?_);(·exact bo))|((with_reducible refine aO (l8 _ _) ?_ ?_);(·exact bo))|((with_reducible refine aN (fun _=>l8 _ _) ?_ ?_);(·exact bo))|((with_reducible refine aL (l8 _ _) ?_ ?_);(·exact bo))|((with_reducible refine aM (fun _=>l8 _ _) ?_ ?_);(·exact bo))|((with_reducible refine aO (mL _ _) ?_ ?_);(·exact bo))|((with_reducible refine aN (fun _=>mL _ _) ?_ ?_);(·exact bo))|((with_reducible refine aL (mL _ _) ?_ ?_);(·exact bo))|((with_reducible refine aM (fun _=>mL _ _) ?_ ?_);(·exact bo))|((with_reducible refine aO (mZ _ _) ?_ ?_);(·exact bo))|((with_reducible refine aN (fun _=>mZ _ _) ?_ ?_);(·exact bo))|((with_reducible refine aL (mZ _ _) ?_ ?_);(·exact bo))|((with_reducible refine aM (fun _=>mZ _ _) ?_ ?_);(·exact bo))|((with_reducible refine aO (mS _ _) ?_ ?_);(·exact bo))|((with_reducible refine aN (fun _=>mS _ _) ?_ ?_);(·exact bo))|((with_reducible refine aL (mS _ _) ?_ ?_);(·exact bo))|((with_reducible refine aM (fun _=>mS _ _) ?_ ?_);(·exact bo))|((with_reducible refine aO (mT _ _) ?_ ?_);(·exact bo))|((with_reducible refine aN (fun _=>mT _ _) ?_ ?_);(·exact bo))|((with_reducible refine aL (mT _ _) ?_ ?_);(·exact bo))|((with_reducible refine aM (fun _=>mT _ _) ?_ ?_);(·exact bo))|((with_reducible refine aO (oB _ _) ?_ ?_);(·exact bo))|((with_reducible refine aN (fun _=>oB _ _) ?_ ?_);(·exact bo))|((with_reducible refine aL (oB _ _) ?_ ?_);(·exact bo))|((with_reducible refine aM (fun _=>oB _ _) ?_ ?_);(·exact bo))|((with_reducible refine aO (jT _ _) ?_ ?_);(·exact bo))|((with_reducible refine aN (fun _=>jT _ _) ?_ ?_);(·exact bo))|((with_reducible refine aL (jT _ _) ?_ ?_);(·exact bo))|((with_reducible refine aM (fun _=>jT _ _) ?_ ?_);(·exact bo))|((with_reducible refine aO (kQ _ _) ?_ ?_);(·exact bo))|((with_reducible refine aN (fun _=>kQ _ _) ?_ ?_);(·exact bo))|((with_reducible refine aL (kQ _ _) ?_ ?_);(·exact bo))|((with_reducible refine aM (fun _=>kQ _ _) ?_ ?_);(·exact bo))|((with_reducible refine aO (kS _ _) ?_ ?_);(·exact bo))|((with_reducible refine aN (fun _=>kS _ _) ?_ ?_);(·exact bo))|((with_reducible refine aL (kS _ _) ?_ ?_);(·exact bo))|((with_reducible refine aM (fun _=>kS _ _) ?_ ?_);(·exact bo))|((with_reducible refine aO (jJ _ _) ?_ ?_);(·exact bo))|((with_reducible refine aN (fun _=>jJ _ _) ?_ ?_);(·exact bo))|((with_reducible refine aL (jJ _ _) ?_ ?_);(·exact bo))|((with_reducible refine aM (fun _=>jJ _ _) ?_ ?_);(·exact bo))|((with_reducible refine aO (jV _ _) ?_ ?_);(·exact bo))|((with_reducible refine aN (fun _=>jV _ _) ?_ ?_);(·exact bo))|((with_reducible refine aL (jV _ _) ?_ ?_);(·exact bo))|((with_reducible refine aM (fun _=>jV _ _) ?_ ?_);(·exact bo))|refine aH ?_|((with_reducible refine aB ?_ ?_)<;>intro hc<;>(try simp only[List.length_map,ne_eq,da] at hc)<;>try(exfalso;omega)))
 all_goals (first|exact rfl|trace_state)
theorem E7 (op a:Int) (h:op=17∨op=18):Pure Tryz.prog 125 [u8 op,i64 a] (fun r=>r= .db [i64 (HB op a),i64 0]):=by
 refine aI uL rfl ?_
 rcases h with rfl|rfl
 all_goals repeat' (first|((with_reducible refine aF ?_);conv=>whnf)|refine aG ?_|exact aC|with_reducible refine aD ?_ ?_|(apply aA;(·exact cI))|((with_reducible refine aO (ee _) ?_ ?_);(·exact bo))|((with_reducible refine aN (fun _=>ee _) ?_ ?_);(·exact bo))|((with_reducible refine aL (ee _) ?_ ?_);(·exact bo))|((with_reducible refine aM (fun _=>ee _) ?_ ?_);(·exact bo))|((with_reducible refine aO (eP _ (by omega)) ?_ ?_);(·exact bo))|((with_reducible refine aN (fun _=>eP _ (by omega)) ?_ ?_);(·exact bo))|((with_reducible refine aL (eP _ (by omega)) ?_ ?_);(·exact bo))|((with_reducible refine aM (fun _=>eP _ (by omega)) ?_ ?_);(·exact bo))|refine aK (jw) ?_|((with_reducible refine aO (jY _) ?_ ?_);(·exact bo))|((with_reducible refine aN (fun _=>jY _) ?_ ?_);(·exact bo))|((with_reducible refine aL (jY _) ?_ ?_);(·exact bo))|((with_reducible refine aM (fun _=>jY _) ?_ ?_);(·exact bo))|((with_reducible refine aO (mI _) ?_ ?_);(·exact bo))|((with_reducible refine aN (fun _=>mI _) ?_ ?_);(·exact bo))|((with_reducible refine aL (mI _) ?_ ?_);(·exact bo))|((with_reducible refine aM (fun _=>mI _) ?_ ?_);(·exact bo))|refine aH ?_|((with_reducible refine aB ?_ ?_)<;>intro hc<;>(try simp only[List.length_map,ne_eq,da] at hc)<;>try(exfalso;omega)))
 all_goals (first|exact rfl|trace_state)
end Go.Proofs.YtekfmjjmihomlaaGreat
end
section
/- A step in plain data. -/
namespace Go.Proofs.YtekfmjjmihomlaaGreat
open Go Go.cO Go.Proofs
set_option linter.unusedSimpArgs false
set_option linter.unusedVariables false
structure fZ where
 cL:Int
 node:Int
 kind:Int
 cH:Int
 word:Int
 put:Int
 deriving Inhabited,DecidableEq
def fZ.cells (d:fZ):List AV:=[i64 d.cL,i64 d.node,u8 d.kind,i64 d.cH,i64 d.word,i64 d.put]
abbrev fZ.av (d:fZ):AV:= .agg d.cells
def MS.val (m:MS) (t:Nat) (v:ja):Int:=if v.gp then(m.bg.getD t []).getD v.slot.toNat 0 else v.word
def MS.fU (m:MS) (t:Nat) (k:Int) (w:Int):MS:={ m with bg:=m.bg.set t ((m.bg.getD t []).set k.toNat w) }
def MS.xJ (m:MS) (t:Nat) (n:Node):Int:=if dJ n.op then ID n.op (m.val t n.a) (m.val t n.b) else if n.op≠0 then HB n.op (m.val t n.a) else m.val t n.a
def MS.act (m:MS) (t:Nat) (n:Node):MS×Int×Int×Int×Int:=
 if n.kind=1 then(m.fU t n.slot (m.xJ t n),n.next,0,m.xJ t n,0)
 else if n.kind=2 then(m.fU t n.slot (m.mem.getD n.cH.toNat 0),n.next,n.cH,m.mem.getD n.cH.toNat 0,0)
 else if n.kind=3 then({ m with mem:=m.mem.set n.cH.toNat (m.val t n.a) },n.next,n.cH,m.val t n.a,0)
 else if n.kind=4 then({ m.fU t n.slot (m.mem.getD n.cH.toNat 0) with mem:=m.mem.set n.cH.toNat (m.val t n.a) },n.next,n.cH,m.mem.getD n.cH.toNat 0,m.val t n.a)
 else if n.kind=5 then({ m with hold:=m.hold.set n.cH.toNat t },n.next,n.cH,0,0)
 else if n.kind=6 then({ m with hold:=m.hold.set n.cH.toNat (-1) },n.next,n.cH,0,0)
 else if n.kind=7 then({ m with bn:=m.bn++[⟨t,m.val t n.a⟩] },n.next,0,m.val t n.a,0)
 else(m,if m.val t n.a=0 then n.oc else n.next,0,m.val t n.a,0)
def MS.step (u:bf) (m:MS) (t:Nat):MS×fZ:=
 let n:=m.node u t
 let r:=m.act t n
 ({ r.1 with at_:=m.at_.set t r.2.1 },⟨t,m.at_.getD t 0,n.kind,r.2.2.1,r.2.2.2.1,r.2.2.2.2⟩)
end Go.Proofs.YtekfmjjmihomlaaGreat
end
