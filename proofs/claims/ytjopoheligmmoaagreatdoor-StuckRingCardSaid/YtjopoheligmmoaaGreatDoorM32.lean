import Derived.Test.YtjopoheligmmoaaGreatDoorM28
import Derived.Test.YtjopoheligmmoaaGreatDoorM29
import Derived.Test.YtjopoheligmmoaaGreatDoorM30
import Derived.Test.YtjopoheligmmoaaGreatDoorM31
section
/- The source machine in plain data. -/
namespace Go.Proofs.YtjopoheligmmoaaGreatDoor
open Go Go.cX Go.Proofs
set_option linter.unusedSimpArgs false
set_option linter.unusedVariables false
structure dR where
 dZ:Int
 word:Int
 deriving Inhabited,DecidableEq
def dR.cells (p:dR):List AV:=[i64 p.dZ,i64 p.word]
abbrev dR.av (p:dR):AV:= .agg p.cells
structure MS where
 at_:List Int
 bx:List (List Int)
 mem:List Int
 hold:List Int
 cM:List dR
 deriving Inhabited,DecidableEq
abbrev cR (l:List Int):AV:= .im 1 .any (l.map i64)
abbrev GJ (l:List (List Int)):AV:= .im 1 .any (l.map cR)
abbrev fg (l:List dR):AV:= .im 2 .any (l.map dR.av)
def MS.cells (u:bt) (m:MS):List AV:=[cq u.shared,cq u.cC,db u.bw,cR m.at_,GJ m.bx,cR m.mem,cR m.hold,fg m.cM]
abbrev MS.fz (u:bt) (m:MS):AV:= .ip 8 .any [.agg (m.cells u)] 0 0
@[simp] theorem WB (n:Nat) (p:dR):cW n p.cells:=by simp[dR.cells,cW,cK]
@[simp] theorem Y1 (n:Nat) (u:bt) (m:MS):cW n (m.cells u):=by simp[MS.cells,cW,cK,cB]
theorem nU (n:Nat) (u:bt) (m:MS):cK n (m.fz u):=by simp[cK,cW]
structure eM (u:bt) (m:MS):Prop where
 pV:m.at_.length=u.bw.length
 gQ:∀t,t<u.bw.length→0≤m.at_.getD t 0∧m.at_.getD t 0<(u.gr t).nodes.length
 sl:m.bx.length=u.bw.length
 C6:∀t,t<u.bw.length→(m.bx.getD t []).length=(u.gr t).bx.toNat
 C7:∀t,t<u.bw.length→∀w∈m.bx.getD t [],eL w
 ml:m.mem.length=u.shared.length
 mw:∀w∈m.mem,eL w
 hl:m.hold.length=u.cC.length
 hw:∀w∈m.hold,-1≤w∧w<u.bw.length
 pw:∀p∈m.cM,0≤p.dZ∧p.dZ<u.bw.length∧eL p.word
abbrev MS.node (u:bt) (m:MS) (t:Nat):Node:=(u.gr t).nd (m.at_.getD t 0).toNat
def MS.mI (u:bt) (m:MS) (t:Int):Int:=if t<0∨(m.at_.length:Int)≤t then 2 else if(m.node u t.toNat).kind=9 then 70 else if(m.node u t.toNat).kind=5∧0≤m.hold.getD (m.node u t.toNat).cO.toNat 0 then 71 else 0
theorem ints_at {l:List Int} {k:Nat} (h:k<l.length) (d:AV):(l.map i64).getD ((k:Int)).toNat d=i64 (l.getD k 0):=by
 rw[Int.toNat_natCast];exact cy i64 l k d h
theorem oW {l:List Int} {k:Int} (h:k.toNat<l.length) (d:AV):(l.map i64).getD k.toNat d=i64 (l.getD k.toNat 0):=cy i64 l k.toNat d h
theorem eM.node {u:bt} {m:MS} (hr:cY u) (h:eM u m) {t:Nat} (ht:t<u.bw.length):nI u (u.gr t) (m.node u t):=by
 have:=h.gQ t ht
 exact(hr.gr ht).nodes _ (cQ default (by omega))
theorem DX {u:bt} {m:MS} {t:Int} (h:t<0∨(m.at_.length:Int)≤t):m.mI u t=2:=by unfold MS.mI;rw[if_pos h]
theorem zq (u:bt) (m:MS) (t:Int):Pure Tryz.prog 68 [m.fz u,i64 t] (fun r=>r=bl (decide (¬(t<0∨(m.at_.length:Int)≤t)))):=by
 refine aI NN rfl ?_
 refine cT ?_
 refine ee ?_
 rw[List.length_map]
 by_cases h1:0≤t<;>by_cases h2:t<m.at_.length<;>simp[h1,h2]<;>omega
set_option maxRecDepth 8000 in
set_option maxHeartbeats 2000000 in
theorem vP (u:bt) (hr:cY u) (m:MS) (h:eM u m) (t:Int):Pure Tryz.prog 69 [m.fz u,i64 t] (fun r=>r=i64 (m.mI u t)):=by
 have c0:=zq u m t
 have hl:=h.pV
 by_cases ht:t<0∨(m.at_.length:Int)≤t
 ·rw[DX ht]
  rw[decide_eq_false (fun e=>e ht)] at c0
  refine aI vu rfl ?_
  refine cT ?_
  first|exact rfl|trivial
 ·rw[decide_eq_true ht] at c0
  obtain⟨k,rfl⟩:∃k:Nat,t=k:=⟨t.toNat,by omega⟩
  have hk:k<u.bw.length:=by omega
  have hbar:m.mI u k=if(m.node u k).kind=9 then 70 else if(m.node u k).kind=5∧0≤m.hold.getD (m.node u k).cO.toNat 0 then 71 else 0:=by
   unfold MS.mI;rw[if_neg ht,Int.toNat_natCast]
  rw[hbar]
  have hno:=h.node hr hk
  obtain⟨p0,p1⟩:=h.gQ k hk
  have e0:=fun d=>sC (l:=u.bw) hk d
  have e1:=fun d=>ints_at (l:=m.at_) (k:=k) (by omega) d
  obtain⟨j,hj⟩:∃j:Nat,m.at_.getD k 0=j:=⟨(m.at_.getD k 0).toNat,by omega⟩
  rw[hj] at e1 p1
  have hnd:m.node u k=(u.gr k).nd j:=by unfold MS.node;rw[hj,Int.toNat_natCast]
  rw[hnd] at hno ⊢
  have hgr:u.bw.getD k default=u.gr k:=rfl
  rw[hgr] at e0
  generalize u.gr k=g at *
  have e2:=fun d=>j4 (l:=g.nodes) (i:=j) (by omega) d
  rw[show g.nodes.getD j default=g.nd j from rfl] at e2
  generalize g.nd j=n at *
  have a0:(u.bw.map cD.av).length=u.bw.length:=by simp
  have a1:(m.at_.map i64).length=u.bw.length:=by simp[hl]
  have a2:(g.nodes.map Node.av).length=g.nodes.length:=by simp
  have a3:(m.hold.map i64).length=u.cC.length:=by simp[h.hl]
  by_cases h9:n.kind=9
  ·have r0:=h9
   rw[if_pos h9]
   refine aI vu rfl ?_
   refine cT ?_
   first|exact rfl|trivial
  ·rw[if_neg h9]
   by_cases h5:n.kind=5
   ·have hth:=hno.cO.1 (by unfold fp;exact decide_eq_true (by omega))
    rw[if_pos (.inl h5)] at hth
    have hhl:=h.hl
    have e3:=fun d=>oW (l:=m.hold) (k:=n.cO) (by omega) d
    have r0:=h5
    by_cases hh:0≤m.hold.getD n.cO.toNat 0
    ·rw[if_pos ⟨h5,hh⟩]
     have r1:=decide_eq_true hh
     refine aI vu rfl ?_
     refine cT ?_
     first|exact rfl|trivial
    ·rw[if_neg fun e=>hh e.2]
     have r1:=decide_eq_false hh
     refine aI vu rfl ?_
     refine cT ?_
     first|exact rfl|trivial
   ·rw[if_neg fun e=>h5 e.1]
    have r1:=decide_eq_false h5
    refine aI vu rfl ?_
    refine cT ?_
    first|exact rfl|trivial
theorem K3 (u:bt) (hr:cY u) (m:MS) (h:eM u m) (t:Int):Pure Tryz.prog 32 [m.fz u,i64 t] (fun r=>r=bl (decide (m.mI u t=0))):=by
 have c0:=vP u hr m h t
 refine aI M6 rfl ?_
 refine cT ?_
 first|exact rfl|trivial
def MS.ended (u:bt) (m:MS):Bool:=(List.range m.at_.length).all fun t=>decide (m.mI u t=70)
theorem LL (u:bt) (hr:cY u) (m:MS) (h:eM u m):Pure Tryz.prog 67 [m.fz u] (fun r=>r=bl (m.ended u)):=by
 have hl:=h.pV
 have hgl:=hr.qN
 refine aI NM rfl ?_
 refine cT ?_
 rw[List.length_map]
 refine aL (fun i:Nat=>[(0,m.fz u),(10,i64 m.at_.length),(11,i64 i)]) (fun i H n=>i≤m.at_.length∧∀j:Nat,j<i→m.mI u j=70) (fun i=>m.at_.length - i) 0 cF ⟨Nat.zero_le _,fun j hj=>by omega⟩ ?_
 rintro i H n ⟨hi,hall⟩
 by_cases hil:i<m.at_.length
 ·have c0:=vP u hr m h i
  by_cases hb:m.mI u i=70
  ·have r0:=hb
   refine cT ?_
   exact⟨i+1,by omega,cF,by omega,fun j hj=>by
    by_cases e:j=i
    ·rw[e];exact hb
    ·exact hall j (by omega)⟩
  ·have r0:=decide_eq_true hb
   refine cT ?_
   refine ee (Eq.symm ?_)
   unfold MS.ended
   rw[List.all_eq_false]
   exact⟨i,List.mem_range.2 hil,by simpa using hb⟩
 ·refine cT ?_
  refine ee (Eq.symm ?_)
  unfold MS.ended
  rw[List.all_eq_true]
  intro j hj
  exact decide_eq_true (hall j (by have:=List.mem_range.1 hj;omega))
end Go.Proofs.YtjopoheligmmoaaGreatDoor
end
section
/- Ends compared: plain data, the small functions of the code. -/
namespace Go.Proofs.YtjopoheligmmoaaGreatDoor
open Go Go.cX Go.Proofs
set_option linter.unusedSimpArgs false
set_option linter.unusedVariables false
structure cj where
 cM:List dR
 mem:List Int
 ended:Bool
 deriving Inhabited,DecidableEq
def cj.cells (e:cj):List AV:=[fg e.cM,cR e.mem,bl e.ended]
abbrev cj.av (e:cj):AV:= .agg e.cells
@[simp] theorem YH (n:Nat) (e:cj):cW n e.cells:=by simp[cj.cells,cW,cK,cB]
def eU (x y:Int):Int:=if x<y then -1 else if y<x then 1 else 0
def sX:List Int→Int
 |[]=>0
 |x::l=>if x=0 then sX l else x
def jC (p q:dR):Int:=sX [eU p.dZ q.dZ,eU p.word q.word]
def eX {α:Type} (f:α→α→Int):List α→List α→Int
 |[],[]=>0
 |[],_::_=>-1
 |_::_,[]=>1
 |x::a,y::b=>if f x y=0 then eX f a b else f x y
def vV (a b:Bool):Int:=if a=b then 0 else if b then -1 else 1
def fj (a b:cj):Int:=sX [eX jC a.cM b.cM,eX eU a.mem b.mem,vV a.ended b.ended]
theorem vX {α:Type} (f:α→α→Int) (d:α) {a b:List α} {i:Nat} (h1:i<a.length) (h2:i<b.length):eX f (a.drop i) (b.drop i)=if f (a.getD i d) (b.getD i d)=0 then eX f (a.drop (i+1)) (b.drop (i+1)) else f (a.getD i d) (b.getD i d):=by
 rw[List.drop_eq_getElem_cons h1,List.drop_eq_getElem_cons h2,eX]
 simp[List.getD,List.getElem?_eq_getElem h1,List.getElem?_eq_getElem h2]
theorem rV {α:Type} (f:α→α→Int) {a b:List α} {i:Nat} (h1:i<a.length) (h2:b.length≤i):eX f (a.drop i) (b.drop i)=1:=by
 rw[List.drop_eq_getElem_cons h1,List.drop_of_length_le h2,eX]
theorem rT {α:Type} (f:α→α→Int) {a b:List α} {i:Nat} (h1:a.length≤i) (h2:i≤b.length):eX f (a.drop i) (b.drop i)=if i<b.length then -1 else 0:=by
 rw[List.drop_of_length_le h1]
 split
 ·rename_i h;rw[List.drop_eq_getElem_cons h,eX]
 ·rw[List.drop_of_length_le (by omega),eX]
theorem GA (x:Int):Pure Tryz.prog 104 [i64 x] (fun r=>r=bl false):=by
 refine aI xu rfl ?_
 refine cT ?_
 refine ee ?_
 simp
theorem zP (x:Int):Pure Tryz.prog 194 [i64 x] (fun r=>r=bl false):=by
 refine aI yb rfl ?_
 refine cT ?_
 refine ee ?_
 simp
theorem rQ (x y:Int):Pure Tryz.prog 62 [i64 x,i64 y] (fun r=>r=i64 (eU x y)):=by
 have c0:=GA x
 have c1:=GA y
 unfold eU
 by_cases h:x<y
 ·rw[if_pos h]
  refine aI BZ rfl ?_
  refine cT ?_
  first|exact rfl|trivial
 ·rw[if_neg h]
  by_cases h2:y<x
  ·rw[if_pos h2]
   refine aI BZ rfl ?_
   refine cT ?_
   first|exact rfl|trivial
  ·rw[if_neg h2]
   refine aI BZ rfl ?_
   refine cT ?_
   first|exact rfl|trivial
theorem tn (x y:Int):Pure Tryz.prog 152 [i64 x,i64 y] (fun r=>r=i64 (eU x y)):=by
 have c0:=zP x
 have c1:=zP y
 unfold eU
 by_cases h:x<y
 ·rw[if_pos h]
  refine aI sM rfl ?_
  refine cT ?_
  first|exact rfl|trivial
 ·rw[if_neg h]
  by_cases h2:y<x
  ·rw[if_pos h2]
   refine aI sM rfl ?_
   refine cT ?_
   first|exact rfl|trivial
  ·rw[if_neg h2]
   refine aI sM rfl ?_
   refine cT ?_
   first|exact rfl|trivial
theorem OE {l:List Int} {i:Nat} (h:i<l.length):sX (l.drop i)=if l.getD i 0=0 then sX (l.drop (i+1)) else l.getD i 0:=by
 rw[List.drop_eq_getElem_cons h,sX]
 simp[List.getD,List.getElem?_eq_getElem h]
theorem wE (l:List Int) (hl:l.length≤1000):Pure Tryz.prog 61 [cR l] (fun r=>r=i64 (sX l)):=by
 refine aI NK rfl ?_
 refine cT ?_
 rw[List.length_map]
 refine aL (fun i:Nat=>[(3,i64 0),(6,cR l),(7,i64 l.length),(8,i64 i)]) (fun i H n=>i≤l.length∧sX l=sX (l.drop i)) (fun i=>l.length - i) 0 cF ⟨Nat.zero_le _,rfl⟩ ?_
 rintro i H n ⟨hi,ho⟩
 rw[ho]
 by_cases hil:i<l.length
 ·have e0:=fun d=>ints_at (l:=l) hil d
  have a0:(l.map i64).length=l.length:=by simp
  have hd:=OE hil
  by_cases hz:l.getD i 0=0
  ·have r0:=hz
   rw[if_pos hz] at hd
   refine cT ?_
   exact⟨i+1,by omega,cF,by omega,hd⟩
  ·have r0:=decide_eq_true hz
   rw[if_neg hz] at hd
   refine cT ?_
   rw[hd]
 ·rw[List.drop_of_length_le (by omega)]
  refine cT ?_
  first|exact rfl|trivial
end Go.Proofs.YtjopoheligmmoaaGreatDoor
end
section
/- Copies of lists; what a machine shows. -/
namespace Go.Proofs.YtjopoheligmmoaaGreatDoor
open Go Go.cX Go.Proofs
set_option linter.unusedSimpArgs false
set_option linter.unusedVariables false
theorem sk {p:Prop} (h:Go p):p:=h
theorem G1 {es:List AV} (hf:cW 0 es) (hl:es.length * 16≤140737488355328):cI Tryz.prog 184 [.im 2 .any es] [] 0 (fun r H _=>cX.dU H 6 r= .sc (.slice none 0 0)∧es=[]∨cX.dU H 6 r= .im 2 .any es):=by
 refine aM y8 rfl ?_
 cases es with
 |nil=>
  refine cT ?_
  refine⟨sk ?_,sk ?_⟩
  ·refine cT ?_
   exact⟨.inl ⟨rfl,rfl⟩⟩
  ·refine cT ?_
   exact⟨.inr rfl⟩
 |cons x t=>
  have a0:(x::t).length * 16≤iN:=hl
  simp only[List.length_cons] at hl
  refine cT ?_
  refine⟨.inr ((de (e:=155) (sz:=2) (es:=x::t) bu (Nat.zero_add _).symm).trans ?_)⟩
  rw[cx _ hf]
theorem G2 {es:List AV} (hf:cW 0 es) (hl:es.length * 8≤140737488355328):cI Tryz.prog 185 [.im 1 .any es] [] 0 (fun r H _=>cX.dU H 6 r= .sc (.slice none 0 0)∧es=[]∨cX.dU H 6 r= .im 1 .any es):=by
 refine aM y9 rfl ?_
 cases es with
 |nil=>
  refine cT ?_
  refine⟨sk ?_,sk ?_⟩
  ·refine cT ?_
   exact⟨.inl ⟨rfl,rfl⟩⟩
  ·refine cT ?_
   exact⟨.inr rfl⟩
 |cons x t=>
  have a0:(x::t).length * 8≤iN:=hl
  simp only[List.length_cons] at hl
  refine cT ?_
  refine⟨.inr ((de (e:=2) (sz:=1) (es:=x::t) bu (Nat.zero_add _).symm).trans ?_)⟩
  rw[cx _ hf]
theorem xF (l:List dR) (hl:l.length * 16≤140737488355328):Pure Tryz.prog 184 [fg l] (fun r=>r=fg l):=
 mc (by simp[cK,cB]) (G1 ((cB _ _).2 fun _ _=>by simp[cK]) (by rw[List.length_map];exact hl))
theorem xG (l:List Int) (hl:l.length * 8≤140737488355328):Pure Tryz.prog 185 [cR l] (fun r=>r=cR l):=
 mc (by simp[cK,cB]) (G2 ((cB _ _).2 fun _ _=>by simp[cK]) (by rw[List.length_map];exact hl))
theorem JH (u:bt) (m:MS) (hl:m.cM.length * 16≤140737488355328):Pure Tryz.prog 147 [m.fz u] (fun r=>r=fg m.cM):=by
 have c0:=xF m.cM hl
 refine aI yN rfl ?_
 refine cT ?_
 first|exact rfl|trivial
theorem I4 (u:bt) (m:MS) (hl:m.mem.length * 8≤140737488355328):Pure Tryz.prog 148 [m.fz u] (fun r=>r=cR m.mem):=by
 have c0:=xG m.mem hl
 refine aI yO rfl ?_
 refine cT ?_
 first|exact rfl|trivial
end Go.Proofs.YtjopoheligmmoaaGreatDoor
end
section
/- Whether a situation is an end. -/
namespace Go.Proofs.YtjopoheligmmoaaGreatDoor
open Go Go.cX Go.Proofs
set_option linter.unusedSimpArgs false
set_option linter.unusedVariables false
def MS.stuck (u:bt) (m:MS):Bool:=(List.range m.at_.length).all fun t=>decide (m.mI u t≠0)
def MS.end_ (u:bt) (m:MS):cj:=⟨m.cM,m.mem,m.ended u⟩
def kx (u:bt) (m:MS):AV:=if m.stuck u then .dP [(m.end_ u).av,bl true] else .dP [.agg [.sc (.slice none 0 0), .sc (.slice none 0 0),bl false],bl false]
theorem u9 (u:bt) (hr:cY u) (m:MS) (h:eM u m) (hp:m.cM.length * 16≤140737488355328) (hm:m.mem.length * 8≤140737488355328):Pure Tryz.prog 94 [u.av,m.fz u] (fun r=>r=kx u m):=by
 have hl:=h.pV
 have hgl:=hr.qN
 have c1:=JH u m hp
 have c2:=I4 u m hm
 have c3:=LL u hr m h
 refine aI NW rfl ?_
 refine cT ?_
 rw[List.length_map,←hl]
 refine aL (fun i:Nat=>[(1,m.fz u),(4, .pt 1 1 0 0),(9,i64 m.at_.length),(10,i64 i)]) (fun i H n=>i≤m.at_.length∧2≤n∧br H 1=some (.row 105 3 (gH true [.slice none 0 0, .slice none 0 0, .bool false]) [gH true [.slice none 0 0, .slice none 0 0, .bool false]])∧∀j:Nat,j<i→m.mI u j≠0) (fun i=>m.at_.length - i) 0 cF ⟨Nat.zero_le _,cZ,bu,fun j hj=>by omega⟩ ?_
 rintro i H n ⟨hi,hn,hx,hall⟩
 by_cases hil:i<m.at_.length
 ·have c0:=K3 u hr m h i
  by_cases hb:m.mI u i=0
  ·have hs:m.stuck u=false:=by
    unfold MS.stuck
    rw[List.all_eq_false]
    exact⟨i,List.mem_range.2 hil,by simpa using hb⟩
   have r0:=decide_eq_true hb
   rw[kx,hs]
   refine cT ?_
   first|exact rfl|trivial
  ·have r0:=decide_eq_false hb
   refine cT ?_
   exact⟨i+1,by omega,cF,by omega,by omega,bu,fun j hj=>by
    by_cases e:j=i
    ·rw[e];exact hb
    ·exact hall j (by omega)⟩
 ·have hs:m.stuck u=true:=by
   unfold MS.stuck
   rw[List.all_eq_true]
   intro j hj
   exact decide_eq_true (hall j (by have:=List.mem_range.1 hj;omega))
  rw[kx,hs]
  refine cT ?_
  first|exact rfl|trivial
end Go.Proofs.YtjopoheligmmoaaGreatDoor
end
section
/- The machine in rows: Copy. -/
namespace Go.Proofs.YtjopoheligmmoaaGreatDoor
open Go Go.cX Go.Proofs
set_option linter.unusedSimpArgs false
set_option linter.unusedVariables false
def eP (ids:List Nat) (l:List (List Int)):List AV:=(ids.zip l).map fun p=> .sl p.1 p.2.length
def MS.rows (u:bt) (m:MS) (a s me ho pr:Nat):AV:= .agg [cq u.shared,cq u.cC,db u.bw, .sl a m.at_.length, .sl s m.bx.length, .sl me m.mem.length, .sl ho m.hold.length, .sl pr m.cM.length]
structure V6 (u:bt) (m:MS) (mr a s me ho pr:Nat) (ids:List Nat) (H:Hp):Prop where
 rM:∃d,br H mr=some (.row 114 8 d [m.rows u a s me ho pr])
 rA:∃d,br H a=some (.row 3 1 d (m.at_.map i64))
 rS:∃d,br H s=some (.row 93 1 d (eP ids m.bx))
 rL:∀t,t<m.bx.length→∃d,br H (ids.getD t 0)=some (.row 2 1 d ((m.bx.getD t []).map i64))
 rE:∃d,br H me=some (.row 2 1 d (m.mem.map i64))
 rH:∃d,br H ho=some (.row 3 1 d (m.hold.map i64))
 rP:∃d,br H pr=some (.row 155 2 d (m.cM.map dR.av))
 len:ids.length=m.bx.length
 nodup:(mr::a::s::me::ho::pr::ids).Nodup
theorem ug {ids:List Nat} {l:List (List Int)} (h:ids.length=l.length) (i:Nat) (x:List Int):eP (ids++[i]) (l++[x])=eP ids l++[.sl i x.length]:=by
 unfold eP
 rw[List.zip_append h]
 simp
theorem copied (es:List AV) (z:AV):List.take (es.length.min (es.length:Int).toNat) es++List.drop (es.length.min (es.length:Int).toNat) (List.replicate (es.length:Int).toNat z)=es:=by
 rw[Int.toNat_natCast,show es.length.min es.length=es.length from Nat.min_self _]
 simp
set_option maxHeartbeats 4000000 in
theorem AY (u:bt) (m:MS) (h1:m.at_.length≤4096) (h2:m.mem.length≤4096) (h3:m.hold.length≤4096) (h4:m.cM.length≤1048576) (h5:m.bx.length≤4096) (h6:∀l∈m.bx,l.length≤1048576) (H0:Hp) (nx:Nat):cI Tryz.prog 146 [m.fz u] H0 nx (fun r H n=>∃mr a s me ho pr ids,r= .pt mr 1 0 0∧V6 u m mr a s me ho pr ids H∧(∀x∈mr::a::s::me::ho::pr::ids,nx≤x∧x<n)∧nx≤n∧∀y,y<nx→br H y=br H0 y):=by
 refine aM yM rfl ?_
 refine cT ?_
 simp only[copied]
 simp only[List.length_map,Int.toNat_natCast]
 refine aU (fun σ:Nat×List Nat=>[(0,m.fz u),(3, .pt (nx+32) 1 0 0),(78,GJ m.bx),(79,i64 m.bx.length),(80,i64 σ.1)])
  (fun σ H n=>σ.1≤m.bx.length∧nx+77≤n∧σ.2.length=σ.1∧σ.2.Nodup∧(∀x∈σ.2,nx+77≤x∧x<n)∧(∃d,br H (nx+32)=some (.row 114 8 d [.agg [cq u.shared,cq u.cC,db u.bw, .sl (nx+12) m.at_.length, .sl (nx+76) σ.1, .sl (nx+18) m.mem.length, .sl (nx+24) m.hold.length, .sl (nx+30) m.cM.length]]))∧(∃d,br H (nx+12)=some (.row 3 1 d (m.at_.map i64)))∧(∃d,br H (nx+18)=some (.row 2 1 d (m.mem.map i64)))∧(∃d,br H (nx+24)=some (.row 3 1 d (m.hold.map i64)))∧(∃d,br H (nx+30)=some (.row 155 2 d (m.cM.map dR.av)))∧(∃d,br H (nx+76)=some (.row 93 1 d (eP σ.2 (m.bx.take σ.1))))∧(∀t,t<σ.1→∃d,br H (σ.2.getD t 0)=some (.row 2 1 d ((m.bx.getD t []).map i64)))∧∀y,y<nx→br H y=br H0 y) (fun σ=>m.bx.length - σ.1) (0,[])
  ⟨_,_,_,Rt.wk (Wk.oi (b:=nx+32) (e:=93) (sz:=1) (by simp only[List.length_cons,List.length_nil];omega) (by omega) (te:=114) (tz:=8) (cs:=[cq u.shared,cq u.cC,db u.bw, .sl (nx+12) m.at_.length, .sc (.slice none 0 0), .sl (nx+18) m.mem.length, .sl (nx+24) m.hold.length, .sl (nx+30) m.cM.length]) (j:=4) bu (by show 4<8;omega) rfl),cF,Nat.zero_le _,cZ,rfl,List.nodup_nil,fun x hx=>by simp at hx,⟨_,bu⟩,⟨_,bu⟩,⟨_,bu⟩,⟨_,bu⟩,⟨_,bu⟩,⟨_,bu⟩,fun t ht=>absurd ht (Nat.not_lt_zero _),fun y hy=>cA⟩ ?_
 rintro⟨t,ids⟩ H n ⟨ht,hn,hil,hnd,hin,⟨d0,r0⟩,⟨d1,r1⟩,⟨d2,r2⟩,⟨d3,r3⟩,⟨d4,r4⟩,⟨d5,r5⟩,hls,hkp⟩
 dsimp only at ht hil hnd hin r0 r5 hls ⊢
 have htk:(m.bx.take t).length=t:=by rw[List.length_take];omega
 have hrl:(eP ids (m.bx.take t)).length=t:=by unfold eP;rw[List.length_map,List.length_zip,htk,hil];omega
 by_cases htl:t<m.bx.length
 ·have e0:∀d,(m.bx.map cR).getD ((t:Int)).toNat d=cR (m.bx.getD t []):=fun d=>by rw[Int.toNat_natCast];exact cy cR m.bx t d htl
  have a0:(m.bx.map cR).length=m.bx.length:=by simp
  have hnx:eP (ids++[n+6]) (m.bx.take (t+1))=eP ids (m.bx.take t)++[.sl (n+6) (m.bx.getD t []).length]:=by
   rw[List.take_succ_eq_append_getElem htl,ug (by rw[hil,htk]),show m.bx.getD t []=m.bx[t] by simp[List.getD,htl]]
  have h7:=h6 _ (cQ (l:=m.bx) [] htl)
  refine cT ?_
  simp only[copied]
  simp only[List.length_map,Int.toNat_natCast]
  refine⟨(t+1,ids++[n+6]),by dsimp only;omega,_,_,_,Rt.refl _ _ _,cF,by dsimp only;omega,by omega,by simp[hil], ?_, ?_,⟨_,bu⟩,⟨_,bu⟩,⟨_,bu⟩,⟨_,bu⟩,⟨_,bu⟩,⟨_,by dsimp only;rw[hnx];exact bu⟩, ?_,fun y hy=>Eq.trans cA (hkp y hy)⟩
  ·refine List.nodup_append.2 ⟨hnd,by simp,fun a ha b hb=> ?_⟩
   simp only[List.mem_cons,List.not_mem_nil,or_false] at hb
   have:=hin _ ha;omega
  ·intro x hx
   rcases List.mem_append.1 hx with hx|hx
   ·have:=hin _ hx;exact⟨this.1,Nat.lt_of_lt_of_le this.2 cZ⟩
   ·simp only[List.mem_cons,List.not_mem_nil,or_false] at hx
    subst hx;exact⟨by omega,cZ⟩
  ·intro q hq
   have hq:q<t+1:=hq
   by_cases e:q=t
   ·subst e
    have e2:(ids++[n+6]).getD q 0=n+6:=by rw[List.getD,List.getElem?_append_right (by omega),hil,Nat.sub_self];rfl
    dsimp only
    rw[e2];exact⟨_,bu⟩
   ·obtain⟨d,hd⟩:=hls q (by omega)
    have e2:(ids++[n+6]).getD q 0=ids.getD q 0:=by simp[List.getD,List.getElem?_append,show q<ids.length by omega]
    have:=hin _ (fE (l:=ids) (q:=q) (by omega))
    dsimp only
    rw[e2];exact⟨d,Eq.trans cA hd⟩
 ·have:t=m.bx.length:=by omega
  subst this
  rw[List.take_length] at r5
  refine cT ?_
  refine⟨⟨nx+32,nx+12,nx+76,nx+18,nx+24,nx+30,ids,rfl,⟨⟨_,bu⟩,⟨_,bu⟩,⟨_,bu⟩,fun t ht=> ?_,⟨_,bu⟩,⟨_,bu⟩,⟨_,bu⟩,hil, ?_⟩, ?_,cZ,fun y hy=>Eq.trans cA (hkp y hy)⟩⟩
  ·obtain⟨d,hd⟩:=hls t ht
   have:=hin _ (fE (l:=ids) (q:=t) (by omega))
   exact⟨d,Eq.trans cA hd⟩
  ·have hno:∀k,k<nx+77→k∉ids:=fun k hk h=>by have:=hin _ h;omega
   simp only[List.nodup_cons,List.mem_cons,not_or]
   exact⟨⟨by omega,by omega,by omega,by omega,by omega,hno _ (by omega)⟩,⟨by omega,by omega,by omega,by omega,hno _ (by omega)⟩,⟨by omega,by omega,by omega,hno _ (by omega)⟩,⟨by omega,by omega,hno _ (by omega)⟩,⟨by omega,hno _ (by omega)⟩,hno _ (by omega),hnd⟩
  ·intro x hx
   simp only[List.mem_cons] at hx
   rcases hx with rfl|rfl|rfl|rfl|rfl|rfl|hx
   all_goals first
    |exact⟨by omega,by omega⟩
    |(have:=hin _ hx;exact⟨by omega,by omega⟩)
end Go.Proofs.YtjopoheligmmoaaGreatDoor
end
section
/- The machine in rows, frozen. -/
namespace Go.Proofs.YtjopoheligmmoaaGreatDoor
open Go Go.cX Go.Proofs
set_option linter.unusedSimpArgs false
set_option linter.unusedVariables false
theorem vg {H:Hp} {k:Nat} {cs:List AV}:cX.dU H (k+1) (.agg cs)= .agg (cs.map (cX.dU H k)):=by simp only[dU]
theorem V6.dU {u:bt} {m:MS} {mr a s me ho pr:Nat} {ids:List Nat} {H:Hp} (h:V6 u m mr a s me ho pr ids H) (k:Nat):cX.dU H (k+5) (.pt mr 1 0 0)=m.fz u:=by
 obtain⟨d1,h1⟩:=h.rM
 obtain⟨d2,h2⟩:=h.rA
 obtain⟨d3,h3⟩:=h.rS
 obtain⟨d4,h4⟩:=h.rE
 obtain⟨d5,h5⟩:=h.rH
 obtain⟨d6,h6⟩:=h.rP
 have hsl:(eP ids m.bx).length=m.bx.length:=by unfold eP;rw[List.length_map,List.length_zip,h.len];simp
 have hs:(eP ids m.bx).map (cX.dU H (k+2))=m.bx.map cR:=by
  apply List.ext_getElem (by simp[hsl])
  intro t q1 q2
  have ht:t<m.bx.length:=by simpa using q2
  have hti:t<ids.length:=by rw[h.len];exact ht
  obtain⟨d,hd⟩:=h.rL t ht
  rw[show ids.getD t 0=ids[t] by simp[List.getD,hti],show m.bx.getD t []=m.bx[t] by simp[List.getD,ht]] at hd
  rw[List.getElem_map,List.getElem_map]
  simp only[eP,List.getElem_map,List.getElem_zip]
  rw[de hd (by simp),cx _ ((cB _ _).2 fun _ _=>by simp[cK])]
 simp only[cX.dU,h1]
 simp only[List.length_cons,List.length_nil,if_true,List.map_cons,List.map_nil,MS.rows]
 rw[vg]
 simp only[List.map_cons,List.map_nil]
 rw[de h2 (by simp),de h3 hsl,de h4 (by simp),de h5 (by simp),de h6 (by simp),hs]
 rw[cx _ ((cB _ _).2 fun _ _=>by simp[cK]),cx _ ((cB _ _).2 fun _ _=>by simp[cK]),cx _ ((cB _ _).2 fun _ _=>by simp[cK]),cx _ ((cB _ _).2 fun _ _=>by simp[cK])]
 rw[du _ (show cK 0 (cq u.shared) by simp[cK,cB]),du _ (show cK 0 (cq u.cC) by simp[cK,cB]),du _ (show cK 0 (db u.bw) by simp[cK,cB])]
 rfl
end Go.Proofs.YtjopoheligmmoaaGreatDoor
end
section
/- The machine that has done nothing. -/
namespace Go.Proofs.YtjopoheligmmoaaGreatDoor
open Go Go.cX Go.Proofs
set_option linter.unusedSimpArgs false
set_option linter.unusedVariables false
def dn (u:bt):MS:=⟨u.bw.map fun _=>0,u.bw.map fun g=>List.replicate g.bx.toNat 0,u.shared.map Decl.word,u.cC.map fun _=>-1,[]⟩
theorem GB (u:bt) (hr:cY u) (hw:∀d∈u.shared,eL d.word) (hn:∀t,t<u.bw.length→0<(u.gr t).nodes.length):eM u (dn u) where
 pV:=by simp[dn]
 gQ:=fun t ht=>by
  have e:(dn u).at_.getD t 0=0:=by simp[dn,List.getD,ht]
  rw[e]
  exact⟨Int.le_refl _,by have:=hn t ht;omega⟩
 sl:=by simp[dn]
 C6:=fun t ht=>by
  have e:(dn u).bx.getD t []=List.replicate (u.gr t).bx.toNat 0:=by simp[dn,List.getD,bt.gr,ht]
  rw[e,List.length_replicate]
 C7:=fun t ht w hw=>by
  have e:(dn u).bx.getD t []=List.replicate (u.gr t).bx.toNat 0:=by simp[dn,List.getD,bt.gr,ht]
  rw[e] at hw
  rw[List.eq_of_mem_replicate hw]
  exact⟨by omega,by omega⟩
 ml:=by simp[dn]
 mw:=fun w h=>by
  obtain⟨d,hd,rfl⟩:=List.mem_map.1 h
  exact hw d hd
 hl:=by simp[dn]
 hw:=fun w h=>by
  obtain⟨d,hd,rfl⟩:=List.mem_map.1 h
  exact⟨by omega,by omega⟩
 pw:=fun p h=>by simp[dn] at h
end Go.Proofs.YtjopoheligmmoaaGreatDoor
end
section
/- Operators. -/
namespace Go.Proofs.YtjopoheligmmoaaGreatDoor
open Go Go.cX Go.Proofs
set_option linter.unusedSimpArgs false
set_option linter.unusedVariables false
set_option maxHeartbeats 1000000
abbrev wX (n:Int):Int:=IntKind.i64.wrap n
def JJ (a b:Int):Int:=if b=0 then 0 else if b=-1 then wX (0 - a) else wX (a.tdiv b)
def OK (a b:Int):Int:=if b=0 then a else wX (a - wX (JJ a b * b))
def WZ (a b:Int):Int:=wX ((BitVec.ofInt 64 a&&& BitVec.ofInt 64 b).toNat:Int)
def ZP (a b:Int):Int:=wX ((BitVec.ofInt 64 a|||BitVec.ofInt 64 b).toNat:Int)
def YB (a b:Int):Int:=wX ((BitVec.ofInt 64 a^^^BitVec.ofInt 64 b).toNat:Int)
def K7 (b:Int):Int:=IntKind.u64.wrap ((BitVec.ofInt 64 (IntKind.u64.wrap b)&&& BitVec.ofInt 64 63).toNat:Int)
def XY (a b:Int):Int:=wX (a * 2^(min (K7 b).toNat 64))
def SP (a b:Int):Int:=a.fdiv (2^(min (K7 b).toNat 64))
def tr (t:Bool):Int:=if t=true then 1 else 0
theorem cp (t:Bool):Pure Tryz.prog 226 [bl t] (fun r=>r=i64 (tr t)):=by
 refine aI zA rfl ?_
 repeat' (first|((with_reducible refine aF ?_);conv=>whnf)|refine aG ?_|exact aC|with_reducible refine aD ?_ ?_|(apply aB;(·exact cN))|refine aH ?_|((with_reducible refine aA ?_ ?_)<;>intro hc<;>(try simp only[List.length_map,ne_eq,dX] at hc)<;>try(exfalso;omega)))
 all_goals simp_all[tr]
theorem oD (a b:Int):Pure Tryz.prog 206 [i64 a,i64 b] (fun r=>r=i64 (wX (a+b))):=by
 refine aI yf rfl ?_
 repeat' (first|((with_reducible refine aF ?_);conv=>whnf)|refine aG ?_|exact aC|with_reducible refine aD ?_ ?_|(apply aB;(·exact cN))|refine aH ?_|((with_reducible refine aA ?_ ?_)<;>intro hc<;>(try simp only[List.length_map,ne_eq,dX] at hc)<;>try(exfalso;omega)))
 all_goals exact rfl
theorem pH (a b:Int):Pure Tryz.prog 207 [i64 a,i64 b] (fun r=>r=i64 (wX (a - b))):=by
 refine aI yg rfl ?_
 repeat' (first|((with_reducible refine aF ?_);conv=>whnf)|refine aG ?_|exact aC|with_reducible refine aD ?_ ?_|(apply aB;(·exact cN))|refine aH ?_|((with_reducible refine aA ?_ ?_)<;>intro hc<;>(try simp only[List.length_map,ne_eq,dX] at hc)<;>try(exfalso;omega)))
 all_goals exact rfl
theorem og (a b:Int):Pure Tryz.prog 208 [i64 a,i64 b] (fun r=>r=i64 (wX (a * b))):=by
 refine aI yh rfl ?_
 repeat' (first|((with_reducible refine aF ?_);conv=>whnf)|refine aG ?_|exact aC|with_reducible refine aD ?_ ?_|(apply aB;(·exact cN))|refine aH ?_|((with_reducible refine aA ?_ ?_)<;>intro hc<;>(try simp only[List.length_map,ne_eq,dX] at hc)<;>try(exfalso;omega)))
 all_goals exact rfl
theorem iC (a b:Int):Pure Tryz.prog 209 [i64 a,i64 b] (fun r=>r=i64 (JJ a b)):=by
 refine aI yi rfl ?_
 repeat' (first|((with_reducible refine aF ?_);conv=>whnf)|refine aG ?_|exact aC|with_reducible refine aD ?_ ?_|(apply aB;(·exact cN))|refine aH ?_|((with_reducible refine aA ?_ ?_)<;>intro hc<;>(try simp only[List.length_map,ne_eq,dX] at hc)<;>try(exfalso;omega)))
 all_goals simp_all[JJ]
theorem oz (a b:Int):Pure Tryz.prog 210 [i64 a,i64 b] (fun r=>r=i64 (OK a b)):=by
 refine aI yj rfl ?_
 repeat' (first|((with_reducible refine aF ?_);conv=>whnf)|refine aG ?_|exact aC|with_reducible refine aD ?_ ?_|(apply aB;(·exact cN))|((with_reducible refine aQ (iC _ _) ?_ ?_);(·exact cE))|((with_reducible refine aP (fun _=>iC _ _) ?_ ?_);(·exact cE))|((with_reducible refine aN (iC _ _) ?_ ?_);(·exact cE))|((with_reducible refine aO (fun _=>iC _ _) ?_ ?_);(·exact cE))|refine aH ?_|((with_reducible refine aA ?_ ?_)<;>intro hc<;>(try simp only[List.length_map,ne_eq,dX] at hc)<;>try(exfalso;omega)))
 all_goals simp_all[OK]
theorem oG (a b:Int):Pure Tryz.prog 211 [i64 a,i64 b] (fun r=>r=i64 (WZ a b)):=by
 refine aI yk rfl ?_
 repeat' (first|((with_reducible refine aF ?_);conv=>whnf)|refine aG ?_|exact aC|with_reducible refine aD ?_ ?_|(apply aB;(·exact cN))|refine aH ?_|((with_reducible refine aA ?_ ?_)<;>intro hc<;>(try simp only[List.length_map,ne_eq,dX] at hc)<;>try(exfalso;omega)))
 all_goals exact rfl
theorem oq (a b:Int):Pure Tryz.prog 212 [i64 a,i64 b] (fun r=>r=i64 (ZP a b)):=by
 refine aI yl rfl ?_
 repeat' (first|((with_reducible refine aF ?_);conv=>whnf)|refine aG ?_|exact aC|with_reducible refine aD ?_ ?_|(apply aB;(·exact cN))|refine aH ?_|((with_reducible refine aA ?_ ?_)<;>intro hc<;>(try simp only[List.length_map,ne_eq,dX] at hc)<;>try(exfalso;omega)))
 all_goals exact rfl
theorem pL (a b:Int):Pure Tryz.prog 213 [i64 a,i64 b] (fun r=>r=i64 (YB a b)):=by
 refine aI ym rfl ?_
 repeat' (first|((with_reducible refine aF ?_);conv=>whnf)|refine aG ?_|exact aC|with_reducible refine aD ?_ ?_|(apply aB;(·exact cN))|refine aH ?_|((with_reducible refine aA ?_ ?_)<;>intro hc<;>(try simp only[List.length_map,ne_eq,dX] at hc)<;>try(exfalso;omega)))
 all_goals exact rfl
theorem pD (a b:Int):Pure Tryz.prog 214 [i64 a,i64 b] (fun r=>r=i64 (XY a b)):=by
 refine aI yn rfl ?_
 repeat' (first|((with_reducible refine aF ?_);conv=>whnf)|refine aG ?_|exact aC|with_reducible refine aD ?_ ?_|(apply aB;(·exact cN))|refine aH ?_|((with_reducible refine aA ?_ ?_)<;>intro hc<;>(try simp only[List.length_map,ne_eq,dX] at hc)<;>try(exfalso;omega)))
 all_goals exact rfl
theorem pE (a b:Int):Pure Tryz.prog 215 [i64 a,i64 b] (fun r=>r=i64 (SP a b)):=by
 refine aI yo rfl ?_
 repeat' (first|((with_reducible refine aF ?_);conv=>whnf)|refine aG ?_|exact aC|with_reducible refine aD ?_ ?_|(apply aB;(·exact cN))|refine aH ?_|((with_reducible refine aA ?_ ?_)<;>intro hc<;>(try simp only[List.length_map,ne_eq,dX] at hc)<;>try(exfalso;omega)))
 all_goals exact rfl
theorem qm (a b:Int):Pure Tryz.prog 216 [i64 a,i64 b] (fun r=>r=i64 (tr (decide (a=b)))):=by
 refine aI yp rfl ?_
 repeat' (first|((with_reducible refine aF ?_);conv=>whnf)|refine aG ?_|exact aC|with_reducible refine aD ?_ ?_|(apply aB;(·exact cN))|((with_reducible refine aQ (cp _) ?_ ?_);(·exact cE))|((with_reducible refine aP (fun _=>cp _) ?_ ?_);(·exact cE))|((with_reducible refine aN (cp _) ?_ ?_);(·exact cE))|((with_reducible refine aO (fun _=>cp _) ?_ ?_);(·exact cE))|refine aH ?_|((with_reducible refine aA ?_ ?_)<;>intro hc<;>(try simp only[List.length_map,ne_eq,dX] at hc)<;>try(exfalso;omega)))
 all_goals exact rfl
theorem kn (a b:Int):Pure Tryz.prog 217 [i64 a,i64 b] (fun r=>r=i64 (tr (decide (a≠b)))):=by
 refine aI yq rfl ?_
 repeat' (first|((with_reducible refine aF ?_);conv=>whnf)|refine aG ?_|exact aC|with_reducible refine aD ?_ ?_|(apply aB;(·exact cN))|((with_reducible refine aQ (cp _) ?_ ?_);(·exact cE))|((with_reducible refine aP (fun _=>cp _) ?_ ?_);(·exact cE))|((with_reducible refine aN (cp _) ?_ ?_);(·exact cE))|((with_reducible refine aO (fun _=>cp _) ?_ ?_);(·exact cE))|refine aH ?_|((with_reducible refine aA ?_ ?_)<;>intro hc<;>(try simp only[List.length_map,ne_eq,dX] at hc)<;>try(exfalso;omega)))
 all_goals exact rfl
theorem mW (a b:Int):Pure Tryz.prog 218 [i64 a,i64 b] (fun r=>r=i64 (tr (decide (a<b)))):=by
 refine aI yr rfl ?_
 repeat' (first|((with_reducible refine aF ?_);conv=>whnf)|refine aG ?_|exact aC|with_reducible refine aD ?_ ?_|(apply aB;(·exact cN))|((with_reducible refine aQ (cp _) ?_ ?_);(·exact cE))|((with_reducible refine aP (fun _=>cp _) ?_ ?_);(·exact cE))|((with_reducible refine aN (cp _) ?_ ?_);(·exact cE))|((with_reducible refine aO (fun _=>cp _) ?_ ?_);(·exact cE))|refine aH ?_|((with_reducible refine aA ?_ ?_)<;>intro hc<;>(try simp only[List.length_map,ne_eq,dX] at hc)<;>try(exfalso;omega)))
 all_goals exact rfl
theorem mZ (a b:Int):Pure Tryz.prog 219 [i64 a,i64 b] (fun r=>r=i64 (tr (decide (a≤b)))):=by
 refine aI yu rfl ?_
 repeat' (first|((with_reducible refine aF ?_);conv=>whnf)|refine aG ?_|exact aC|with_reducible refine aD ?_ ?_|(apply aB;(·exact cN))|((with_reducible refine aQ (cp _) ?_ ?_);(·exact cE))|((with_reducible refine aP (fun _=>cp _) ?_ ?_);(·exact cE))|((with_reducible refine aN (cp _) ?_ ?_);(·exact cE))|((with_reducible refine aO (fun _=>cp _) ?_ ?_);(·exact cE))|refine aH ?_|((with_reducible refine aA ?_ ?_)<;>intro hc<;>(try simp only[List.length_map,ne_eq,dX] at hc)<;>try(exfalso;omega)))
 all_goals exact rfl
theorem kV (a b:Int):Pure Tryz.prog 220 [i64 a,i64 b] (fun r=>r=i64 (tr (decide (b<a)))):=by
 refine aI yw rfl ?_
 repeat' (first|((with_reducible refine aF ?_);conv=>whnf)|refine aG ?_|exact aC|with_reducible refine aD ?_ ?_|(apply aB;(·exact cN))|((with_reducible refine aQ (cp _) ?_ ?_);(·exact cE))|((with_reducible refine aP (fun _=>cp _) ?_ ?_);(·exact cE))|((with_reducible refine aN (cp _) ?_ ?_);(·exact cE))|((with_reducible refine aO (fun _=>cp _) ?_ ?_);(·exact cE))|refine aH ?_|((with_reducible refine aA ?_ ?_)<;>intro hc<;>(try simp only[List.length_map,ne_eq,dX] at hc)<;>try(exfalso;omega)))
 all_goals exact rfl
theorem kq (a b:Int):Pure Tryz.prog 221 [i64 a,i64 b] (fun r=>r=i64 (tr (decide (b≤a)))):=by
 refine aI yx rfl ?_
 repeat' (first|((with_reducible refine aF ?_);conv=>whnf)|refine aG ?_|exact aC|with_reducible refine aD ?_ ?_|(apply aB;(·exact cN))|((with_reducible refine aQ (cp _) ?_ ?_);(·exact cE))|((with_reducible refine aP (fun _=>cp _) ?_ ?_);(·exact cE))|((with_reducible refine aN (cp _) ?_ ?_);(·exact cE))|((with_reducible refine aO (fun _=>cp _) ?_ ?_);(·exact cE))|refine aH ?_|((with_reducible refine aA ?_ ?_)<;>intro hc<;>(try simp only[List.length_map,ne_eq,dX] at hc)<;>try(exfalso;omega)))
 all_goals exact rfl
theorem ku (a:Int):Pure Tryz.prog 222 [i64 a] (fun r=>r=i64 (wX (0 - a))):=by
 refine aI yy rfl ?_
 repeat' (first|((with_reducible refine aF ?_);conv=>whnf)|refine aG ?_|exact aC|with_reducible refine aD ?_ ?_|(apply aB;(·exact cN))|refine aH ?_|((with_reducible refine aA ?_ ?_)<;>intro hc<;>(try simp only[List.length_map,ne_eq,dX] at hc)<;>try(exfalso;omega)))
 all_goals exact rfl
theorem oj (a:Int):Pure Tryz.prog 223 [i64 a] (fun r=>r=i64 (tr (decide (a=0)))):=by
 refine aI yz rfl ?_
 repeat' (first|((with_reducible refine aF ?_);conv=>whnf)|refine aG ?_|exact aC|with_reducible refine aD ?_ ?_|(apply aB;(·exact cN))|((with_reducible refine aQ (cp _) ?_ ?_);(·exact cE))|((with_reducible refine aP (fun _=>cp _) ?_ ?_);(·exact cE))|((with_reducible refine aN (cp _) ?_ ?_);(·exact cE))|((with_reducible refine aO (fun _=>cp _) ?_ ?_);(·exact cE))|refine aH ?_|((with_reducible refine aA ?_ ?_)<;>intro hc<;>(try simp only[List.length_map,ne_eq,dX] at hc)<;>try(exfalso;omega)))
 all_goals exact rfl
def TV:AV:= .agg [.sc .nilFunc, .sc .nilFunc, .fn (.func 206) [] [], .sc .nilFunc, .fn (.func 207) [] [], .sc .nilFunc, .fn (.func 208) [] [], .sc .nilFunc, .fn (.func 209) [] [], .sc .nilFunc, .fn (.func 210) [] [], .sc .nilFunc, .fn (.func 211) [] [], .sc .nilFunc, .fn (.func 212) [] [], .sc .nilFunc, .fn (.func 213) [] [], .sc .nilFunc, .fn (.func 214) [] [], .sc .nilFunc, .fn (.func 215) [] [], .sc .nilFunc, .fn (.func 216) [] [], .sc .nilFunc, .fn (.func 217) [] [], .sc .nilFunc, .fn (.func 218) [] [], .sc .nilFunc, .fn (.func 219) [] [], .sc .nilFunc, .fn (.func 220) [] [], .sc .nilFunc, .fn (.func 221) [] [], .sc .nilFunc, .sc .nilFunc, .fn (.func 222) [] [], .sc .nilFunc, .fn (.func 223) [] []]
theorem ln:Pure Tryz.prog 197 [] (fun r=>r=TV):=kO (by simp[TV,cK,cW]) (by kernel_rfl)
def S7 (op a b:Int):Int:=if op=1 then wX (a+b) else if op=2 then wX (a - b) else if op=3 then wX (a * b) else if op=4 then JJ a b else if op=5 then OK a b else if op=6 then WZ a b else if op=7 then ZP a b else if op=8 then YB a b else if op=9 then XY a b else if op=10 then SP a b else if op=11 then tr (decide (a=b)) else if op=12 then tr (decide (a≠b)) else if op=13 then tr (decide (a<b)) else if op=14 then tr (decide (a≤b)) else if op=15 then tr (decide (b<a)) else tr (decide (b≤a))
def SC (op a:Int):Int:=if op=17 then wX (0 - a) else tr (decide (a=0))
theorem J2 {op:Int} (h:dy op=true):op=1∨op=2∨op=3∨op=4∨op=5∨op=6∨op=7∨op=8∨op=9∨op=10∨op=11∨op=12∨op=13∨op=14∨op=15∨op=16:=by
 simp only[dy,Bool.and_eq_true,decide_eq_true_eq] at h;omega
theorem T2 (op a b:Int) (h:dy op=true):Pure Tryz.prog 160 [u8 op,i64 a,i64 b] (fun r=>r= .dP [i64 (S7 op a b),i64 0]):=by
 refine aI yT rfl ?_
 rcases J2 h with rfl|rfl|rfl|rfl|rfl|rfl|rfl|rfl|rfl|rfl|rfl|rfl|rfl|rfl|rfl|rfl
 all_goals repeat' (first|((with_reducible refine aF ?_);conv=>whnf)|refine aG ?_|exact aC|with_reducible refine aD ?_ ?_|(apply aB;(·exact cN))|((with_reducible refine aQ (fJ _ (by omega)) ?_ ?_);(·exact cE))|((with_reducible refine aP (fun _=>fJ _ (by omega)) ?_ ?_);(·exact cE))|((with_reducible refine aN (fJ _ (by omega)) ?_ ?_);(·exact cE))|((with_reducible refine aO (fun _=>fJ _ (by omega)) ?_ ?_);(·exact cE))|refine aK (ln) ?_|((with_reducible refine aQ (oD _ _) ?_ ?_);(·exact cE))|((with_reducible refine aP (fun _=>oD _ _) ?_ ?_);(·exact cE))|((with_reducible refine aN (oD _ _) ?_ ?_);(·exact cE))|((with_reducible refine aO (fun _=>oD _ _) ?_ ?_);(·exact cE))|((with_reducible refine aQ (pH _ _) ?_ ?_);(·exact cE))|((with_reducible refine aP (fun _=>pH _ _) ?_ ?_);(·exact cE))|((with_reducible refine aN (pH _ _) ?_ ?_);(·exact cE))|((with_reducible refine aO (fun _=>pH _ _) ?_ ?_);(·exact cE))|((with_reducible refine aQ (og _ _) ?_ ?_);(·exact cE))|((with_reducible refine aP (fun _=>og _ _) ?_ ?_);(·exact cE))|((with_reducible refine aN (og _ _) ?_ ?_);(·exact cE))|((with_reducible refine aO (fun _=>og _ _) ?_ ?_);(·exact cE))|((with_reducible refine aQ (iC _ _) ?_ ?_);(·exact cE))|((with_reducible refine aP (fun _=>iC _ _) ?_ ?_);(·exact cE))|((with_reducible refine aN (iC _ _) ?_ ?_);(·exact cE))|((with_reducible refine aO (fun _=>iC _ _) ?_ ?_);(·exact cE))|((with_reducible refine aQ (oz _ _) ?_ ?_);(·exact cE))|((with_reducible refine aP (fun _=>oz _ _) ?_ ?_);(·exact cE))|((with_reducible refine aN (oz _ _) ?_ ?_);(·exact cE))|((with_reducible refine aO (fun _=>oz _ _) ?_ ?_);(·exact cE))|((with_reducible refine aQ (oG _ _) ?_ ?_);(·exact cE))|((with_reducible refine aP (fun _=>oG _ _) ?_ ?_);(·exact cE))|((with_reducible refine aN (oG _ _) ?_ ?_);(·exact cE))|((with_reducible refine aO (fun _=>oG _ _) ?_ ?_);(·exact cE))|((with_reducible refine aQ (oq _ _) ?_ ?_);(·exact cE))|((with_reducible refine aP (fun _=>oq _ _) ?_ ?_);(·exact cE))|((with_reducible refine aN (oq _ _) ?_ ?_);(·exact cE))|((with_reducible refine aO (fun _=>oq _ _) ?_ ?_);(·exact cE))|((with_reducible refine aQ (pL _ _) ?_ ?_);(·exact cE))|((with_reducible refine aP (fun _=>pL _ _) ?_ ?_);(·exact cE))|((with_reducible refine aN (pL _ _) ?_ ?_);(·exact cE))|((with_reducible refine aO (fun _=>pL _ _) ?_ ?_);(·exact cE))|((with_reducible refine aQ (pD _ _) ?_ ?_);(·exact cE))|((with_reducible refine aP (fun _=>pD _ _) ?_ ?_);(·exact cE))|((with_reducible refine aN (pD _ _) ?_ ?_);(·exact cE))|((with_reducible refine aO (fun _=>pD _ _) ?_ ?_);(·exact cE))|((with_reducible refine aQ (pE _ _) ?_ ?_);(·exact cE))|((with_reducible refine aP (fun _=>pE _ _) ?_ ?_);(·exact cE))|((with_reducible refine aN (pE _ _) ?_ ?_);(·exact cE))|((with_reducible refine aO (fun _=>pE _ _) ?_ ?_);(·exact cE))|((with_reducible refine aQ (qm _ _) ?_ ?_);(·exact cE))|((with_reducible refine aP (fun _=>qm _ _) ?_ ?_);(·exact cE))|((with_reducible refine aN (qm _ _) ?_ ?_);(·exact cE))|((with_reducible refine aO (fun _=>qm _ _) ?_ ?_);(·exact cE))|((with_reducible refine aQ (kn _ _) ?_ ?_);(·exact cE))|((with_reducible refine aP (fun _=>kn _ _) ?_ ?_);(·exact cE))|((with_reducible refine aN (kn _ _) ?_ ?_);(·exact cE))|((with_reducible refine aO (fun _=>kn _ _) ?_ ?_);(·exact cE))|((with_reducible refine aQ (mW _ _) ?_ ?_);(·exact cE))|((with_reducible refine aP (fun _=>mW _ _) ?_ ?_);(·exact cE))|((with_reducible refine aN (mW _ _) ?_ ?_);(·exact cE))|((with_reducible refine aO (fun _=>mW _ _) ?_ ?_);(·exact cE))|((with_reducible refine aQ (mZ _ _) ?_ ?_);(·exact cE))|((with_reducible refine aP (fun _=>mZ _ _) ?_ ?_);(·exact cE))|((with_reducible refine aN (mZ _ _) ?_ ?_);(·exact cE))|((with_reducible refine aO (fun _=>mZ _ _) ?_ ?_);(·exact cE))|((with_reducible refine aQ (kV _ _) ?_ ?_);(·exact cE))|((with_reducible refine aP (fun _=>kV _ _) ?_ ?_);(·exact cE))|((with_reducible refine aN (kV _ _) ?_ ?_);(·exact cE))|((with_reducible refine aO (fun _=>kV _ _) ?_ ?_);(·exact cE))|((with_reducible refine aQ (kq _ _) ?_ ?_);(·exact cE))|((with_reducible refine aP (fun _=>kq _ _) ?_ ?_);(·exact cE))|((with_reducible refine aN (kq _ _) ?_ ?_);(·exact cE))|((with_reducible refine aO (fun _=>kq _ _) ?_ ?_);(·exact cE))|refine aH ?_|((with_reducible refine aA ?_ ?_)<;>intro hc<;>(try simp only[List.length_map,ne_eq,dX] at hc)<;>try(exfalso;omega)))
 all_goals (first|exact rfl|trace_state)
theorem PM (op a:Int) (h:op=17∨op=18):Pure Tryz.prog 161 [u8 op,i64 a] (fun r=>r= .dP [i64 (SC op a),i64 0]):=by
 refine aI yU rfl ?_
 rcases h with rfl|rfl
 all_goals repeat' (first|((with_reducible refine aF ?_);conv=>whnf)|refine aG ?_|exact aC|with_reducible refine aD ?_ ?_|(apply aB;(·exact cN))|((with_reducible refine aQ (ff _) ?_ ?_);(·exact cE))|((with_reducible refine aP (fun _=>ff _) ?_ ?_);(·exact cE))|((with_reducible refine aN (ff _) ?_ ?_);(·exact cE))|((with_reducible refine aO (fun _=>ff _) ?_ ?_);(·exact cE))|((with_reducible refine aQ (fJ _ (by omega)) ?_ ?_);(·exact cE))|((with_reducible refine aP (fun _=>fJ _ (by omega)) ?_ ?_);(·exact cE))|((with_reducible refine aN (fJ _ (by omega)) ?_ ?_);(·exact cE))|((with_reducible refine aO (fun _=>fJ _ (by omega)) ?_ ?_);(·exact cE))|refine aK (ln) ?_|((with_reducible refine aQ (ku _) ?_ ?_);(·exact cE))|((with_reducible refine aP (fun _=>ku _) ?_ ?_);(·exact cE))|((with_reducible refine aN (ku _) ?_ ?_);(·exact cE))|((with_reducible refine aO (fun _=>ku _) ?_ ?_);(·exact cE))|((with_reducible refine aQ (oj _) ?_ ?_);(·exact cE))|((with_reducible refine aP (fun _=>oj _) ?_ ?_);(·exact cE))|((with_reducible refine aN (oj _) ?_ ?_);(·exact cE))|((with_reducible refine aO (fun _=>oj _) ?_ ?_);(·exact cE))|refine aH ?_|((with_reducible refine aA ?_ ?_)<;>intro hc<;>(try simp only[List.length_map,ne_eq,dX] at hc)<;>try(exfalso;omega)))
 all_goals (first|exact rfl|trace_state)
end Go.Proofs.YtjopoheligmmoaaGreatDoor
end
section
/- A step in plain data. -/
namespace Go.Proofs.YtjopoheligmmoaaGreatDoor
open Go Go.cX Go.Proofs
set_option linter.unusedSimpArgs false
set_option linter.unusedVariables false
structure gN where
 dZ:Int
 node:Int
 kind:Int
 cO:Int
 word:Int
 put:Int
 deriving Inhabited,DecidableEq
def gN.cells (d:gN):List AV:=[i64 d.dZ,i64 d.node,u8 d.kind,i64 d.cO,i64 d.word,i64 d.put]
abbrev gN.av (d:gN):AV:= .agg d.cells
def MS.val (m:MS) (t:Nat) (v:lL):Int:=if v.jF then(m.bx.getD t []).getD v.slot.toNat 0 else v.word
def MS.gW (m:MS) (t:Nat) (k:Int) (w:Int):MS:={ m with bx:=m.bx.set t ((m.bx.getD t []).set k.toNat w) }
def MS.C1 (m:MS) (t:Nat) (n:Node):Int:=if dy n.op then S7 n.op (m.val t n.a) (m.val t n.b) else if n.op≠0 then SC n.op (m.val t n.a) else m.val t n.a
def MS.act (m:MS) (t:Nat) (n:Node):MS×Int×Int×Int×Int:=
 if n.kind=1 then(m.gW t n.slot (m.C1 t n),n.next,0,m.C1 t n,0)
 else if n.kind=2 then(m.gW t n.slot (m.mem.getD n.cO.toNat 0),n.next,n.cO,m.mem.getD n.cO.toNat 0,0)
 else if n.kind=3 then({ m with mem:=m.mem.set n.cO.toNat (m.val t n.a) },n.next,n.cO,m.val t n.a,0)
 else if n.kind=4 then({ m.gW t n.slot (m.mem.getD n.cO.toNat 0) with mem:=m.mem.set n.cO.toNat (m.val t n.a) },n.next,n.cO,m.mem.getD n.cO.toNat 0,m.val t n.a)
 else if n.kind=5 then({ m with hold:=m.hold.set n.cO.toNat t },n.next,n.cO,0,0)
 else if n.kind=6 then({ m with hold:=m.hold.set n.cO.toNat (-1) },n.next,n.cO,0,0)
 else if n.kind=7 then({ m with cM:=m.cM++[⟨t,m.val t n.a⟩] },n.next,0,m.val t n.a,0)
 else(m,if m.val t n.a=0 then n.rh else n.next,0,m.val t n.a,0)
def MS.step (u:bt) (m:MS) (t:Nat):MS×gN:=
 let n:=m.node u t
 let r:=m.act t n
 ({ r.1 with at_:=m.at_.set t r.2.1 },⟨t,m.at_.getD t 0,n.kind,r.2.2.1,r.2.2.2.1,r.2.2.2.2⟩)
end Go.Proofs.YtjopoheligmmoaaGreatDoor
end
