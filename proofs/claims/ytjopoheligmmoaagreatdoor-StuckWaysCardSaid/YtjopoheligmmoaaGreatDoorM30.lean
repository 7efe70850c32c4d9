import Derived.Test.YtjopoheligmmoaaGreatDoorM27
import Derived.Test.YtjopoheligmmoaaGreatDoorM24
import Derived.Test.YtjopoheligmmoaaGreatDoorM28
import Derived.Test.YtjopoheligmmoaaGreatDoorM29
namespace Go.Proofs.YtjopoheligmmoaaGreatDoor
open Go Go.cw Go.Proofs
set_option linter.unusedSimpArgs false
set_option linter.unusedVariables false
set_option maxHeartbeats 1000000
set_option maxRecDepth 8000
set_option maxHeartbeats 2000000
structure cy where
 cr:Int
 word:Int
 deriving Inhabited,DecidableEq
def cy.cells (p:cy):List AV:=[i64 p.cr,i64 p.word]
abbrev cy.av (p:cy):AV:= .agg p.cells
structure MS where
 at_:List Int
 bz:List (List Int)
 mem:List Int
 hold:List Int
 cA:List cy
 deriving Inhabited,DecidableEq
abbrev cT (l:List Int):AV:= .im 1 .any (l.map i64)
abbrev tH (l:List (List Int)):AV:= .im 1 .any (l.map cT)
abbrev fY (l:List cy):AV:= .im 2 .any (l.map cy.av)
def MS.cells (u:bx) (m:MS):List AV:=[cF u.shared,cF u.cB,cZ u.bw,cT m.at_,tH m.bz,cT m.mem,cT m.hold,fY m.cA]
abbrev MS.fz (u:bx) (m:MS):AV:= .ip 8 .any [.agg (m.cells u)] 0 0
@[simp] theorem VD (n:Nat) (p:cy):c8 n p.cells:=by simp[cy.cells,c8,cH]
@[simp] theorem aAD (n:Nat) (u:bx) (m:MS):c8 n (m.cells u):=by simp[MS.cells,c8,cH,cD]
theorem pO (n:Nat) (u:bx) (m:MS):cH n (m.fz u):=by simp[cH,c8]
structure eN (u:bx) (m:MS):Prop where
 nG:m.at_.length=u.bw.length
 iS:∀t,t<u.bw.length->0<=m.at_.getD t 0/\m.at_.getD t 0<(u.gr t).nodes.length
 sl:m.bz.length=u.bw.length
 B5:∀t,t<u.bw.length->(m.bz.getD t []).length=(u.gr t).bz.toNat
 E1:∀t,t<u.bw.length->∀w∈m.bz.getD t [],ee w
 ml:m.mem.length=u.shared.length
 mw:∀w∈m.mem,ee w
 hl:m.hold.length=u.cB.length
 hw:∀w∈m.hold,-1<=w/\w<u.bw.length
 pw:∀p∈m.cA,0<=p.cr/\p.cr<u.bw.length/\ee p.word
abbrev MS.node (u:bx) (m:MS) (t:Nat):Node:=(u.gr t).nd (m.at_.getD t 0).toNat
def MS.jR (u:bx) (m:MS) (t:Int):Int:=if t<0\/(m.at_.length:Int)<=t then 2 else if(m.node u t.toNat).kind=9 then 70 else if(m.node u t.toNat).kind=5/\0<=m.hold.getD (m.node u t.toNat).cI.toNat 0 then 71 else 0
theorem ints_at {l:List Int} {k:Nat} (h:k<l.length) (d:AV):(l.map i64).getD ((k:Int)).toNat d=i64 (l.getD k 0):=by
 rw[Int.toNat_natCast];exact cx i64 l k d h
theorem iq {l:List Int} {k:Int} (h:k.toNat<l.length) (d:AV):(l.map i64).getD k.toNat d=i64 (l.getD k.toNat 0):=cx i64 l k.toNat d h
theorem eN.node {u:bx} {m:MS} (hr:cg u) (h:eN u m) {t:Nat} (ht:t<u.bw.length):pC u (u.gr t) (m.node u t):=by
 have:=h.iS t ht
 exact(hr.gr ht).nodes _ (cO default (by omega))
theorem xh {u:bx} {m:MS} {t:Int} (h:t<0\/(m.at_.length:Int)<=t):m.jR u t=2:=by unfold MS.jR;rw[if_pos h]
theorem BT (u:bx) (m:MS) (t:Int):Pure Tryz.prog 68 [m.fz u,i64 t] (fun r=>r=bl (decide (¬(t<0\/(m.at_.length:Int)<=t)))):=by
 refine aD aAb rfl ?_
 refine cP ?_
 refine eD ?_
 rw[List.length_map]
 by_cases h1:0<=t<;>by_cases h2:t<m.at_.length<;>simp[h1,h2]<;>omega
set_option maxRecDepth 8000 in
set_option maxHeartbeats 2000000 in
theorem xg (u:bx) (hr:cg u) (m:MS) (h:eN u m) (t:Int):Pure Tryz.prog 69 [m.fz u,i64 t] (fun r=>r=i64 (m.jR u t)):=by
 have c0:=BT u m t
 have hl:=h.nG
 by_cases ht:t<0\/(m.at_.length:Int)<=t
 ·rw[xh ht]
  rw[decide_eq_false (fun e=>e ht)] at c0
  refine aD NJ rfl ?_
  refine cP ?_
  first|exact rfl|trivial
 ·rw[decide_eq_true ht] at c0
  obtain⟨k,rfl⟩:∃k:Nat,t=k:=⟨t.toNat,by omega⟩
  have hk:k<u.bw.length:=by omega
  have hbar:m.jR u k=if(m.node u k).kind=9 then 70 else if(m.node u k).kind=5/\0<=m.hold.getD (m.node u k).cI.toNat 0 then 71 else 0:=by
   unfold MS.jR;rw[if_neg ht,Int.toNat_natCast]
  rw[hbar]
  have hno:=h.node hr hk
  obtain⟨p0,p1⟩:=h.iS k hk
  have e0:=fun d=>nV (l:=u.bw) hk d
  have e1:=fun d=>ints_at (l:=m.at_) (k:=k) (by omega) d
  obtain⟨j,hj⟩:∃j:Nat,m.at_.getD k 0=j:=⟨(m.at_.getD k 0).toNat,by omega⟩
  rw[hj] at e1 p1
  have hnd:m.node u k=(u.gr k).nd j:=by unfold MS.node;rw[hj,Int.toNat_natCast]
  rw[hnd] at hno ⊢
  have hgr:u.bw.getD k default=u.gr k:=rfl
  rw[hgr] at e0
  generalize u.gr k=g at *
  have e2:=fun d=>gm (l:=g.nodes) (i:=j) (by omega) d
  rw[show g.nodes.getD j default=g.nd j from rfl] at e2
  generalize g.nd j=n at *
  have a0:(u.bw.map cG.av).length=u.bw.length:=by simp
  have a1:(m.at_.map i64).length=u.bw.length:=by simp[hl]
  have a2:(g.nodes.map Node.av).length=g.nodes.length:=by simp
  have a3:(m.hold.map i64).length=u.cB.length:=by simp[h.hl]
  by_cases h9:n.kind=9
  ·have r0:=h9
   rw[if_pos h9]
   refine aD NJ rfl ?_
   refine cP ?_
   first|exact rfl|trivial
  ·rw[if_neg h9]
   by_cases h5:n.kind=5
   ·have hth:=hno.cI.1 (by unfold ej;exact decide_eq_true (by omega))
    rw[if_pos (.inl h5)] at hth
    have hhl:=h.hl
    have e3:=fun d=>iq (l:=m.hold) (k:=n.cI) (by omega) d
    have r0:=h5
    by_cases hh:0<=m.hold.getD n.cI.toNat 0
    ·rw[if_pos ⟨h5,hh⟩]
     have r1:=decide_eq_true hh
     refine aD NJ rfl ?_
     refine cP ?_
     first|exact rfl|trivial
    ·rw[if_neg fun e=>hh e.2]
     have r1:=decide_eq_false hh
     refine aD NJ rfl ?_
     refine cP ?_
     first|exact rfl|trivial
   ·rw[if_neg fun e=>h5 e.1]
    have r1:=decide_eq_false h5
    refine aD NJ rfl ?_
    refine cP ?_
    first|exact rfl|trivial
theorem LJ (u:bx) (hr:cg u) (m:MS) (h:eN u m) (t:Int):Pure Tryz.prog 32 [m.fz u,i64 t] (fun r=>r=bl (decide (m.jR u t=0))):=by
 have c0:=xg u hr m h t
 refine aD aAP rfl ?_
 refine cP ?_
 first|exact rfl|trivial
def MS.ended (u:bx) (m:MS):Bool:=(List.range m.at_.length).all fun t=>decide (m.jR u t=70)
theorem LY (u:bx) (hr:cg u) (m:MS) (h:eN u m):Pure Tryz.prog 67 [m.fz u] (fun r=>r=bl (m.ended u)):=by
 have hl:=h.nG
 have hgl:=hr.oh
 refine aD aAa rfl ?_
 refine cP ?_
 rw[List.length_map]
 refine aF (fun i:Nat=>[(0,m.fz u),(10,i64 m.at_.length),(11,i64 i)]) (fun i H n=>i<=m.at_.length/\∀j:Nat,j<i->m.jR u j=70) (fun i=>m.at_.length - i) 0 cC ⟨Nat.zero_le _,fun j hj=>by omega⟩ ?_
 rintro i H n ⟨hi,hall⟩
 by_cases hil:i<m.at_.length
 ·have c0:=xg u hr m h i
  by_cases hb:m.jR u i=70
  ·have r0:=hb
   refine cP ?_
   exact⟨i+1,by omega,cC,by omega,fun j hj=>by
    by_cases e:j=i
    ·rw[e];exact hb
    ·exact hall j (by omega)⟩
  ·have r0:=decide_eq_true hb
   refine cP ?_
   refine eD (Eq.symm ?_)
   unfold MS.ended
   rw[List.all_eq_false]
   exact⟨i,List.mem_range.2 hil,by simpa using hb⟩
 ·refine cP ?_
  refine eD (Eq.symm ?_)
  unfold MS.ended
  rw[List.all_eq_true]
  intro j hj
  exact decide_eq_true (hall j (by have:=List.mem_range.1 hj;omega))
structure cY where
 cA:List cy
 mem:List Int
 ended:Bool
 deriving Inhabited,DecidableEq
def cY.cells (e:cY):List AV:=[fY e.cA,cT e.mem,bl e.ended]
abbrev cY.av (e:cY):AV:= .agg e.cells
@[simp] theorem ZZ (n:Nat) (e:cY):c8 n e.cells:=by simp[cY.cells,c8,cH,cD]
def eG (x y:Int):Int:=if x<y then -1 else if y<x then 1 else 0
def lG:List Int->Int
 |[]=>0
 |x::l=>if x=0 then lG l else x
def gq (p q:cy):Int:=lG [eG p.cr q.cr,eG p.word q.word]
def eR {α:Type} (f:α->α->Int):List α->List α->Int
 |[],[]=>0
 |[],_::_=>-1
 |_::_,[]=>1
 |x::a,y::b=>if f x y=0 then eR f a b else f x y
def vi (a b:Bool):Int:=if a=b then 0 else if b then -1 else 1
def eJ (a b:cY):Int:=lG [eR gq a.cA b.cA,eR eG a.mem b.mem,vi a.ended b.ended]
theorem qC {α:Type} (f:α->α->Int) (d:α) {a b:List α} {i:Nat} (h1:i<a.length) (h2:i<b.length):eR f (a.drop i) (b.drop i)=if f (a.getD i d) (b.getD i d)=0 then eR f (a.drop (i+1)) (b.drop (i+1)) else f (a.getD i d) (b.getD i d):=by
 rw[List.drop_eq_getElem_cons h1,List.drop_eq_getElem_cons h2,eR]
 simp[List.getD,List.getElem?_eq_getElem h1,List.getElem?_eq_getElem h2]
theorem nM {α:Type} (f:α->α->Int) {a b:List α} {i:Nat} (h1:i<a.length) (h2:b.length<=i):eR f (a.drop i) (b.drop i)=1:=by
 rw[List.drop_eq_getElem_cons h1,List.drop_of_length_le h2,eR]
theorem nL {α:Type} (f:α->α->Int) {a b:List α} {i:Nat} (h1:a.length<=i) (h2:i<=b.length):eR f (a.drop i) (b.drop i)=if i<b.length then -1 else 0:=by
 rw[List.drop_of_length_le h1]
 split
 ·rename_i h;rw[List.drop_eq_getElem_cons h,eR]
 ·rw[List.drop_of_length_le (by omega),eR]
theorem GF (x:Int):Pure Tryz.prog 104 [i64 x] (fun r=>r=bl false):=by
 refine aD WO rfl ?_
 refine cP ?_
 refine eD ?_
 simp
theorem AU (x:Int):Pure Tryz.prog 194 [i64 x] (fun r=>r=bl false):=by
 refine aD X7 rfl ?_
 refine cP ?_
 refine eD ?_
 simp
theorem tw (x y:Int):Pure Tryz.prog 62 [i64 x,i64 y] (fun r=>r=i64 (eG x y)):=by
 have c0:=GF x
 have c1:=GF y
 unfold eG
 by_cases h:x<y
 ·rw[if_pos h]
  refine aD T5 rfl ?_
  refine cP ?_
  first|exact rfl|trivial
 ·rw[if_neg h]
  by_cases h2:y<x
  ·rw[if_pos h2]
   refine aD T5 rfl ?_
   refine cP ?_
   first|exact rfl|trivial
  ·rw[if_neg h2]
   refine aD T5 rfl ?_
   refine cP ?_
   first|exact rfl|trivial
theorem wQ (x y:Int):Pure Tryz.prog 152 [i64 x,i64 y] (fun r=>r=i64 (eG x y)):=by
 have c0:=AU x
 have c1:=AU y
 unfold eG
 by_cases h:x<y
 ·rw[if_pos h]
  refine aD NH rfl ?_
  refine cP ?_
  first|exact rfl|trivial
 ·rw[if_neg h]
  by_cases h2:y<x
  ·rw[if_pos h2]
   refine aD NH rfl ?_
   refine cP ?_
   first|exact rfl|trivial
  ·rw[if_neg h2]
   refine aD NH rfl ?_
   refine cP ?_
   first|exact rfl|trivial
theorem N2 {l:List Int} {i:Nat} (h:i<l.length):lG (l.drop i)=if l.getD i 0=0 then lG (l.drop (i+1)) else l.getD i 0:=by
 rw[List.drop_eq_getElem_cons h,lG]
 simp[List.getD,List.getElem?_eq_getElem h]
theorem yJ (l:List Int) (hl:l.length<=1000):Pure Tryz.prog 61 [cT l] (fun r=>r=i64 (lG l)):=by
 refine aD aA5 rfl ?_
 refine cP ?_
 rw[List.length_map]
 refine aF (fun i:Nat=>[(3,i64 0),(6,cT l),(7,i64 l.length),(8,i64 i)]) (fun i H n=>i<=l.length/\lG l=lG (l.drop i)) (fun i=>l.length - i) 0 cC ⟨Nat.zero_le _,rfl⟩ ?_
 rintro i H n ⟨hi,ho⟩
 rw[ho]
 by_cases hil:i<l.length
 ·have e0:=fun d=>ints_at (l:=l) hil d
  have a0:(l.map i64).length=l.length:=by simp
  have hd:=N2 hil
  by_cases hz:l.getD i 0=0
  ·have r0:=hz
   rw[if_pos hz] at hd
   refine cP ?_
   exact⟨i+1,by omega,cC,by omega,hd⟩
  ·have r0:=decide_eq_true hz
   rw[if_neg hz] at hd
   refine cP ?_
   rw[hd]
 ·rw[List.drop_of_length_le (by omega)]
  refine cP ?_
  first|exact rfl|trivial
theorem sB {p:Prop} (h:Go p):p:=h
theorem HD {es:List AV} (hf:c8 0 es) (hl:es.length * 16<=140737488355328):cU Tryz.prog 184 [.im 2 .any es] [] 0 (fun r H _=>cw.dY H 6 r= .sc (.slice none 0 0)/\es=[]\/cw.dY H 6 r= .im 2 .any es):=by
 refine aJ X5 rfl ?_
 cases es with
 |nil=>
  refine cP ?_
  refine⟨sB ?_,sB ?_⟩
  ·refine cP ?_
   exact⟨.inl ⟨rfl,rfl⟩⟩
  ·refine cP ?_
   exact⟨.inr rfl⟩
 |cons x t=>
  have a0:(x::t).length * 16<=iA:=Nat.le_trans hl (by unfold iA;omega)
  simp only[List.length_cons] at hl
  refine cP ?_
  refine⟨.inr ((dH (e:=155) (sz:=2) (es:=x::t) bu (Nat.zero_add _).symm).trans ?_)⟩
  rw[cn _ hf]
theorem HE {es:List AV} (hf:c8 0 es) (hl:es.length * 8<=140737488355328):cU Tryz.prog 185 [.im 1 .any es] [] 0 (fun r H _=>cw.dY H 6 r= .sc (.slice none 0 0)/\es=[]\/cw.dY H 6 r= .im 1 .any es):=by
 refine aJ X6 rfl ?_
 cases es with
 |nil=>
  refine cP ?_
  refine⟨sB ?_,sB ?_⟩
  ·refine cP ?_
   exact⟨.inl ⟨rfl,rfl⟩⟩
  ·refine cP ?_
   exact⟨.inr rfl⟩
 |cons x t=>
  have a0:(x::t).length * 8<=iA:=Nat.le_trans hl (by unfold iA;omega)
  simp only[List.length_cons] at hl
  refine cP ?_
  refine⟨.inr ((dH (e:=2) (sz:=1) (es:=x::t) bu (Nat.zero_add _).symm).trans ?_)⟩
  rw[cn _ hf]
theorem zI (l:List cy) (hl:l.length * 16<=140737488355328):Pure Tryz.prog 184 [fY l] (fun r=>r=fY l):=
 mV (by simp[cH,cD]) (HD ((cD _ _).2 fun _ _=>by simp[cH]) (by rw[List.length_map];exact hl))
theorem zJ (l:List Int) (hl:l.length * 8<=140737488355328):Pure Tryz.prog 185 [cT l] (fun r=>r=cT l):=
 mV (by simp[cH,cD]) (HE ((cD _ _).2 fun _ _=>by simp[cH]) (by rw[List.length_map];exact hl))
theorem JL (u:bx) (m:MS) (hl:m.cA.length * 16<=140737488355328):Pure Tryz.prog 147 [m.fz u] (fun r=>r=fY m.cA):=by
 have c0:=zI m.cA hl
 refine aD XH rfl ?_
 refine cP ?_
 first|exact rfl|trivial
theorem I8 (u:bx) (m:MS) (hl:m.mem.length * 8<=140737488355328):Pure Tryz.prog 148 [m.fz u] (fun r=>r=cT m.mem):=by
 have c0:=zJ m.mem hl
 refine aD XI rfl ?_
 refine cP ?_
 first|exact rfl|trivial
def MS.stuck (u:bx) (m:MS):Bool:=(List.range m.at_.length).all fun t=>decide (m.jR u t≠0)
def MS.end_ (u:bx) (m:MS):cY:=⟨m.cA,m.mem,m.ended u⟩
def mU (u:bx) (m:MS):AV:=if m.stuck u then .dI [(m.end_ u).av,bl true] else .dI [.agg [.sc (.slice none 0 0), .sc (.slice none 0 0),bl false],bl false]
theorem xE (u:bx) (hr:cg u) (m:MS) (h:eN u m) (hp:m.cA.length * 16<=140737488355328) (hm:m.mem.length * 8<=140737488355328):Pure Tryz.prog 94 [u.av,m.fz u] (fun r=>r=mU u m):=by
 have hl:=h.nG
 have hgl:=hr.oh
 have c1:=JL u m hp
 have c2:=I8 u m hm
 have c3:=LY u hr m h
 refine aD aAq rfl ?_
 refine cP ?_
 rw[List.length_map,<-hl]
 refine aF (fun i:Nat=>[(1,m.fz u),(4, .pt 1 1 0 0),(9,i64 m.at_.length),(10,i64 i)]) (fun i H n=>i<=m.at_.length/\2<=n/\bt H 1=some (.row 105 3 (gO true [.slice none 0 0, .slice none 0 0, .bool false]) [gO true [.slice none 0 0, .slice none 0 0, .bool false]])/\∀j:Nat,j<i->m.jR u j≠0) (fun i=>m.at_.length - i) 0 cC ⟨Nat.zero_le _,cX,bu,fun j hj=>by omega⟩ ?_
 rintro i H n ⟨hi,hn,hx,hall⟩
 by_cases hil:i<m.at_.length
 ·have c0:=LJ u hr m h i
  by_cases hb:m.jR u i=0
  ·have hs:m.stuck u=false:=by
    unfold MS.stuck
    rw[List.all_eq_false]
    exact⟨i,List.mem_range.2 hil,by simpa using hb⟩
   have r0:=decide_eq_true hb
   rw[mU,hs]
   refine cP ?_
   first|exact rfl|trivial
  ·have r0:=decide_eq_false hb
   refine cP ?_
   exact⟨i+1,by omega,cC,by omega,by omega,bu,fun j hj=>by
    by_cases e:j=i
    ·rw[e];exact hb
    ·exact hall j (by omega)⟩
 ·have hs:m.stuck u=true:=by
   unfold MS.stuck
   rw[List.all_eq_true]
   intro j hj
   exact decide_eq_true (hall j (by have:=List.mem_range.1 hj;omega))
  rw[mU,hs]
  refine cP ?_
  first|exact rfl|trivial
def dR (ids:List Nat) (l:List (List Int)):List AV:=(ids.zip l).map fun p=> .sl p.1 p.2.length
def MS.rows (u:bx) (m:MS) (a s me ho pr:Nat):AV:= .agg [cF u.shared,cF u.cB,cZ u.bw, .sl a m.at_.length, .sl s m.bz.length, .sl me m.mem.length, .sl ho m.hold.length, .sl pr m.cA.length]
structure U7 (u:bx) (m:MS) (mr a s me ho pr:Nat) (ids:List Nat) (H:Hp):Prop where
 rM:∃d,bt H mr=some (.row 114 8 d [m.rows u a s me ho pr])
 rA:∃d,bt H a=some (.row 3 1 d (m.at_.map i64))
 rS:∃d,bt H s=some (.row 93 1 d (dR ids m.bz))
 rL:∀t,t<m.bz.length->∃d,bt H (ids.getD t 0)=some (.row 2 1 d ((m.bz.getD t []).map i64))
 rE:∃d,bt H me=some (.row 2 1 d (m.mem.map i64))
 rH:∃d,bt H ho=some (.row 3 1 d (m.hold.map i64))
 rP:∃d,bt H pr=some (.row 155 2 d (m.cA.map cy.av))
 len:ids.length=m.bz.length
 nodup:(mr::a::s::me::ho::pr::ids).Nodup
theorem oc {ids:List Nat} {l:List (List Int)} (h:ids.length=l.length) (i:Nat) (x:List Int):dR (ids++[i]) (l++[x])=dR ids l++[.sl i x.length]:=by
 unfold dR
 rw[List.zip_append h]
 simp
theorem copied (es:List AV) (z:AV):List.take (es.length.min (es.length:Int).toNat) es++List.drop (es.length.min (es.length:Int).toNat) (List.replicate (es.length:Int).toNat z)=es:=by
 rw[Int.toNat_natCast,show es.length.min es.length=es.length from Nat.min_self _]
 simp
set_option maxHeartbeats 4000000 in
theorem CT (u:bx) (m:MS) (h1:m.at_.length<=4096) (h2:m.mem.length<=4096) (h3:m.hold.length<=4096) (h4:m.cA.length<=1048576) (h5:m.bz.length<=4096) (h6:∀l∈m.bz,l.length<=1048576) (H0:Hp) (nx:Nat):cU Tryz.prog 146 [m.fz u] H0 nx (fun r H n=>∃mr a s me ho pr ids,r= .pt mr 1 0 0/\U7 u m mr a s me ho pr ids H/\(∀x∈mr::a::s::me::ho::pr::ids,nx<=x/\x<n)/\nx<=n/\∀y,y<nx->bt H y=bt H0 y):=by
 refine aJ XG rfl ?_
 refine cP ?_
 simp only[copied]
 simp only[List.length_map,Int.toNat_natCast]
 refine aR (fun σ:Nat×List Nat=>[(0,m.fz u),(3, .pt (nx+32) 1 0 0),(78,tH m.bz),(79,i64 m.bz.length),(80,i64 σ.1)])
  (fun σ H n=>σ.1<=m.bz.length/\nx+77<=n/\σ.2.length=σ.1/\σ.2.Nodup/\(∀x∈σ.2,nx+77<=x/\x<n)/\(∃d,bt H (nx+32)=some (.row 114 8 d [.agg [cF u.shared,cF u.cB,cZ u.bw, .sl (nx+12) m.at_.length, .sl (nx+76) σ.1, .sl (nx+18) m.mem.length, .sl (nx+24) m.hold.length, .sl (nx+30) m.cA.length]]))/\(∃d,bt H (nx+12)=some (.row 3 1 d (m.at_.map i64)))/\(∃d,bt H (nx+18)=some (.row 2 1 d (m.mem.map i64)))/\(∃d,bt H (nx+24)=some (.row 3 1 d (m.hold.map i64)))/\(∃d,bt H (nx+30)=some (.row 155 2 d (m.cA.map cy.av)))/\(∃d,bt H (nx+76)=some (.row 93 1 d (dR σ.2 (m.bz.take σ.1))))/\(∀t,t<σ.1->∃d,bt H (σ.2.getD t 0)=some (.row 2 1 d ((m.bz.getD t []).map i64)))/\∀y,y<nx->bt H y=bt H0 y) (fun σ=>m.bz.length - σ.1) (0,[])
  ⟨_,_,_,Rt.wk (Wk.gV (b:=nx+32) (e:=93) (sz:=1) (by simp only[List.length_cons,List.length_nil];omega) (by omega) (te:=114) (tz:=8) (cs:=[cF u.shared,cF u.cB,cZ u.bw, .sl (nx+12) m.at_.length, .sc (.slice none 0 0), .sl (nx+18) m.mem.length, .sl (nx+24) m.hold.length, .sl (nx+30) m.cA.length]) (j:=4) bu (by show 4<8;omega) rfl),cC,Nat.zero_le _,cX,rfl,List.nodup_nil,fun x hx=>by simp at hx,⟨_,bu⟩,⟨_,bu⟩,⟨_,bu⟩,⟨_,bu⟩,⟨_,bu⟩,⟨_,bu⟩,fun t ht=>absurd ht (Nat.not_lt_zero _),fun y hy=>cE⟩ ?_
 rintro⟨t,ids⟩ H n ⟨ht,hn,hil,hnd,hin,⟨d0,r0⟩,⟨d1,r1⟩,⟨d2,r2⟩,⟨d3,r3⟩,⟨d4,r4⟩,⟨d5,r5⟩,hls,hkp⟩
 dsimp only at ht hil hnd hin r0 r5 hls ⊢
 have htk:(m.bz.take t).length=t:=by rw[List.length_take];omega
 have hrl:(dR ids (m.bz.take t)).length=t:=by unfold dR;rw[List.length_map,List.length_zip,htk,hil];omega
 by_cases htl:t<m.bz.length
 ·have e0:∀d,(m.bz.map cT).getD ((t:Int)).toNat d=cT (m.bz.getD t []):=fun d=>by rw[Int.toNat_natCast];exact cx cT m.bz t d htl
  have a0:(m.bz.map cT).length=m.bz.length:=by simp
  have hnx:dR (ids++[n+6]) (m.bz.take (t+1))=dR ids (m.bz.take t)++[.sl (n+6) (m.bz.getD t []).length]:=by
   rw[List.take_succ_eq_append_getElem htl,oc (by rw[hil,htk]),show m.bz.getD t []=m.bz[t] by simp[List.getD,htl]]
  have h7:=h6 _ (cO (l:=m.bz) [] htl)
  refine cP ?_
  simp only[copied]
  simp only[List.length_map,Int.toNat_natCast]
  refine⟨(t+1,ids++[n+6]),by dsimp only;omega,_,_,_,Rt.refl _ _ _,cC,by dsimp only;omega,by omega,by simp[hil], ?_, ?_,⟨_,bu⟩,⟨_,bu⟩,⟨_,bu⟩,⟨_,bu⟩,⟨_,bu⟩,⟨_,by dsimp only;rw[hnx];exact bu⟩, ?_,fun y hy=>Eq.trans cE (hkp y hy)⟩
  ·refine List.nodup_append.2 ⟨hnd,by simp,fun a ha b hb=> ?_⟩
   simp only[List.mem_cons,List.not_mem_nil,or_false] at hb
   have:=hin _ ha;omega
  ·intro x hx
   rcases List.mem_append.1 hx with hx|hx
   ·have:=hin _ hx;exact⟨this.1,Nat.lt_of_lt_of_le this.2 cX⟩
   ·simp only[List.mem_cons,List.not_mem_nil,or_false] at hx
    subst hx;exact⟨by omega,cX⟩
  ·intro q hq
   have hq:q<t+1:=hq
   by_cases e:q=t
   ·subst e
    have e2:(ids++[n+6]).getD q 0=n+6:=by rw[List.getD,List.getElem?_append_right (by omega),hil,Nat.sub_self];rfl
    dsimp only
    rw[e2];exact⟨_,bu⟩
   ·obtain⟨d,hd⟩:=hls q (by omega)
    have e2:(ids++[n+6]).getD q 0=ids.getD q 0:=by simp[List.getD,List.getElem?_append,show q<ids.length by omega]
    have:=hin _ (eE (l:=ids) (q:=q) (by omega))
    dsimp only
    rw[e2];exact⟨d,Eq.trans cE hd⟩
 ·have:t=m.bz.length:=by omega
  subst this
  rw[List.take_length] at r5
  refine cP ?_
  refine⟨⟨nx+32,nx+12,nx+76,nx+18,nx+24,nx+30,ids,rfl,⟨⟨_,bu⟩,⟨_,bu⟩,⟨_,bu⟩,fun t ht=> ?_,⟨_,bu⟩,⟨_,bu⟩,⟨_,bu⟩,hil, ?_⟩, ?_,cX,fun y hy=>Eq.trans cE (hkp y hy)⟩⟩
  ·obtain⟨d,hd⟩:=hls t ht
   have:=hin _ (eE (l:=ids) (q:=t) (by omega))
   exact⟨d,Eq.trans cE hd⟩
  ·have hno:∀k,k<nx+77->k∉ids:=fun k hk h=>by have:=hin _ h;omega
   simp only[List.nodup_cons,List.mem_cons,not_or]
   exact⟨⟨by omega,by omega,by omega,by omega,by omega,hno _ (by omega)⟩,⟨by omega,by omega,by omega,by omega,hno _ (by omega)⟩,⟨by omega,by omega,by omega,hno _ (by omega)⟩,⟨by omega,by omega,hno _ (by omega)⟩,⟨by omega,hno _ (by omega)⟩,hno _ (by omega),hnd⟩
  ·intro x hx
   simp only[List.mem_cons] at hx
   rcases hx with rfl|rfl|rfl|rfl|rfl|rfl|hx
   all_goals first
    |exact⟨by omega,by omega⟩
    |(have:=hin _ hx;exact⟨by omega,by omega⟩)
theorem oL {H:Hp} {k:Nat} {cs:List AV}:cw.dY H (k+1) (.agg cs)= .agg (cs.map (cw.dY H k)):=by simp only[dY]
theorem U7.dY {u:bx} {m:MS} {mr a s me ho pr:Nat} {ids:List Nat} {H:Hp} (h:U7 u m mr a s me ho pr ids H) (k:Nat):cw.dY H (k+5) (.pt mr 1 0 0)=m.fz u:=by
 obtain⟨d1,h1⟩:=h.rM
 obtain⟨d2,h2⟩:=h.rA
 obtain⟨d3,h3⟩:=h.rS
 obtain⟨d4,h4⟩:=h.rE
 obtain⟨d5,h5⟩:=h.rH
 obtain⟨d6,h6⟩:=h.rP
 have hsl:(dR ids m.bz).length=m.bz.length:=by unfold dR;rw[List.length_map,List.length_zip,h.len];simp
 have hs:(dR ids m.bz).map (cw.dY H (k+2))=m.bz.map cT:=by
  apply List.ext_getElem (by simp[hsl])
  intro t q1 q2
  have ht:t<m.bz.length:=by simpa using q2
  have hti:t<ids.length:=by rw[h.len];exact ht
  obtain⟨d,hd⟩:=h.rL t ht
  rw[show ids.getD t 0=ids[t] by simp[List.getD,hti],show m.bz.getD t []=m.bz[t] by simp[List.getD,ht]] at hd
  rw[List.getElem_map,List.getElem_map]
  simp only[dR,List.getElem_map,List.getElem_zip]
  rw[dH hd (by simp),cn _ ((cD _ _).2 fun _ _=>by simp[cH])]
 simp only[cw.dY,h1]
 simp only[List.length_cons,List.length_nil,if_true,List.map_cons,List.map_nil,MS.rows]
 rw[oL]
 simp only[List.map_cons,List.map_nil]
 rw[dH h2 (by simp),dH h3 hsl,dH h4 (by simp),dH h5 (by simp),dH h6 (by simp),hs]
 rw[cn _ ((cD _ _).2 fun _ _=>by simp[cH]),cn _ ((cD _ _).2 fun _ _=>by simp[cH]),cn _ ((cD _ _).2 fun _ _=>by simp[cH]),cn _ ((cD _ _).2 fun _ _=>by simp[cH])]
 rw[dA _ (show cH 0 (cF u.shared) by simp[cH,cD]),dA _ (show cH 0 (cF u.cB) by simp[cH,cD]),dA _ (show cH 0 (cZ u.bw) by simp[cH,cD])]
 rfl
def cz (u:bx):MS:=⟨u.bw.map fun _=>0,u.bw.map fun g=>List.replicate g.bz.toNat 0,u.shared.map Decl.word,u.cB.map fun _=>-1,[]⟩
theorem GG (u:bx) (hr:cg u) (hw:∀d∈u.shared,ee d.word) (hn:∀t,t<u.bw.length->0<(u.gr t).nodes.length):eN u (cz u) where
 nG:=by simp[cz]
 iS:=fun t ht=>by
  have e:(cz u).at_.getD t 0=0:=by simp[cz,List.getD,ht]
  rw[e]
  exact⟨Int.le_refl _,by have:=hn t ht;omega⟩
 sl:=by simp[cz]
 B5:=fun t ht=>by
  have e:(cz u).bz.getD t []=List.replicate (u.gr t).bz.toNat 0:=by simp[cz,List.getD,bx.gr,ht]
  rw[e,List.length_replicate]
 E1:=fun t ht w hw=>by
  have e:(cz u).bz.getD t []=List.replicate (u.gr t).bz.toNat 0:=by simp[cz,List.getD,bx.gr,ht]
  rw[e] at hw
  rw[List.eq_of_mem_replicate hw]
  exact⟨by omega,by omega⟩
 ml:=by simp[cz]
 mw:=fun w h=>by
  obtain⟨d,hd,rfl⟩:=List.mem_map.1 h
  exact hw d hd
 hl:=by simp[cz]
 hw:=fun w h=>by
  obtain⟨d,hd,rfl⟩:=List.mem_map.1 h
  exact⟨by omega,by omega⟩
 pw:=fun p h=>by simp[cz] at h
abbrev yd (n:Int):Int:=IntKind.i64.wrap n
def A6 (a b:Int):Int:=if b=0 then 0 else if b=-1 then yd (0 - a) else yd (a.tdiv b)
def yN (a b:Int):Int:=if b=0 then a else yd (a - yd (A6 a b * b))
def VT (a b:Int):Int:=yd ((BitVec.ofInt 64 a&&& BitVec.ofInt 64 b).toNat:Int)
def orW (a b:Int):Int:=yd ((BitVec.ofInt 64 a|||BitVec.ofInt 64 b).toNat:Int)
def ZV (a b:Int):Int:=yd ((BitVec.ofInt 64 a^^^BitVec.ofInt 64 b).toNat:Int)
def xm (b:Int):Int:=IntKind.u64.wrap ((BitVec.ofInt 64 (IntKind.u64.wrap b)&&& BitVec.ofInt 64 63).toNat:Int)
def RG (a b:Int):Int:=yd (a * 2^(min (xm b).toNat 64))
def J2 (a b:Int):Int:=a.fdiv (2^(min (xm b).toNat 64))
def tr (t:Bool):Int:=if t=true then 1 else 0
theorem dK (t:Bool):Pure Tryz.prog 226 [bl t] (fun r=>r=i64 (tr t)):=by
 refine aD YU rfl ?_
 repeat' (first|refine aQ ?_|exact aC|with_reducible refine aB ?_ ?_|(apply aA;(·exact cL))|refine aH ?_|((with_reducible refine aE ?_ ?_)<;>intro hc<;>try(exfalso;omega)))
 all_goals simp_all[tr]
theorem pq (a b:Int):Pure Tryz.prog 206 [i64 a,i64 b] (fun r=>r=i64 (yd (a+b))):=by
 refine aD YC rfl ?_
 repeat' (first|refine aQ ?_|exact aC|with_reducible refine aB ?_ ?_|(apply aA;(·exact cL))|refine aH ?_|((with_reducible refine aE ?_ ?_)<;>intro hc<;>try(exfalso;omega)))
 all_goals exact rfl
theorem ql (a b:Int):Pure Tryz.prog 207 [i64 a,i64 b] (fun r=>r=i64 (yd (a - b))):=by
 refine aD YD rfl ?_
 repeat' (first|refine aQ ?_|exact aC|with_reducible refine aB ?_ ?_|(apply aA;(·exact cL))|refine aH ?_|((with_reducible refine aE ?_ ?_)<;>intro hc<;>try(exfalso;omega)))
 all_goals exact rfl
theorem qX (a b:Int):Pure Tryz.prog 208 [i64 a,i64 b] (fun r=>r=i64 (yd (a * b))):=by
 refine aD YE rfl ?_
 repeat' (first|refine aQ ?_|exact aC|with_reducible refine aB ?_ ?_|(apply aA;(·exact cL))|refine aH ?_|((with_reducible refine aE ?_ ?_)<;>intro hc<;>try(exfalso;omega)))
 all_goals exact rfl
theorem jX (a b:Int):Pure Tryz.prog 209 [i64 a,i64 b] (fun r=>r=i64 (A6 a b)):=by
 refine aD YF rfl ?_
 repeat' (first|refine aQ ?_|exact aC|with_reducible refine aB ?_ ?_|(apply aA;(·exact cL))|refine aH ?_|((with_reducible refine aE ?_ ?_)<;>intro hc<;>try(exfalso;omega)))
 all_goals simp_all[A6]
theorem qd (a b:Int):Pure Tryz.prog 210 [i64 a,i64 b] (fun r=>r=i64 (yN a b)):=by
 refine aD YG rfl ?_
 repeat' (first|refine aQ ?_|exact aC|with_reducible refine aB ?_ ?_|(apply aA;(·exact cL))|((with_reducible refine aN (jX _ _) ?_ ?_);(·exact cJ))|((with_reducible refine aI (fun _=>jX _ _) ?_ ?_);(·exact cJ))|((with_reducible refine aL (jX _ _) ?_ ?_);(·exact cJ))|((with_reducible refine aM (fun _=>jX _ _) ?_ ?_);(·exact cJ))|refine aH ?_|((with_reducible refine aE ?_ ?_)<;>intro hc<;>try(exfalso;omega)))
 all_goals simp_all[yN]
theorem px (a b:Int):Pure Tryz.prog 211 [i64 a,i64 b] (fun r=>r=i64 (VT a b)):=by
 refine aD YH rfl ?_
 repeat' (first|refine aQ ?_|exact aC|with_reducible refine aB ?_ ?_|(apply aA;(·exact cL))|refine aH ?_|((with_reducible refine aE ?_ ?_)<;>intro hc<;>try(exfalso;omega)))
 all_goals exact rfl
theorem q9 (a b:Int):Pure Tryz.prog 212 [i64 a,i64 b] (fun r=>r=i64 (orW a b)):=by
 refine aD YI rfl ?_
 repeat' (first|refine aQ ?_|exact aC|with_reducible refine aB ?_ ?_|(apply aA;(·exact cL))|refine aH ?_|((with_reducible refine aE ?_ ?_)<;>intro hc<;>try(exfalso;omega)))
 all_goals exact rfl
theorem qo (a b:Int):Pure Tryz.prog 213 [i64 a,i64 b] (fun r=>r=i64 (ZV a b)):=by
 refine aD YJ rfl ?_
 repeat' (first|refine aQ ?_|exact aC|with_reducible refine aB ?_ ?_|(apply aA;(·exact cL))|refine aH ?_|((with_reducible refine aE ?_ ?_)<;>intro hc<;>try(exfalso;omega)))
 all_goals exact rfl
theorem qg (a b:Int):Pure Tryz.prog 214 [i64 a,i64 b] (fun r=>r=i64 (RG a b)):=by
 refine aD YK rfl ?_
 repeat' (first|refine aQ ?_|exact aC|with_reducible refine aB ?_ ?_|(apply aA;(·exact cL))|refine aH ?_|((with_reducible refine aE ?_ ?_)<;>intro hc<;>try(exfalso;omega)))
 all_goals exact rfl
theorem qh (a b:Int):Pure Tryz.prog 215 [i64 a,i64 b] (fun r=>r=i64 (J2 a b)):=by
 refine aD YL rfl ?_
 repeat' (first|refine aQ ?_|exact aC|with_reducible refine aB ?_ ?_|(apply aA;(·exact cL))|refine aH ?_|((with_reducible refine aE ?_ ?_)<;>intro hc<;>try(exfalso;omega)))
 all_goals exact rfl
theorem tE (a b:Int):Pure Tryz.prog 216 [i64 a,i64 b] (fun r=>r=i64 (tr (decide (a=b)))):=by
 refine aD YM rfl ?_
 repeat' (first|refine aQ ?_|exact aC|with_reducible refine aB ?_ ?_|(apply aA;(·exact cL))|((with_reducible refine aN (dK _) ?_ ?_);(·exact cJ))|((with_reducible refine aI (fun _=>dK _) ?_ ?_);(·exact cJ))|((with_reducible refine aL (dK _) ?_ ?_);(·exact cJ))|((with_reducible refine aM (fun _=>dK _) ?_ ?_);(·exact cJ))|refine aH ?_|((with_reducible refine aE ?_ ?_)<;>intro hc<;>try(exfalso;omega)))
 all_goals exact rfl
theorem mP (a b:Int):Pure Tryz.prog 217 [i64 a,i64 b] (fun r=>r=i64 (tr (decide (a≠b)))):=by
 refine aD YN rfl ?_
 repeat' (first|refine aQ ?_|exact aC|with_reducible refine aB ?_ ?_|(apply aA;(·exact cL))|((with_reducible refine aN (dK _) ?_ ?_);(·exact cJ))|((with_reducible refine aI (fun _=>dK _) ?_ ?_);(·exact cJ))|((with_reducible refine aL (dK _) ?_ ?_);(·exact cJ))|((with_reducible refine aM (fun _=>dK _) ?_ ?_);(·exact cJ))|refine aH ?_|((with_reducible refine aE ?_ ?_)<;>intro hc<;>try(exfalso;omega)))
 all_goals exact rfl
theorem oQ (a b:Int):Pure Tryz.prog 218 [i64 a,i64 b] (fun r=>r=i64 (tr (decide (a<b)))):=by
 refine aD YO rfl ?_
 repeat' (first|refine aQ ?_|exact aC|with_reducible refine aB ?_ ?_|(apply aA;(·exact cL))|((with_reducible refine aN (dK _) ?_ ?_);(·exact cJ))|((with_reducible refine aI (fun _=>dK _) ?_ ?_);(·exact cJ))|((with_reducible refine aL (dK _) ?_ ?_);(·exact cJ))|((with_reducible refine aM (fun _=>dK _) ?_ ?_);(·exact cJ))|refine aH ?_|((with_reducible refine aE ?_ ?_)<;>intro hc<;>try(exfalso;omega)))
 all_goals exact rfl
theorem oS (a b:Int):Pure Tryz.prog 219 [i64 a,i64 b] (fun r=>r=i64 (tr (decide (a<=b)))):=by
 refine aD YP rfl ?_
 repeat' (first|refine aQ ?_|exact aC|with_reducible refine aB ?_ ?_|(apply aA;(·exact cL))|((with_reducible refine aN (dK _) ?_ ?_);(·exact cJ))|((with_reducible refine aI (fun _=>dK _) ?_ ?_);(·exact cJ))|((with_reducible refine aL (dK _) ?_ ?_);(·exact cJ))|((with_reducible refine aM (fun _=>dK _) ?_ ?_);(·exact cJ))|refine aH ?_|((with_reducible refine aE ?_ ?_)<;>intro hc<;>try(exfalso;omega)))
 all_goals exact rfl
theorem mA (a b:Int):Pure Tryz.prog 220 [i64 a,i64 b] (fun r=>r=i64 (tr (decide (b<a)))):=by
 refine aD YQ rfl ?_
 repeat' (first|refine aQ ?_|exact aC|with_reducible refine aB ?_ ?_|(apply aA;(·exact cL))|((with_reducible refine aN (dK _) ?_ ?_);(·exact cJ))|((with_reducible refine aI (fun _=>dK _) ?_ ?_);(·exact cJ))|((with_reducible refine aL (dK _) ?_ ?_);(·exact cJ))|((with_reducible refine aM (fun _=>dK _) ?_ ?_);(·exact cJ))|refine aH ?_|((with_reducible refine aE ?_ ?_)<;>intro hc<;>try(exfalso;omega)))
 all_goals exact rfl
theorem mR (a b:Int):Pure Tryz.prog 221 [i64 a,i64 b] (fun r=>r=i64 (tr (decide (b<=a)))):=by
 refine aD YR rfl ?_
 repeat' (first|refine aQ ?_|exact aC|with_reducible refine aB ?_ ?_|(apply aA;(·exact cL))|((with_reducible refine aN (dK _) ?_ ?_);(·exact cJ))|((with_reducible refine aI (fun _=>dK _) ?_ ?_);(·exact cJ))|((with_reducible refine aL (dK _) ?_ ?_);(·exact cJ))|((with_reducible refine aM (fun _=>dK _) ?_ ?_);(·exact cJ))|refine aH ?_|((with_reducible refine aE ?_ ?_)<;>intro hc<;>try(exfalso;omega)))
 all_goals exact rfl
theorem mT (a:Int):Pure Tryz.prog 222 [i64 a] (fun r=>r=i64 (yd (0 - a))):=by
 refine aD YS rfl ?_
 repeat' (first|refine aQ ?_|exact aC|with_reducible refine aB ?_ ?_|(apply aA;(·exact cL))|refine aH ?_|((with_reducible refine aE ?_ ?_)<;>intro hc<;>try(exfalso;omega)))
 all_goals exact rfl
theorem qY (a:Int):Pure Tryz.prog 223 [i64 a] (fun r=>r=i64 (tr (decide (a=0)))):=by
 refine aD YT rfl ?_
 repeat' (first|refine aQ ?_|exact aC|with_reducible refine aB ?_ ?_|(apply aA;(·exact cL))|((with_reducible refine aN (dK _) ?_ ?_);(·exact cJ))|((with_reducible refine aI (fun _=>dK _) ?_ ?_);(·exact cJ))|((with_reducible refine aL (dK _) ?_ ?_);(·exact cJ))|((with_reducible refine aM (fun _=>dK _) ?_ ?_);(·exact cJ))|refine aH ?_|((with_reducible refine aE ?_ ?_)<;>intro hc<;>try(exfalso;omega)))
 all_goals exact rfl
def SR:AV:= .agg [.sc .nilFunc, .sc .nilFunc, .fn (.func 206) [] [], .sc .nilFunc, .fn (.func 207) [] [], .sc .nilFunc, .fn (.func 208) [] [], .sc .nilFunc, .fn (.func 209) [] [], .sc .nilFunc, .fn (.func 210) [] [], .sc .nilFunc, .fn (.func 211) [] [], .sc .nilFunc, .fn (.func 212) [] [], .sc .nilFunc, .fn (.func 213) [] [], .sc .nilFunc, .fn (.func 214) [] [], .sc .nilFunc, .fn (.func 215) [] [], .sc .nilFunc, .fn (.func 216) [] [], .sc .nilFunc, .fn (.func 217) [] [], .sc .nilFunc, .fn (.func 218) [] [], .sc .nilFunc, .fn (.func 219) [] [], .sc .nilFunc, .fn (.func 220) [] [], .sc .nilFunc, .fn (.func 221) [] [], .sc .nilFunc, .sc .nilFunc, .fn (.func 222) [] [], .sc .nilFunc, .fn (.func 223) [] []]
theorem nc:Pure Tryz.prog 197 [] (fun r=>r=SR):=by
 refine cp ?_ (by simp[SR,cH,c8])
 refine aJ X9 rfl ?_
 refine cP ?_
 exact⟨rfl⟩
def OZ (op a b:Int):Int:=if op=1 then yd (a+b) else if op=2 then yd (a - b) else if op=3 then yd (a * b) else if op=4 then A6 a b else if op=5 then yN a b else if op=6 then VT a b else if op=7 then orW a b else if op=8 then ZV a b else if op=9 then RG a b else if op=10 then J2 a b else if op=11 then tr (decide (a=b)) else if op=12 then tr (decide (a≠b)) else if op=13 then tr (decide (a<b)) else if op=14 then tr (decide (a<=b)) else if op=15 then tr (decide (b<a)) else tr (decide (b<=a))
def NZ (op a:Int):Int:=if op=17 then yd (0 - a) else tr (decide (a=0))
theorem xM {op:Int} (h:dv op=true):op=1\/op=2\/op=3\/op=4\/op=5\/op=6\/op=7\/op=8\/op=9\/op=10\/op=11\/op=12\/op=13\/op=14\/op=15\/op=16:=by
 simp only[dv,Bool.and_eq_true,decide_eq_true_eq] at h;omega
theorem SY (op a b:Int) (h:dv op=true):Pure Tryz.prog 160 [u8 op,i64 a,i64 b] (fun r=>r= .dI [i64 (OZ op a b),i64 0]):=by
 refine aD XR rfl ?_
 rcases xM h with rfl|rfl|rfl|rfl|rfl|rfl|rfl|rfl|rfl|rfl|rfl|rfl|rfl|rfl|rfl|rfl
 all_goals repeat' (first|refine aQ ?_|exact aC|with_reducible refine aB ?_ ?_|(apply aA;(·exact cL))|((with_reducible refine aN (gA _ (by omega)) ?_ ?_);(·exact cJ))|((with_reducible refine aI (fun _=>gA _ (by omega)) ?_ ?_);(·exact cJ))|((with_reducible refine aL (gA _ (by omega)) ?_ ?_);(·exact cJ))|((with_reducible refine aM (fun _=>gA _ (by omega)) ?_ ?_);(·exact cJ))|refine aK (nc) ?_|((with_reducible refine aN (pq _ _) ?_ ?_);(·exact cJ))|((with_reducible refine aI (fun _=>pq _ _) ?_ ?_);(·exact cJ))|((with_reducible refine aL (pq _ _) ?_ ?_);(·exact cJ))|((with_reducible refine aM (fun _=>pq _ _) ?_ ?_);(·exact cJ))|((with_reducible refine aN (ql _ _) ?_ ?_);(·exact cJ))|((with_reducible refine aI (fun _=>ql _ _) ?_ ?_);(·exact cJ))|((with_reducible refine aL (ql _ _) ?_ ?_);(·exact cJ))|((with_reducible refine aM (fun _=>ql _ _) ?_ ?_);(·exact cJ))|((with_reducible refine aN (qX _ _) ?_ ?_);(·exact cJ))|((with_reducible refine aI (fun _=>qX _ _) ?_ ?_);(·exact cJ))|((with_reducible refine aL (qX _ _) ?_ ?_);(·exact cJ))|((with_reducible refine aM (fun _=>qX _ _) ?_ ?_);(·exact cJ))|((with_reducible refine aN (jX _ _) ?_ ?_);(·exact cJ))|((with_reducible refine aI (fun _=>jX _ _) ?_ ?_);(·exact cJ))|((with_reducible refine aL (jX _ _) ?_ ?_);(·exact cJ))|((with_reducible refine aM (fun _=>jX _ _) ?_ ?_);(·exact cJ))|((with_reducible refine aN (qd _ _) ?_ ?_);(·exact cJ))|((with_reducible refine aI (fun _=>qd _ _) ?_ ?_);(·exact cJ))|((with_reducible refine aL (qd _ _) ?_ ?_);(·exact cJ))|((with_reducible refine aM (fun _=>qd _ _) ?_ ?_);(·exact cJ))|((with_reducible refine aN (px _ _) ?_ ?_);(·exact cJ))|((with_reducible refine aI (fun _=>px _ _) ?_ ?_);(·exact cJ))|((with_reducible refine aL (px _ _) ?_ ?_);(·exact cJ))|((with_reducible refine aM (fun _=>px _ _) ?_ ?_);(·exact cJ))|((with_reducible refine aN (q9 _ _) ?_ ?_);(·exact cJ))|((with_reducible refine aI (fun _=>q9 _ _) ?_ ?_);(·exact cJ))|((with_reducible refine aL (q9 _ _) ?_ ?_);(·exact cJ))|((with_reducible refine aM (fun _=>q9 _ _) ?_ ?_);(·exact cJ))|((with_reducible refine aN (qo _ _) ?_ ?_);(·exact cJ))|((with_reducible refine aI (fun _=>qo _ _) ?_ ?_);(·exact cJ))|((with_reducible refine aL (qo _ _) ?_ ?_);(·exact cJ))|((with_reducible refine aM (fun _=>qo _ _) ?_ ?_);(·exact cJ))|((with_reducible refine aN (qg _ _) ?_ ?_);(·exact cJ))|((with_reducible refine aI (fun _=>qg _ _) ?_ ?_);(·exact cJ))|((with_reducible refine aL (qg _ _) ?_ ?_);(·exact cJ))|((with_reducible refine aM (fun _=>qg _ _) ?_ ?_);(·exact cJ))|((with_reducible refine aN (qh _ _) ?_ ?_);(·exact cJ))|((with_reducible refine aI (fun _=>qh _ _) ?_ ?_);(·exact cJ))|((with_reducible refine aL (qh _ _) ?_ ?_);(·exact cJ))|((with_reducible refine aM (fun _=>qh _ _) ?_ ?_);(·exact cJ))|((with_reducible refine aN (tE _ _) ?_ ?_);(·exact cJ))|((with_reducible refine aI (fun _=>tE _ _) ?_ ?_);(·exact cJ))|((with_reducible refine aL (tE _ _) ?_ ?_);(·exact cJ))|((with_reducible refine aM (fun _=>tE _ _) ?_ ?_);(·exact cJ))|((with_reducible refine aN (mP _ _) ?_ ?_);(·exact cJ))|((with_reducible refine aI (fun _=>mP _ _) ?_ ?_);(·exact cJ))|((with_reducible refine aL (mP _ _) ?_ ?_);(·exact cJ))|((with_reducible refine aM (fun _=>mP _ _) ?_ ?_);(·exact cJ))|((with_reducible refine aN (oQ _ _) ?_ ?_);(·exact cJ))|((with_reducible refine aI (fun _=>oQ _ _) ?_ ?_);(·exact cJ))|((with_reducible refine aL (oQ _ _) ?_ ?_);(·exact cJ))|((with_reducible refine aM (fun _=>oQ _ _) ?_ ?_);(·exact cJ))|((with_reducible refine aN (oS _ _) ?_ ?_);(·exact cJ))|((with_reducible refine aI (fun _=>oS _ _) ?_ ?_);(·exact cJ))|((with_reducible refine aL (oS _ _) ?_ ?_);(·exact cJ))|((with_reducible refine aM (fun _=>oS _ _) ?_ ?_);(·exact cJ))|((with_reducible refine aN (mA _ _) ?_ ?_);(·exact cJ))|((with_reducible refine aI (fun _=>mA _ _) ?_ ?_);(·exact cJ))|((with_reducible refine aL (mA _ _) ?_ ?_);(·exact cJ))|((with_reducible refine aM (fun _=>mA _ _) ?_ ?_);(·exact cJ))|((with_reducible refine aN (mR _ _) ?_ ?_);(·exact cJ))|((with_reducible refine aI (fun _=>mR _ _) ?_ ?_);(·exact cJ))|((with_reducible refine aL (mR _ _) ?_ ?_);(·exact cJ))|((with_reducible refine aM (fun _=>mR _ _) ?_ ?_);(·exact cJ))|refine aH ?_|((with_reducible refine aE ?_ ?_)<;>intro hc<;>try(exfalso;omega)))
 all_goals (first|exact rfl|trace_state)
theorem PE (op a:Int) (h:op=17\/op=18):Pure Tryz.prog 161 [u8 op,i64 a] (fun r=>r= .dI [i64 (NZ op a),i64 0]):=by
 refine aD XS rfl ?_
 rcases h with rfl|rfl
 all_goals repeat' (first|refine aQ ?_|exact aC|with_reducible refine aB ?_ ?_|(apply aA;(·exact cL))|((with_reducible refine aN (gl _) ?_ ?_);(·exact cJ))|((with_reducible refine aI (fun _=>gl _) ?_ ?_);(·exact cJ))|((with_reducible refine aL (gl _) ?_ ?_);(·exact cJ))|((with_reducible refine aM (fun _=>gl _) ?_ ?_);(·exact cJ))|((with_reducible refine aN (gA _ (by omega)) ?_ ?_);(·exact cJ))|((with_reducible refine aI (fun _=>gA _ (by omega)) ?_ ?_);(·exact cJ))|((with_reducible refine aL (gA _ (by omega)) ?_ ?_);(·exact cJ))|((with_reducible refine aM (fun _=>gA _ (by omega)) ?_ ?_);(·exact cJ))|refine aK (nc) ?_|((with_reducible refine aN (mT _) ?_ ?_);(·exact cJ))|((with_reducible refine aI (fun _=>mT _) ?_ ?_);(·exact cJ))|((with_reducible refine aL (mT _) ?_ ?_);(·exact cJ))|((with_reducible refine aM (fun _=>mT _) ?_ ?_);(·exact cJ))|((with_reducible refine aN (qY _) ?_ ?_);(·exact cJ))|((with_reducible refine aI (fun _=>qY _) ?_ ?_);(·exact cJ))|((with_reducible refine aL (qY _) ?_ ?_);(·exact cJ))|((with_reducible refine aM (fun _=>qY _) ?_ ?_);(·exact cJ))|refine aH ?_|((with_reducible refine aE ?_ ?_)<;>intro hc<;>try(exfalso;omega)))
 all_goals (first|exact rfl|trace_state)
structure fp where
 cr:Int
 node:Int
 kind:Int
 cI:Int
 word:Int
 put:Int
 deriving Inhabited,DecidableEq
def fp.cells (d:fp):List AV:=[i64 d.cr,i64 d.node,u8 d.kind,i64 d.cI,i64 d.word,i64 d.put]
abbrev fp.av (d:fp):AV:= .agg d.cells
def MS.val (m:MS) (t:Nat) (v:jz):Int:=if v.ir then(m.bz.getD t []).getD v.slot.toNat 0 else v.word
def MS.eB (m:MS) (t:Nat) (k:Int) (w:Int):MS:={ m with bz:=m.bz.set t ((m.bz.getD t []).set k.toNat w) }
def MS.nk (m:MS) (t:Nat) (n:Node):Int:=if dv n.op then OZ n.op (m.val t n.a) (m.val t n.b) else if n.op≠0 then NZ n.op (m.val t n.a) else m.val t n.a
def MS.act (m:MS) (t:Nat) (n:Node):MS×Int×Int×Int×Int:=
 if n.kind=1 then(m.eB t n.slot (m.nk t n),n.next,0,m.nk t n,0)
 else if n.kind=2 then(m.eB t n.slot (m.mem.getD n.cI.toNat 0),n.next,n.cI,m.mem.getD n.cI.toNat 0,0)
 else if n.kind=3 then({ m with mem:=m.mem.set n.cI.toNat (m.val t n.a) },n.next,n.cI,m.val t n.a,0)
 else if n.kind=4 then({ m.eB t n.slot (m.mem.getD n.cI.toNat 0) with mem:=m.mem.set n.cI.toNat (m.val t n.a) },n.next,n.cI,m.mem.getD n.cI.toNat 0,m.val t n.a)
 else if n.kind=5 then({ m with hold:=m.hold.set n.cI.toNat t },n.next,n.cI,0,0)
 else if n.kind=6 then({ m with hold:=m.hold.set n.cI.toNat (-1) },n.next,n.cI,0,0)
 else if n.kind=7 then({ m with cA:=m.cA++[⟨t,m.val t n.a⟩] },n.next,0,m.val t n.a,0)
 else(m,if m.val t n.a=0 then n.rN else n.next,0,m.val t n.a,0)
def MS.step (u:bx) (m:MS) (t:Nat):MS×fp:=
 let n:=m.node u t
 let r:=m.act t n
 ({ r.1 with at_:=m.at_.set t r.2.1 },⟨t,m.at_.getD t 0,n.kind,r.2.2.1,r.2.2.2.1,r.2.2.2.2⟩)
section
theorem vU (n:Int):ee (yd n):=by unfold ee yd;rw[IntKind.wrap_i64];omega
theorem TY {p:Prop} [Decidable p] {a b:Int} (h1:ee a) (h2:ee b):ee (if p then a else b):=by
 split
 ·exact h1
 ·exact h2
theorem SV (t:Bool):ee (tr t):=by unfold tr ee;split<;>omega
theorem RH {a:Int} (h:ee a) (b:Int):ee (J2 a b):=by
 unfold J2
 have hd:(1:Int)<=2^(min (xm b).toNat 64):=Int.le_of_lt_add_one (by have:(0:Int)<2^(min (xm b).toNat 64):=Int.pow_pos (by omega);omega)
 generalize (2:Int)^(min (xm b).toNat 64)=d at *
 rw[Int.fdiv_eq_ediv_of_nonneg _ (by omega)]
 have h1:=Int.mul_ediv_add_emod a d
 have h2:=Int.emod_nonneg a (b:=d) (by omega)
 have h3:=Int.emod_lt_of_pos a (b:=d) (by omega)
 obtain⟨h4,h5⟩:=h
 generalize a /d=q at *
 generalize a%d=r at *
 constructor
 ·apply Int.not_lt.1
  intro hq
  have:d * (q+1)<=1 * (q+1):=Int.mul_le_mul_of_nonpos_right hd (by omega)
  rw[Int.mul_add] at this
  omega
 ·apply Int.not_le.1
  intro hq
  have:1 * q<=d * q:=Int.mul_le_mul_of_nonneg_right hd (by omega)
  omega
theorem RU {a b:Int} (ha:ee a) (op:Int):ee (OZ op a b):=by
 have hq:ee (A6 a b):=by
  unfold A6
  split
  ·exact⟨by omega,by omega⟩
  ·split
   ·exact vU _
   ·exact vU _
 have hm:ee (yN a b):=by
  unfold yN
  split
  ·exact ha
  ·exact vU _
 unfold OZ
 repeat' (with_reducible refine TY ?_ ?_)
 all_goals first
  |exact SV _
  |exact RH ha _
  |exact hq
  |exact hm
  |exact vU _
theorem Q5 (op a:Int):ee (NZ op a):=by
 unfold NZ
 split
 ·exact vU _
 ·exact SV _
theorem getD_none {α:Type} {l:List α} {k:Nat} {d:α} (h:l.length<=k):l.getD k d=d:=by simp[List.getD,List.getElem?_eq_none h]
section
variable {u:bx} {m:MS} {t:Nat}
theorem RJ (h:eN u m) (ht:t<u.bw.length) (k:Nat):ee ((m.bz.getD t []).getD k 0):=by
 by_cases hk:k<(m.bz.getD t []).length
 ·exact h.E1 t ht _ (cO 0 hk)
 ·rw[getD_none (Nat.le_of_not_lt hk)]
  exact⟨by omega,by omega⟩
theorem FE (h:eN u m) (ht:t<u.bw.length) {v:jz} (hv:v.Wf):ee (m.val t v):=by
 unfold MS.val
 split
 ·exact RJ h ht _
 ·exact hv.word
theorem RF (h:eN u m) (ht:t<u.bw.length) {n:Node} (hn:n.Wf):ee (m.nk t n):=by
 unfold MS.nk
 split
 ·exact RU (FE h ht hn.a) _
 ·split
  ·exact Q5 _ _
  ·exact FE h ht hn.a
theorem pY {α:Type} {l:List α} {i:Nat} {a x:α} (h:x∈l.set i a):x∈l\/x=a:=by
 rcases List.mem_or_eq_of_mem_set h with h|h
 ·exact .inl h
 ·exact .inr h
theorem getD_set_ne {α:Type} {l:List α} {i j:Nat} {v d:α} (h:i≠j):(l.set i v).getD j d=l.getD j d:=by simp[List.getD,List.getElem?_set_ne h]
theorem eN.eB (h:eN u m) (k w:Int) (hw:ee w):eN u (m.eB t k w) where
 nG:=h.nG
 iS:=h.iS
 sl:=by simp only[MS.eB,List.length_set];exact h.sl
 B5:=fun s hs=>by
  simp only[MS.eB]
  by_cases e:t=s
  ·subst e
   rw[eM (by rw[h.sl];exact hs),List.length_set]
   exact h.B5 t hs
  ·rw[getD_set_ne e];exact h.B5 s hs
 E1:=fun s hs x hx=>by
  simp only[MS.eB] at hx
  by_cases e:t=s
  ·subst e
   rw[eM (by rw[h.sl];exact hs)] at hx
   rcases pY hx with hx|rfl
   ·exact h.E1 t hs x hx
   ·exact hw
  ·rw[getD_set_ne e] at hx;exact h.E1 s hs x hx
 ml:=h.ml
 mw:=h.mw
 hl:=h.hl
 hw:=h.hw
 pw:=h.pw
theorem eN.mem (h:eN u m) (k:Nat) (w:Int) (hw:ee w):eN u { m with mem:=m.mem.set k w } where
 nG:=h.nG
 iS:=h.iS
 sl:=h.sl
 B5:=h.B5
 E1:=h.E1
 ml:=by simp only[List.length_set];exact h.ml
 mw:=fun x hx=>by
  rcases pY hx with hx|rfl
  ·exact h.mw x hx
  ·exact hw
 hl:=h.hl
 hw:=h.hw
 pw:=h.pw
theorem eN.hold (h:eN u m) (k:Nat) (w:Int) (hw:-1<=w/\w<u.bw.length):eN u { m with hold:=m.hold.set k w } where
 nG:=h.nG
 iS:=h.iS
 sl:=h.sl
 B5:=h.B5
 E1:=h.E1
 ml:=h.ml
 mw:=h.mw
 hl:=by simp only[List.length_set];exact h.hl
 hw:=fun x hx=>by
  rcases pY hx with hx|rfl
  ·exact h.hw x hx
  ·exact hw
 pw:=h.pw
theorem eN.print (h:eN u m) (p:cy) (hp:0<=p.cr/\p.cr<u.bw.length/\ee p.word):eN u { m with cA:=m.cA++[p] } where
 nG:=h.nG
 iS:=h.iS
 sl:=h.sl
 B5:=h.B5
 E1:=h.E1
 ml:=h.ml
 mw:=h.mw
 hl:=h.hl
 hw:=h.hw
 pw:=fun x hx=>by
  rcases List.mem_append.1 hx with hx|hx
  ·exact h.pw x hx
  ·simp only[List.mem_cons,List.not_mem_nil,or_false] at hx
   subst hx;exact hp
theorem eN.G8 (h:eN u m) (k:Int) (hk:t<u.bw.length->0<=k/\k<(u.gr t).nodes.length):eN u { m with at_:=m.at_.set t k } where
 nG:=by simp only[List.length_set];exact h.nG
 iS:=fun s hs=>by
  by_cases e:t=s
  ·subst e
   dsimp only
   rw[eM (by rw[h.nG];exact hs)]
   exact hk hs
  ·dsimp only
   rw[getD_set_ne e];exact h.iS s hs
 sl:=h.sl
 B5:=h.B5
 E1:=h.E1
 ml:=h.ml
 mw:=h.mw
 hl:=h.hl
 hw:=h.hw
 pw:=h.pw
theorem jW (h:eN u m) (ht:t<u.bw.length) (hb:m.jR u t=0):(m.node u t).kind≠9/\¬((m.node u t).kind=5/\0<=m.hold.getD (m.node u t).cI.toNat 0):=by
 unfold MS.jR at hb
 rw[if_neg (by have:=h.nG;omega),Int.toNat_natCast] at hb
 refine⟨fun e=> ?_,fun e=> ?_⟩
 ·rw[if_pos e] at hb;cases hb
 ·rw[if_neg (by omega)] at hb
  rw[if_pos e] at hb
  cases hb
theorem GH (hu:u.Wf) (h:eN u m) (ht:t<u.bw.length):(m.node u t).Wf:=by
 have h1:=h.iS t ht
 exact(hu.bw _ (cO default ht)).nodes _ (cO default (show(m.at_.getD t 0).toNat<(u.gr t).nodes.length by omega))
theorem S6 (hu:u.Wf) (hr:cg u) (h:eN u m) (ht:t<u.bw.length):eN u (m.act t (m.node u t)).1:=by
 have hn:=h.node hr ht
 have hw:=GH hu h ht
 have hst:=RF h ht hw
 have hva:=FE h ht hw.a
 have hmw:ee (m.mem.getD (m.node u t).cI.toNat 0):=by
  by_cases hk:(m.node u t).cI.toNat<m.mem.length
  ·exact h.mw _ (cO 0 hk)
  ·rw[getD_none (Nat.le_of_not_lt hk)];exact⟨by omega,by omega⟩
 generalize m.node u t=n at *
 unfold MS.act
 split
 ·exact h.eB _ _ hst
 split
 ·exact h.eB _ _ hmw
 split
 ·exact h.mem _ _ hva
 split
 ·exact(h.eB (t:=t) n.slot _ hmw).mem _ _ hva
 split
 ·exact h.hold _ _ ⟨by omega,by omega⟩
 split
 ·exact h.hold _ _ ⟨by omega,by omega⟩
 split
 ·exact h.print _ ⟨by dsimp only;omega,by dsimp only;omega,hva⟩
 ·exact h
theorem K2 (hr:cg u) (h:eN u m) (ht:t<u.bw.length) (hk:(m.node u t).kind≠9):0<=(m.act t (m.node u t)).2.1/\(m.act t (m.node u t)).2.1<(u.gr t).nodes.length:=by
 have hn:=h.node hr ht
 generalize m.node u t=n at *
 have hkd:=hn.kind
 have hnx:=hn.next.1 (by unfold jA;exact decide_eq_true (by omega))
 unfold MS.act
 repeat' split
 all_goals first
  |exact hnx
  |exact hn.rN.1 (by omega)
theorem tJ (hu:u.Wf) (hr:cg u) (h:eN u m) (ht:t<u.bw.length) (hk:(m.node u t).kind≠9):eN u (m.step u t).1:=by
 have h1:=S6 hu hr h ht
 have h2:=K2 hr h ht hk
 have h3:(m.step u t).1={ (m.act t (m.node u t)).1 with at_:=m.at_.set t (m.act t (m.node u t)).2.1 }:=rfl
 have h4:(m.act t (m.node u t)).1.at_=m.at_:=by
  unfold MS.act
  repeat' split
  all_goals rfl
 rw[h3,<-h4]
 exact h1.G8 _ fun _=>h2
end
end
section
structure ML where
 mr:Nat
 a:Nat
 s:Nat
 me:Nat
 ho:Nat
 pr:Nat
 ids:List Nat
abbrev ML.all (L:ML):List Nat:=L.mr::L.a::L.s::L.me::L.ho::L.pr::L.ids
abbrev ML.it (L:ML) (t:Nat):Nat:=L.ids.getD t 0
abbrev ML.At (L:ML) (u:bx) (m:MS) (H:Hp):Prop:=U7 u m L.mr L.a L.s L.me L.ho L.pr L.ids H
theorem U7.DA {u:bx} {m:MS} {mr a s me ho pr:Nat} {ids:List Nat} {H:Hp} (h:U7 u m mr a s me ho pr ids H) (k:Nat):cw.dY H (k+4) (.pt mr 1 0 0)=m.fz u:=by
 obtain⟨d1,h1⟩:=h.rM
 obtain⟨d2,h2⟩:=h.rA
 obtain⟨d3,h3⟩:=h.rS
 obtain⟨d4,h4⟩:=h.rE
 obtain⟨d5,h5⟩:=h.rH
 obtain⟨d6,h6⟩:=h.rP
 have hsl:(dR ids m.bz).length=m.bz.length:=by unfold dR;rw[List.length_map,List.length_zip,h.len];simp
 have hs:(dR ids m.bz).map (cw.dY H (k+1))=m.bz.map cT:=by
  apply List.ext_getElem (by simp[hsl])
  intro t q1 q2
  have ht:t<m.bz.length:=by simpa using q2
  have hti:t<ids.length:=by rw[h.len];exact ht
  obtain⟨d,hd⟩:=h.rL t ht
  rw[show ids.getD t 0=ids[t] by simp[List.getD,hti],show m.bz.getD t []=m.bz[t] by simp[List.getD,ht]] at hd
  rw[List.getElem_map,List.getElem_map]
  simp only[dR,List.getElem_map,List.getElem_zip]
  rw[dH hd (by simp),cn _ ((cD _ _).2 fun _ _=>by simp[cH])]
 simp only[cw.dY,h1]
 simp only[List.length_cons,List.length_nil,if_true,List.map_cons,List.map_nil,MS.rows]
 rw[oL]
 simp only[List.map_cons,List.map_nil]
 rw[dH h2 (by simp),dH h3 hsl,dH h4 (by simp),dH h5 (by simp),dH h6 (by simp),hs]
 rw[cn _ ((cD _ _).2 fun _ _=>by simp[cH]),cn _ ((cD _ _).2 fun _ _=>by simp[cH]),cn _ ((cD _ _).2 fun _ _=>by simp[cH]),cn _ ((cD _ _).2 fun _ _=>by simp[cH])]
 rw[dA _ (show cH 0 (cF u.shared) by simp[cH,cD]),dA _ (show cH 0 (cF u.cB) by simp[cH,cD]),dA _ (show cH 0 (cZ u.bw) by simp[cH,cD])]
 rfl
section
variable {u:bx} {m:MS} {L:ML} {H H':Hp}
theorem gy {p:Prop} (h:p:=by first|assumption|(refine Ne.symm ?_;assumption)):p:=h
theorem ML.At.mem (h:L.At u m H):(∀x∈[L.a,L.s,L.me,L.ho,L.pr],x∈L.all):=by
 intro x hx
 simp only[List.mem_cons,List.not_mem_nil,or_false] at hx
 simp only[ML.all,List.mem_cons]
 omega
theorem mQ (h:L.At u m H) {t:Nat} (ht:t<m.bz.length):L.it t∈L.all:=by
 have:L.it t∈L.ids:=eE (by rw[h.len];exact ht)
 simp only[ML.all,List.mem_cons]
 exact .inr (.inr (.inr (.inr (.inr (.inr this)))))
theorem WH (h:L.At u m H) {t s:Nat} (ht:t<m.bz.length) (hs:s<m.bz.length) (e:s≠t):L.it s≠L.it t:=by
 have h1:=(List.nodup_cons.1 (List.nodup_cons.1 (List.nodup_cons.1 (List.nodup_cons.1 (List.nodup_cons.1 (List.nodup_cons.1 h.nodup).2).2).2).2).2).2
 have hl:=h.len
 intro he
 have ht':t<L.ids.length:=by omega
 have hs':s<L.ids.length:=by omega
 have:L.ids[s]=L.ids[t]:=by simpa[ML.it,List.getD,ht',hs'] using he
 exact e ((List.getElem_inj h1).1 this)
structure ML.RZ (L:ML) (t:Nat):Prop where
 ne:L.mr≠L.a/\L.mr≠L.s/\L.mr≠L.me/\L.mr≠L.ho/\L.mr≠L.pr/\L.a≠L.s/\L.a≠L.me/\L.a≠L.ho/\L.a≠L.pr/\L.s≠L.me/\L.s≠L.ho/\L.s≠L.pr/\L.me≠L.ho/\L.me≠L.pr/\L.ho≠L.pr
 it:L.it t≠L.mr/\L.it t≠L.a/\L.it t≠L.s/\L.it t≠L.me/\L.it t≠L.ho/\L.it t≠L.pr
theorem apart (h:L.At u m H) {t:Nat} (ht:t<m.bz.length):L.RZ t:=by
 have hn:=h.nodup
 have hi:L.it t∈L.ids:=eE (by rw[h.len];exact ht)
 have hne:∀x,x∉L.ids->L.it t≠x:=fun x hx e=>hx (e▸hi)
 simp only[List.nodup_cons,List.mem_cons,not_or] at hn
 obtain⟨⟨a1,a2,a3,a4,a5,a6⟩,⟨b1,b2,b3,b4,b5⟩,⟨c1,c2,c3,c4⟩,⟨d1,d2,d3⟩,⟨e1,e2⟩,f1,_⟩:=hn
 exact⟨⟨a1,a2,a3,a4,a5,b1,b2,b3,b4,c1,c2,c3,d1,d2,e1⟩,hne _ a6,hne _ b5,hne _ c4,hne _ d3,hne _ e2,hne _ f1⟩
theorem ML.At.cc (h:L.At u m H) (hk:∀y∈L.all,bt H' y=bt H y):L.At u m H':=by
 have hm:=h.mem
 obtain⟨d1,h1⟩:=h.rM
 obtain⟨d2,h2⟩:=h.rA
 obtain⟨d3,h3⟩:=h.rS
 obtain⟨d4,h4⟩:=h.rE
 obtain⟨d5,h5⟩:=h.rH
 obtain⟨d6,h6⟩:=h.rP
 refine⟨⟨d1,(hk _ (by simp)).trans h1⟩,⟨d2,(hk _ (hm _ (by simp))).trans h2⟩,⟨d3,(hk _ (hm _ (by simp))).trans h3⟩,fun t ht=> ?_,⟨d4,(hk _ (hm _ (by simp))).trans h4⟩,⟨d5,(hk _ (hm _ (by simp))).trans h5⟩,⟨d6,(hk _ (hm _ (by simp))).trans h6⟩,h.len,h.nodup⟩
 obtain⟨d,hd⟩:=h.rL t ht
 exact⟨d,(hk _ (mQ h ht)).trans hd⟩
theorem ML.At.eB (h:L.At u m H) {t:Nat} (ht:t<m.bz.length) (k w:Int) (hit:∃d,bt H' (L.it t)=some (.row 2 1 d (((m.bz.getD t []).map i64).set k.toNat (i64 w)))) (hk:∀y∈L.all,y≠L.it t->bt H' y=bt H y):L.At u (m.eB t k w) H':=by
 obtain⟨-,n1,n2,n3,n4,n5,n6⟩:=apart h ht
 have hm:=h.mem
 obtain⟨d1,h1⟩:=h.rM
 obtain⟨d2,h2⟩:=h.rA
 obtain⟨d3,h3⟩:=h.rS
 obtain⟨d4,h4⟩:=h.rE
 obtain⟨d5,h5⟩:=h.rH
 obtain⟨d6,h6⟩:=h.rP
 have hl:(m.eB t k w).bz.length=m.bz.length:=by simp[MS.eB]
 have hrow:dR L.ids (m.eB t k w).bz=dR L.ids m.bz:=by
  unfold dR MS.eB
  apply List.ext_getElem (by simp)
  intro i q1 q2
  simp only[List.getElem_map,List.getElem_zip,AV.sl.injEq,true_and]
  rw[List.getElem_set]
  have hi:i<m.bz.length:=by simp at q2;omega
  split
  ·rename_i e;subst e;rw[List.length_set];simp[List.getD,hi]
  ·rfl
 refine⟨⟨d1, ?_⟩,⟨d2,(hk _ (hm _ (by simp)) gy).trans h2⟩,⟨d3,by rw[hrow];exact(hk _ (hm _ (by simp)) gy).trans h3⟩,fun s hs=> ?_,⟨d4,(hk _ (hm _ (by simp)) gy).trans h4⟩,⟨d5,(hk _ (hm _ (by simp)) gy).trans h5⟩,⟨d6,(hk _ (hm _ (by simp)) gy).trans h6⟩,by rw[hl];exact h.len,h.nodup⟩
 ·rw[show(m.eB t k w).rows u L.a L.s L.me L.ho L.pr=m.rows u L.a L.s L.me L.ho L.pr by simp[MS.rows,MS.eB]]
  exact(hk _ (by simp) gy).trans h1
 ·rw[hl] at hs
  by_cases e:s=t
  ·subst e
   obtain⟨d,hd⟩:=hit
   refine⟨d,hd.trans ?_⟩
   rw[show(m.eB s k w).bz.getD s []=(m.bz.getD s []).set k.toNat w from eM hs,List.map_set]
  ·obtain⟨d,hd⟩:=h.rL s hs
   refine⟨d, ?_⟩
   rw[show(m.eB t k w).bz.getD s []=m.bz.getD s [] from getD_set_ne (Ne.symm e)]
   exact(hk _ (mQ h hs) (WH h ht hs e)).trans hd
theorem ML.At.gI (h:L.At u m H) {t:Nat} (ht:t<m.bz.length) (k w:Int) (hme:∃d,bt H' L.me=some (.row 2 1 d ((m.mem.map i64).set k.toNat (i64 w)))) (hk:∀y∈L.all,y≠L.me->bt H' y=bt H y):L.At u { m with mem:=m.mem.set k.toNat w } H':=by
 obtain⟨⟨a1,a2,a3,a4,a5,b1,b2,b3,b4,c1,c2,c3,e1,e2,f1⟩,n1,n2,n3,n4,n5,n6⟩:=apart h ht
 have hm:=h.mem
 obtain⟨d1,h1⟩:=h.rM
 obtain⟨d2,h2⟩:=h.rA
 obtain⟨d3,h3⟩:=h.rS
 obtain⟨d4,h4⟩:=hme
 obtain⟨d5,h5⟩:=h.rH
 obtain⟨d6,h6⟩:=h.rP
 refine⟨⟨d1, ?_⟩,⟨d2,(hk _ (hm _ (by simp)) gy).trans h2⟩,⟨d3,(hk _ (hm _ (by simp)) gy).trans h3⟩,fun s hs=> ?_,⟨d4,by rw[List.map_set];exact h4⟩,⟨d5,(hk _ (hm _ (by simp)) gy).trans h5⟩,⟨d6,(hk _ (hm _ (by simp)) gy).trans h6⟩,h.len,h.nodup⟩
 ·rw[show({ m with mem:=m.mem.set k.toNat w }:MS).rows u L.a L.s L.me L.ho L.pr=m.rows u L.a L.s L.me L.ho L.pr by simp[MS.rows]]
  exact(hk _ (by simp) gy).trans h1
 ·obtain⟨d,hd⟩:=h.rL s hs
  obtain⟨m1,m2,m3,m4,m5,m6⟩:=(apart h hs).it
  exact⟨d,(hk _ (mQ h hs) gy).trans hd⟩
theorem ML.At.zm (h:L.At u m H) {t:Nat} (ht:t<m.bz.length) (k w:Int) (hho:∃d,bt H' L.ho=some (.row 3 1 d ((m.hold.map i64).set k.toNat (i64 w)))) (hk:∀y∈L.all,y≠L.ho->bt H' y=bt H y):L.At u { m with hold:=m.hold.set k.toNat w } H':=by
 obtain⟨⟨a1,a2,a3,a4,a5,b1,b2,b3,b4,c1,c2,c3,e1,e2,f1⟩,n1,n2,n3,n4,n5,n6⟩:=apart h ht
 have hm:=h.mem
 obtain⟨d1,h1⟩:=h.rM
 obtain⟨d2,h2⟩:=h.rA
 obtain⟨d3,h3⟩:=h.rS
 obtain⟨d4,h4⟩:=h.rE
 obtain⟨d5,h5⟩:=hho
 obtain⟨d6,h6⟩:=h.rP
 refine⟨⟨d1, ?_⟩,⟨d2,(hk _ (hm _ (by simp)) gy).trans h2⟩,⟨d3,(hk _ (hm _ (by simp)) gy).trans h3⟩,fun s hs=> ?_,⟨d4,(hk _ (hm _ (by simp)) gy).trans h4⟩,⟨d5,by rw[List.map_set];exact h5⟩,⟨d6,(hk _ (hm _ (by simp)) gy).trans h6⟩,h.len,h.nodup⟩
 ·rw[show({ m with hold:=m.hold.set k.toNat w }:MS).rows u L.a L.s L.me L.ho L.pr=m.rows u L.a L.s L.me L.ho L.pr by simp[MS.rows]]
  exact(hk _ (by simp) gy).trans h1
 ·obtain⟨d,hd⟩:=h.rL s hs
  obtain⟨m1,m2,m3,m4,m5,m6⟩:=(apart h hs).it
  exact⟨d,(hk _ (mQ h hs) gy).trans hd⟩
theorem ML.At.G8 (h:L.At u m H) {t:Nat} (ht:t<m.bz.length) (k:Nat) (w:Int) (hat:∃d,bt H' L.a=some (.row 3 1 d ((m.at_.map i64).set k (i64 w)))) (hk:∀y∈L.all,y≠L.a->bt H' y=bt H y):L.At u { m with at_:=m.at_.set k w } H':=by
 obtain⟨⟨a1,a2,a3,a4,a5,b1,b2,b3,b4,c1,c2,c3,e1,e2,f1⟩,n1,n2,n3,n4,n5,n6⟩:=apart h ht
 have hm:=h.mem
 obtain⟨d1,h1⟩:=h.rM
 obtain⟨d2,h2⟩:=hat
 obtain⟨d3,h3⟩:=h.rS
 obtain⟨d4,h4⟩:=h.rE
 obtain⟨d5,h5⟩:=h.rH
 obtain⟨d6,h6⟩:=h.rP
 refine⟨⟨d1, ?_⟩,⟨d2,by rw[List.map_set];exact h2⟩,⟨d3,(hk _ (hm _ (by simp)) gy).trans h3⟩,fun s hs=> ?_,⟨d4,(hk _ (hm _ (by simp)) gy).trans h4⟩,⟨d5,(hk _ (hm _ (by simp)) gy).trans h5⟩,⟨d6,(hk _ (hm _ (by simp)) gy).trans h6⟩,h.len,h.nodup⟩
 ·rw[show({ m with at_:=m.at_.set k w }:MS).rows u L.a L.s L.me L.ho L.pr=m.rows u L.a L.s L.me L.ho L.pr by simp[MS.rows]]
  exact(hk _ (by simp) gy).trans h1
 ·obtain⟨d,hd⟩:=h.rL s hs
  obtain⟨m1,m2,m3,m4,m5,m6⟩:=(apart h hs).it
  exact⟨d,(hk _ (mQ h hs) gy).trans hd⟩
theorem ML.At.D6 (h:L.At u m H) {t:Nat} (ht:t<m.bz.length) (p:cy) (hmr:∃d,bt H' L.mr=some (.row 114 8 d [({ m with cA:=m.cA++[p] }:MS).rows u L.a L.s L.me L.ho L.pr])) (hpr:∃d,bt H' L.pr=some (.row 155 2 d (m.cA.map cy.av++[p.av]))) (hk:∀y∈L.all,y≠L.pr->y≠L.mr->bt H' y=bt H y):L.At u { m with cA:=m.cA++[p] } H':=by
 obtain⟨⟨a1,a2,a3,a4,a5,b1,b2,b3,b4,c1,c2,c3,e1,e2,f1⟩,n1,n2,n3,n4,n5,n6⟩:=apart h ht
 have hm:=h.mem
 obtain⟨d2,h2⟩:=h.rA
 obtain⟨d3,h3⟩:=h.rS
 obtain⟨d4,h4⟩:=h.rE
 obtain⟨d5,h5⟩:=h.rH
 obtain⟨d6,h6⟩:=hpr
 refine⟨hmr,⟨d2,(hk _ (hm _ (by simp)) gy gy).trans h2⟩,⟨d3,(hk _ (hm _ (by simp)) gy gy).trans h3⟩,fun s hs=> ?_,⟨d4,(hk _ (hm _ (by simp)) gy gy).trans h4⟩,⟨d5,(hk _ (hm _ (by simp)) gy gy).trans h5⟩,⟨d6,by rw[List.map_append];exact h6⟩,h.len,h.nodup⟩
 obtain⟨d,hd⟩:=h.rL s hs
 obtain⟨m1,m2,m3,m4,m5,m6⟩:=(apart h hs).it
 exact⟨d,(hk _ (mQ h hs) gy gy).trans hd⟩
end
end
def AC (x:AV) (t:Int) (n:Node) (d:fp):List AV:=[x,i64 t,u8 n.kind,u8 n.op,i64 n.slot,i64 n.cI,bl n.a.ir,i64 n.a.slot,i64 n.a.word,bl n.b.ir,i64 n.b.slot,i64 n.b.word,i64 n.next,i64 n.rN,i64 n.origin,i64 d.cr,i64 d.node,u8 d.kind,i64 d.cI,i64 d.word,i64 d.put]
abbrev oq (u:bx) (m:MS) (t:Int) (n:Node) (d:fp):AV:= .ip 21 .any [.agg (AC (m.fz u) t n d)] 0 0
@[simp] theorem aAC (k:Nat) (u:bx) (m:MS) (t:Int) (n:Node) (d:fp):c8 k (AC (m.fz u) t n d):=by
  simp[cH,c8,AC]
structure wA (u:bx) (m:MS) (t:Nat) (n:Node) (d:fp) (ab:Nat) (L:ML) (H:Hp):Prop where
 M:L.At u m H
 row:∃dd,bt H ab=some (.row 118 21 dd [.agg (AC (.pt L.mr 1 0 0) t n d)])
 out:ab∉L.all
theorem wA.dY {u:bx} {m:MS} {t:Nat} {n:Node} {d:fp} {ab:Nat} {L:ML} {H:Hp} (h:wA u m t n d ab L H):cw.dY H 6 (.pt ab 1 0 0)=oq u m t n d:=by
 obtain⟨dd,hr⟩:=h.row
 rw[show cw.dY H 6 (.pt ab 1 0 0)= .ip 21 .any (([.agg (AC (.pt L.mr 1 0 0) t n d)]:List AV).map (cw.dY H 5)) 0 0 from TT hr rfl]
 simp only[List.map_cons,List.map_nil]
 rw[oL]
 simp only[AC,List.map_cons,List.map_nil]
 have:=h.M.DA 0
 rw[this]
 simp only[cw.dY]
 rfl
theorem wA.cc {u:bx} {m:MS} {t:Nat} {n:Node} {d:fp} {ab:Nat} {L:ML} {H H':Hp} (h:wA u m t n d ab L H) (hk:∀y∈ab::L.all,bt H' y=bt H y):wA u m t n d ab L H':=by
 obtain⟨dd,hr⟩:=h.row
 exact⟨h.M.cc fun y hy=>hk y (List.mem_cons_of_mem _ hy),⟨dd,(hk ab (by simp)).trans hr⟩,h.out⟩
def lS (m:MS) (t:Nat) (v:jz):Prop:=v.ir=true->0<=v.slot/\v.slot<(m.bz.getD t []).length
theorem jl (u:bx) (m:MS) {t:Nat} (n:Node) (d:fp) (v:jz) (ht:t<m.bz.length) (hl:m.bz.length<=8) (hv:lS m t v):Pure Tryz.prog 158 [oq u m t n d,v.av] (fun r=>r=i64 (m.val t v)):=by
 unfold MS.val
 have e0:∀d,(m.bz.map cT).getD ((t:Int)).toNat d=cT (m.bz.getD t []):=fun d=>by rw[Int.toNat_natCast];exact cx cT m.bz t d ht
 have a0:(m.bz.map cT).length=m.bz.length:=by simp
 cases hs:v.ir with
 |true=>
  have r0:=hs
  obtain⟨v1,v2⟩:=hv hs
  have a1:((m.bz.getD t []).map i64).length=(m.bz.getD t []).length:=by simp
  have e1:=fun d=>iq (l:=m.bz.getD t []) (k:=v.slot) (by omega) d
  rw[if_pos rfl]
  refine aD SK rfl ?_
  refine cP ?_
  first|exact rfl|trivial
 |false=>
  have r0:=hs
  rw[if_neg (by decide)]
  refine aD SK rfl ?_
  refine cP ?_
  first|exact rfl|trivial
abbrev vc (u:bx) (m:MS) (t:Nat) (n:Node) (d:fp) (ab:Nat) (L:ML) (H0:Hp) (nx:Nat) (H:Hp) (k:Nat):Prop:=wA u m t n d ab L H/\nx<=k/\∀y,y<nx->y≠ab->y∉L.all->bt H y=bt H0 y
theorem qi {L:ML} {m:MS} {t:Nat} (hl:L.ids.length=m.bz.length) (ht:t<m.bz.length) (d:AV):(dR L.ids m.bz).getD t d= .sl (L.it t) (m.bz.getD t []).length:=by
 have h1:t<L.ids.length:=by omega
 have h2:t<(L.ids.zip m.bz).length:=by rw[List.length_zip];omega
 simp[dR,List.getD,ht,h1,List.getElem?_eq_getElem h2]
theorem ru {L:ML} {m:MS} (hl:L.ids.length=m.bz.length):(dR L.ids m.bz).length=m.bz.length:=by
 unfold dR;rw[List.length_map,List.length_zip,hl];simp
theorem di {x y:Nat} {l:List Nat} (h:x∉l) (hy:y∈l):y≠x:=fun e=>h (e▸hy)
set_option maxHeartbeats 1000000 in
theorem l5 {u:bx} {m:MS} {t:Nat} {n:Node} {d:fp} {ab:Nat} {L:ML} {H:Hp} {nx:Nat} (h:wA u m t n d ab L H) (hlt:∀y∈ab::L.all,y<nx) (ht:t<m.bz.length) (hl:m.bz.length<=8) (hs:0<=n.slot/\n.slot<(m.bz.getD t []).length) (w:Int):
 cU Tryz.prog 162 [.pt ab 1 0 0,i64 w] H nx (fun _ H' k=>vc u (m.eB t n.slot w) t n { d with word:=w } ab L H nx H' k):=by
 obtain⟨hM,⟨dd,ra⟩,hout⟩:=h
 obtain⟨⟨a1,a2,a3,a4,a5,b1,b2,b3,b4,c1,c2,c3,e1,e2,f1⟩,n1,n2,n3,n4,n5,n6⟩:=apart hM ht
 have hmem:=hM.mem
 have k0:=hlt ab (by simp)
 have km:=hlt L.mr (by simp)
 have ks:=hlt L.s (List.mem_cons_of_mem _ (hmem _ (by simp)))
 have ki:=hlt (L.it t) (List.mem_cons_of_mem _ (mQ hM ht))
 have o1:=di hout (List.mem_cons_self (a:=L.mr))
 have o2:=di hout (hmem L.s (by simp))
 have o3:=di hout (mQ hM ht)
 obtain⟨d1,r1⟩:=hM.rM
 obtain⟨d3,r3⟩:=hM.rS
 obtain⟨d7,r7⟩:=hM.rL t ht
 have e0:∀d,(dR L.ids m.bz).getD ((t:Int)).toNat d= .sl (L.it t) (m.bz.getD t []).length:=fun d=>by rw[Int.toNat_natCast];exact qi hM.len ht d
 have q0:=ru hM.len
 have q1:((m.bz.getD t []).map i64).length=(m.bz.getD t []).length:=by simp
 obtain⟨hs1,hs2⟩:=hs
 refine aJ XU rfl ?_
 refine cP ?_
 exact⟨⟨hM.eB ht _ _ ⟨_,bu⟩ fun y hy hne=>by have:=di hout hy;exact cE,⟨_,bu⟩,hout⟩,cX,fun y y1 y2 y3=>by have y4:=di y3 (mQ hM ht);exact cE⟩
theorem I4 {u:bx} {m:MS} {t:Nat} {n:Node} {d:fp} {ab:Nat} {L:ML} {H:Hp} {nx:Nat} (h:wA u m t n d ab L H) (hlt:∀y∈ab::L.all,y<nx) (ht:t<m.bz.length) (hl:m.bz.length<=8) (hth:0<=n.cI/\n.cI<m.hold.length):
 cU Tryz.prog 110 [.pt ab 1 0 0] H nx (fun r H' k=>r=i64 n.next/\vc u { m with hold:=m.hold.set n.cI.toNat t } t n { d with cI:=n.cI } ab L H nx H' k):=by
 have hfr:∀(v:jz) (H1:Hp),(∀y∈ab::L.all,bt H1 y=bt H y)->[.pt ab 1 0 0,v.av].map (cw.dY H1 6)=[oq u m t n d,v.av]:=fun v H1 h1=>by
  rw[List.map_cons,List.map_cons,List.map_nil,(h.cc h1).dY,dA _ (show cH 0 v.av by simp[cH])]
 have h0:=h
 obtain⟨hM,⟨dd,ra⟩,hout⟩:=h
 obtain⟨⟨a1,a2,a3,a4,a5,b1,b2,b3,b4,c1,c2,c3,e1',e2',f1⟩,n1,n2,n3,n4,n5,n6⟩:=apart hM ht
 have hmem:=hM.mem
 have k0:=hlt ab (by simp)
 have km:=hlt L.mr (by simp)
 have ke:=hlt L.me (List.mem_cons_of_mem _ (hmem _ (by simp)))
 have kh:=hlt L.ho (List.mem_cons_of_mem _ (hmem _ (by simp)))
 have kp:=hlt L.pr (List.mem_cons_of_mem _ (hmem _ (by simp)))
 have o1:=di hout (List.mem_cons_self (a:=L.mr))
 have o2:=di hout (hmem L.me (by simp))
 have o3:=di hout (hmem L.ho (by simp))
 have o4:=di hout (hmem L.pr (by simp))
 clear a1 a2 a4 b1 b2 b3 b4 c1 c2 c3 e1' e2' f1 n1 n2 n3 n4 n5 n6
 obtain⟨d1,r1⟩:=hM.rM
 obtain⟨d3,r4⟩:=hM.rE
 obtain⟨d5,r5⟩:=hM.rH
 obtain⟨d6,r6⟩:=hM.rP
 have q1:(m.mem.map i64).length=m.mem.length:=by simp
 have q2:(m.hold.map i64).length=m.hold.length:=by simp
 have q3:(m.cA.map cy.av).length=m.cA.length:=by simp
 refine aJ WW rfl ?_
 refine cP ?_
 exact⟨⟨rfl,⟨hM.zm ht _ _ ⟨_,bu⟩ fun y hy hne=>by have:=di hout hy;exact cE,⟨_,bu⟩,hout⟩,cX,fun y y1 y2 y3=>by have y4:=di y3 (hmem L.ho (by simp));exact cE⟩⟩
theorem BV {u:bx} {m:MS} {t:Nat} {n:Node} {d:fp} {ab:Nat} {L:ML} {H:Hp} {nx:Nat} (h:wA u m t n d ab L H) (hlt:∀y∈ab::L.all,y<nx) (ht:t<m.bz.length) (hl:m.bz.length<=8) (hth:0<=n.cI/\n.cI<m.hold.length):
 cU Tryz.prog 111 [.pt ab 1 0 0] H nx (fun r H' k=>r=i64 n.next/\vc u { m with hold:=m.hold.set n.cI.toNat (-1) } t n { d with cI:=n.cI } ab L H nx H' k):=by
 have hfr:∀(v:jz) (H1:Hp),(∀y∈ab::L.all,bt H1 y=bt H y)->[.pt ab 1 0 0,v.av].map (cw.dY H1 6)=[oq u m t n d,v.av]:=fun v H1 h1=>by
  rw[List.map_cons,List.map_cons,List.map_nil,(h.cc h1).dY,dA _ (show cH 0 v.av by simp[cH])]
 have h0:=h
 obtain⟨hM,⟨dd,ra⟩,hout⟩:=h
 obtain⟨⟨a1,a2,a3,a4,a5,b1,b2,b3,b4,c1,c2,c3,e1',e2',f1⟩,n1,n2,n3,n4,n5,n6⟩:=apart hM ht
 have hmem:=hM.mem
 have k0:=hlt ab (by simp)
 have km:=hlt L.mr (by simp)
 have ke:=hlt L.me (List.mem_cons_of_mem _ (hmem _ (by simp)))
 have kh:=hlt L.ho (List.mem_cons_of_mem _ (hmem _ (by simp)))
 have kp:=hlt L.pr (List.mem_cons_of_mem _ (hmem _ (by simp)))
 have o1:=di hout (List.mem_cons_self (a:=L.mr))
 have o2:=di hout (hmem L.me (by simp))
 have o3:=di hout (hmem L.ho (by simp))
 have o4:=di hout (hmem L.pr (by simp))
 clear a1 a2 a4 b1 b2 b3 b4 c1 c2 c3 e1' e2' f1 n1 n2 n3 n4 n5 n6
 obtain⟨d1,r1⟩:=hM.rM
 obtain⟨d3,r4⟩:=hM.rE
 obtain⟨d5,r5⟩:=hM.rH
 obtain⟨d6,r6⟩:=hM.rP
 have q1:(m.mem.map i64).length=m.mem.length:=by simp
 have q2:(m.hold.map i64).length=m.hold.length:=by simp
 have q3:(m.cA.map cy.av).length=m.cA.length:=by simp
 refine aJ WX rfl ?_
 refine cP ?_
 exact⟨⟨rfl,⟨hM.zm ht _ _ ⟨_,bu⟩ fun y hy hne=>by have:=di hout hy;exact cE,⟨_,bu⟩,hout⟩,cX,fun y y1 y2 y3=>by have y4:=di y3 (hmem L.ho (by simp));exact cE⟩⟩
theorem zF {u:bx} {m:MS} {t:Nat} {n:Node} {d:fp} {ab:Nat} {L:ML} {H:Hp} {nx:Nat} (h:wA u m t n d ab L H) (hlt:∀y∈ab::L.all,y<nx) (ht:t<m.bz.length) (hl:m.bz.length<=8) (hva:lS m t n.a):
 cU Tryz.prog 113 [.pt ab 1 0 0] H nx (fun r H' k=>r=i64 (if m.val t n.a=0 then n.rN else n.next)/\vc u m t n { d with word:=m.val t n.a } ab L H nx H' k):=by
 have hfr:∀(v:jz) (H1:Hp),(∀y∈ab::L.all,bt H1 y=bt H y)->[.pt ab 1 0 0,v.av].map (cw.dY H1 6)=[oq u m t n d,v.av]:=fun v H1 h1=>by
  rw[List.map_cons,List.map_cons,List.map_nil,(h.cc h1).dY,dA _ (show cH 0 v.av by simp[cH])]
 have h0:=h
 obtain⟨hM,⟨dd,ra⟩,hout⟩:=h
 obtain⟨⟨a1,a2,a3,a4,a5,b1,b2,b3,b4,c1,c2,c3,e1',e2',f1⟩,n1,n2,n3,n4,n5,n6⟩:=apart hM ht
 have hmem:=hM.mem
 have k0:=hlt ab (by simp)
 have km:=hlt L.mr (by simp)
 have ke:=hlt L.me (List.mem_cons_of_mem _ (hmem _ (by simp)))
 have kh:=hlt L.ho (List.mem_cons_of_mem _ (hmem _ (by simp)))
 have kp:=hlt L.pr (List.mem_cons_of_mem _ (hmem _ (by simp)))
 have o1:=di hout (List.mem_cons_self (a:=L.mr))
 have o2:=di hout (hmem L.me (by simp))
 have o3:=di hout (hmem L.ho (by simp))
 have o4:=di hout (hmem L.pr (by simp))
 clear a1 a2 a4 b1 b2 b3 b4 c1 c2 c3 e1' e2' f1 n1 n2 n3 n4 n5 n6
 obtain⟨d1,r1⟩:=hM.rM
 obtain⟨d3,r4⟩:=hM.rE
 obtain⟨d5,r5⟩:=hM.rH
 obtain⟨d6,r6⟩:=hM.rP
 have q1:(m.mem.map i64).length=m.mem.length:=by simp
 have q2:(m.hold.map i64).length=m.hold.length:=by simp
 have q3:(m.cA.map cy.av).length=m.cA.length:=by simp
 by_cases hz:m.val t n.a=0
 ·rw[if_pos hz]
  refine aJ SI rfl ?_
  refine cP ?_
  refine aP (jl u m n d n.a ht hl hva) (hfr n.a _ ?_) (by simp[c8,cH]) trivial ?_
  ·exact fun y hy=>rfl
  refine cP ?_
  exact⟨⟨rfl,⟨hM.cc fun y hy=>by have:=di hout hy;exact cE,⟨_,bu⟩,hout⟩,cX,fun y y1 y2 y3=>cE⟩⟩
 ·rw[if_neg hz]
  refine aJ SI rfl ?_
  refine cP ?_
  refine aP (jl u m n d n.a ht hl hva) (hfr n.a _ ?_) (by simp[c8,cH]) trivial ?_
  ·exact fun y hy=>rfl
  refine cP ?_
  exact⟨⟨rfl,⟨hM.cc fun y hy=>by have:=di hout hy;exact cE,⟨_,bu⟩,hout⟩,cX,fun y y1 y2 y3=>cE⟩⟩
theorem I3 {u:bx} {m:MS} {t:Nat} {n:Node} {d:fp} {ab:Nat} {L:ML} {H:Hp} {nx:Nat} (h:wA u m t n d ab L H) (hlt:∀y∈ab::L.all,y<nx) (ht:t<m.bz.length) (hl:m.bz.length<=8) (hs:0<=n.slot/\n.slot<(m.bz.getD t []).length) (hth:0<=n.cI/\n.cI<m.mem.length):
 cU Tryz.prog 107 [.pt ab 1 0 0] H nx (fun r H' k=>r=i64 n.next/\vc u (m.eB t n.slot (m.mem.getD n.cI.toNat 0)) t n { d with cI:=n.cI,word:=m.mem.getD n.cI.toNat 0 } ab L H nx H' k):=by
 have hfr:∀(v:jz) (H1:Hp),(∀y∈ab::L.all,bt H1 y=bt H y)->[.pt ab 1 0 0,v.av].map (cw.dY H1 6)=[oq u m t n d,v.av]:=fun v H1 h1=>by
  rw[List.map_cons,List.map_cons,List.map_nil,(h.cc h1).dY,dA _ (show cH 0 v.av by simp[cH])]
 have h0:=h
 obtain⟨hM,⟨dd,ra⟩,hout⟩:=h
 obtain⟨⟨a1,a2,a3,a4,a5,b1,b2,b3,b4,c1,c2,c3,e1',e2',f1⟩,n1,n2,n3,n4,n5,n6⟩:=apart hM ht
 have hmem:=hM.mem
 have k0:=hlt ab (by simp)
 have km:=hlt L.mr (by simp)
 have ke:=hlt L.me (List.mem_cons_of_mem _ (hmem _ (by simp)))
 have kh:=hlt L.ho (List.mem_cons_of_mem _ (hmem _ (by simp)))
 have kp:=hlt L.pr (List.mem_cons_of_mem _ (hmem _ (by simp)))
 have o1:=di hout (List.mem_cons_self (a:=L.mr))
 have o2:=di hout (hmem L.me (by simp))
 have o3:=di hout (hmem L.ho (by simp))
 have o4:=di hout (hmem L.pr (by simp))
 clear a1 a2 a4 b1 b2 b3 b4 c1 c2 c3 e1' e2' f1 n1 n2 n3 n4 n5 n6
 obtain⟨d1,r1⟩:=hM.rM
 obtain⟨d3,r4⟩:=hM.rE
 obtain⟨d5,r5⟩:=hM.rH
 obtain⟨d6,r6⟩:=hM.rP
 have q1:(m.mem.map i64).length=m.mem.length:=by simp
 have q2:(m.hold.map i64).length=m.hold.length:=by simp
 have q3:(m.cA.map cy.av).length=m.cA.length:=by simp
 have e0:=fun d=>iq (l:=m.mem) (k:=n.cI) (by omega) d
 refine aJ WR rfl ?_
 refine cP ?_
 refine aG (l5 (u:=u) (t:=t) (n:=n) (d:={ d with cI:=n.cI }) (L:=L) (m:=m) (ab:=ab) ?_ ?_ ht hl hs _) ?_
 ·exact⟨hM.cc fun y hy=>by have:=di hout hy;exact cE,⟨_,bu⟩,hout⟩
 ·exact fun y hy=>Nat.lt_of_lt_of_le (hlt y hy) cX
 rintro _ H2 n2 ⟨hA,hn2,hk2⟩
 obtain⟨dd2,ra2⟩:=hA.row
 refine cP ?_
 exact⟨⟨rfl,hA.cc fun y hy=>cE,cX,fun y y1 y2 y3=>Eq.trans cE ((hk2 y (Nat.lt_of_lt_of_le y1 cX) y2 y3).trans cE)⟩⟩
theorem FB {u:bx} {m:MS} {t:Nat} {n:Node} {d:fp} {ab:Nat} {L:ML} {H:Hp} {nx:Nat} (h:wA u m t n d ab L H) (hlt:∀y∈ab::L.all,y<nx) (ht:t<m.bz.length) (hl:m.bz.length<=8) (hva:lS m t n.a) (hth:0<=n.cI/\n.cI<m.mem.length):
 cU Tryz.prog 108 [.pt ab 1 0 0] H nx (fun r H' k=>r=i64 n.next/\vc u { m with mem:=m.mem.set n.cI.toNat (m.val t n.a) } t n { d with cI:=n.cI,word:=m.val t n.a } ab L H nx H' k):=by
 have hfr:∀(v:jz) (H1:Hp),(∀y∈ab::L.all,bt H1 y=bt H y)->[.pt ab 1 0 0,v.av].map (cw.dY H1 6)=[oq u m t n d,v.av]:=fun v H1 h1=>by
  rw[List.map_cons,List.map_cons,List.map_nil,(h.cc h1).dY,dA _ (show cH 0 v.av by simp[cH])]
 have h0:=h
 obtain⟨hM,⟨dd,ra⟩,hout⟩:=h
 obtain⟨⟨a1,a2,a3,a4,a5,b1,b2,b3,b4,c1,c2,c3,e1',e2',f1⟩,n1,n2,n3,n4,n5,n6⟩:=apart hM ht
 have hmem:=hM.mem
 have k0:=hlt ab (by simp)
 have km:=hlt L.mr (by simp)
 have ke:=hlt L.me (List.mem_cons_of_mem _ (hmem _ (by simp)))
 have kh:=hlt L.ho (List.mem_cons_of_mem _ (hmem _ (by simp)))
 have kp:=hlt L.pr (List.mem_cons_of_mem _ (hmem _ (by simp)))
 have o1:=di hout (List.mem_cons_self (a:=L.mr))
 have o2:=di hout (hmem L.me (by simp))
 have o3:=di hout (hmem L.ho (by simp))
 have o4:=di hout (hmem L.pr (by simp))
 clear a1 a2 a4 b1 b2 b3 b4 c1 c2 c3 e1' e2' f1 n1 n2 n3 n4 n5 n6
 obtain⟨d1,r1⟩:=hM.rM
 obtain⟨d3,r4⟩:=hM.rE
 obtain⟨d5,r5⟩:=hM.rH
 obtain⟨d6,r6⟩:=hM.rP
 have q1:(m.mem.map i64).length=m.mem.length:=by simp
 have q2:(m.hold.map i64).length=m.hold.length:=by simp
 have q3:(m.cA.map cy.av).length=m.cA.length:=by simp
 refine aJ WU rfl ?_
 refine cP ?_
 refine aU (ab::L.all) (jl u m n d n.a ht hl hva) (fun H1 h1=>hfr n.a H1 h1) (by simp[c8,cH]) trivial ?_
 refine Eq.mpr (ur (ab::L.all) _) (sB ?_)
 refine cP ?_
 exact⟨⟨rfl,⟨hM.gI ht _ _ ⟨_,bu⟩ fun y hy hne=>by have:=di hout hy;exact cE,⟨_,bu⟩,hout⟩,cX,fun y y1 y2 y3=>by have y4:=di y3 (hmem L.me (by simp));exact cE⟩⟩
theorem D7 {u:bx} {m:MS} {t:Nat} {n:Node} {d:fp} {ab:Nat} {L:ML} {H:Hp} {nx:Nat} (h:wA u m t n d ab L H) (hlt:∀y∈ab::L.all,y<nx) (ht:t<m.bz.length) (hl:m.bz.length<=8) (hva:lS m t n.a) (hpl:m.cA.length<=1048576):
 cU Tryz.prog 112 [.pt ab 1 0 0] H nx (fun r H' k=>r=i64 n.next/\vc u { m with cA:=m.cA++[⟨t,m.val t n.a⟩] } t n { d with word:=m.val t n.a } ab L H nx H' k):=by
 have hfr:∀(v:jz) (H1:Hp),(∀y∈ab::L.all,bt H1 y=bt H y)->[.pt ab 1 0 0,v.av].map (cw.dY H1 6)=[oq u m t n d,v.av]:=fun v H1 h1=>by
  rw[List.map_cons,List.map_cons,List.map_nil,(h.cc h1).dY,dA _ (show cH 0 v.av by simp[cH])]
 have h0:=h
 obtain⟨hM,⟨dd,ra⟩,hout⟩:=h
 obtain⟨⟨a1,a2,a3,a4,a5,b1,b2,b3,b4,c1,c2,c3,e1',e2',f1⟩,n1,n2,n3,n4,n5,n6⟩:=apart hM ht
 have hmem:=hM.mem
 have k0:=hlt ab (by simp)
 have km:=hlt L.mr (by simp)
 have ke:=hlt L.me (List.mem_cons_of_mem _ (hmem _ (by simp)))
 have kh:=hlt L.ho (List.mem_cons_of_mem _ (hmem _ (by simp)))
 have kp:=hlt L.pr (List.mem_cons_of_mem _ (hmem _ (by simp)))
 have o1:=di hout (List.mem_cons_self (a:=L.mr))
 have o2:=di hout (hmem L.me (by simp))
 have o3:=di hout (hmem L.ho (by simp))
 have o4:=di hout (hmem L.pr (by simp))
 clear a1 a2 a4 b1 b2 b3 b4 c1 c2 c3 e1' e2' f1 n1 n2 n3 n4 n5 n6
 obtain⟨d1,r1⟩:=hM.rM
 obtain⟨d3,r4⟩:=hM.rE
 obtain⟨d5,r5⟩:=hM.rH
 obtain⟨d6,r6⟩:=hM.rP
 have q1:(m.mem.map i64).length=m.mem.length:=by simp
 have q2:(m.hold.map i64).length=m.hold.length:=by simp
 have q3:(m.cA.map cy.av).length=m.cA.length:=by simp
 refine aJ WY rfl ?_
 refine cP ?_
 refine aP (jl u m n d n.a ht hl hva) (hfr n.a _ ?_) (by simp[c8,cH]) trivial ?_
 ·exact fun y hy=>rfl
 refine cP ?_
 exact⟨⟨rfl,⟨hM.D6 ht _ ⟨_,by simp only[MS.rows,List.length_append,List.length_cons,List.length_nil];exact bu⟩ ⟨_,bu⟩ fun y hy hne hn2=>by have:=di hout hy;have:=hlt y (List.mem_cons_of_mem _ hy);exact cE,⟨_,bu⟩,hout⟩,cX,fun y y1 y2 y3=>by have y4:=di y3 (List.mem_cons_self (a:=L.mr));have y5:=di y3 (hmem L.pr (by simp));exact cE⟩⟩
theorem KD {u:bx} {m:MS} {t:Nat} {n:Node} {d:fp} {ab:Nat} {L:ML} {H:Hp} {nx:Nat} (h:wA u m t n d ab L H) (hlt:∀y∈ab::L.all,y<nx) (ht:t<m.bz.length) (hl:m.bz.length<=8) (hva:lS m t n.a) (hs:0<=n.slot/\n.slot<(m.bz.getD t []).length) (hth:0<=n.cI/\n.cI<m.mem.length):
 cU Tryz.prog 109 [.pt ab 1 0 0] H nx (fun r H' k=>r=i64 n.next/\vc u { m.eB t n.slot (m.mem.getD n.cI.toNat 0) with mem:=m.mem.set n.cI.toNat (m.val t n.a) } t n { d with cI:=n.cI,word:=m.mem.getD n.cI.toNat 0,put:=m.val t n.a } ab L H nx H' k):=by
 have hfr:∀(v:jz) (H1:Hp),(∀y∈ab::L.all,bt H1 y=bt H y)->[.pt ab 1 0 0,v.av].map (cw.dY H1 6)=[oq u m t n d,v.av]:=fun v H1 h1=>by
  rw[List.map_cons,List.map_cons,List.map_nil,(h.cc h1).dY,dA _ (show cH 0 v.av by simp[cH])]
 have h0:=h
 obtain⟨hM,⟨dd,ra⟩,hout⟩:=h
 obtain⟨⟨a1,a2,a3,a4,a5,b1,b2,b3,b4,c1,c2,c3,e1',e2',f1⟩,n1,n2,n3,n4,n5,n6⟩:=apart hM ht
 have hmem:=hM.mem
 have k0:=hlt ab (by simp)
 have km:=hlt L.mr (by simp)
 have ke:=hlt L.me (List.mem_cons_of_mem _ (hmem _ (by simp)))
 have kh:=hlt L.ho (List.mem_cons_of_mem _ (hmem _ (by simp)))
 have kp:=hlt L.pr (List.mem_cons_of_mem _ (hmem _ (by simp)))
 have o1:=di hout (List.mem_cons_self (a:=L.mr))
 have o2:=di hout (hmem L.me (by simp))
 have o3:=di hout (hmem L.ho (by simp))
 have o4:=di hout (hmem L.pr (by simp))
 clear a1 a2 a4 b1 b2 b3 b4 c1 c2 c3 e1' e2' f1 n1 n2 n3 n4 n5 n6
 obtain⟨d1,r1⟩:=hM.rM
 obtain⟨d3,r4⟩:=hM.rE
 obtain⟨d5,r5⟩:=hM.rH
 obtain⟨d6,r6⟩:=hM.rP
 have q1:(m.mem.map i64).length=m.mem.length:=by simp
 have q2:(m.hold.map i64).length=m.hold.length:=by simp
 have q3:(m.cA.map cy.av).length=m.cA.length:=by simp
 have e0:=fun d=>iq (l:=m.mem) (k:=n.cI) (by omega) d
 refine aJ WV rfl ?_
 refine cP ?_
 refine aU (ab::L.all) (jl u m n d n.a ht hl hva) (fun H1 h1=>hfr n.a H1 h1) (by simp[c8,cH]) trivial ?_
 refine Eq.mpr (ur (ab::L.all) _) (sB ?_)
 refine cP ?_
 refine aG (l5 (u:=u) (t:=t) (n:=n) (d:={ d with cI:=n.cI,put:=m.val t n.a }) (L:=L) (m:=m) (ab:=ab) ?_ ?_ ht hl hs _) ?_
 ·exact⟨hM.cc fun y hy=>by have:=di hout hy;exact cE,⟨_,bu⟩,hout⟩
 ·exact fun y hy=>Nat.lt_of_lt_of_le (hlt y hy) cX
 rintro _ H2 n2 ⟨hA,hn2,hk2⟩
 obtain⟨dd2,ra2⟩:=hA.row
 obtain⟨d8,r8⟩:=hA.M.rM
 obtain⟨d9,r9⟩:=hA.M.rE
 refine cP ?_
 have ht2:t<(m.eB t n.slot (m.mem.getD n.cI.toNat 0)).bz.length:=by simp only[MS.eB,List.length_set];exact ht
 exact⟨⟨rfl,⟨hA.M.gI ht2 _ _ ⟨_,bu⟩ fun y hy hne=>by have:=di hout hy;exact cE,⟨_,bu⟩,hout⟩,cX,fun y y1 y2 y3=>by have y4:=di y3 (hmem L.me (by simp));exact Eq.trans cE ((hk2 y (Nat.lt_of_lt_of_le y1 cX) y2 y3).trans cE)⟩⟩
theorem OK {u:bx} {m:MS} {t:Nat} {n:Node} {d:fp} {ab:Nat} {L:ML} {H:Hp} {nx:Nat} (h:wA u m t n d ab L H) (hlt:∀y∈ab::L.all,y<nx) (ht:t<m.bz.length) (hl:m.bz.length<=8) (hs:0<=n.slot/\n.slot<(m.bz.getD t []).length) (hva:lS m t n.a) (hvb:dv n.op=true->lS m t n.b) (hop:0<=n.op/\n.op<19):
 cU Tryz.prog 106 [.pt ab 1 0 0] H nx (fun r H' k=>r=i64 n.next/\vc u (m.eB t n.slot (m.nk t n)) t n { d with word:=m.nk t n } ab L H nx H' k):=by
 have hfr:∀(v:jz) (H1:Hp),(∀y∈ab::L.all,bt H1 y=bt H y)->[.pt ab 1 0 0,v.av].map (cw.dY H1 6)=[oq u m t n d,v.av]:=fun v H1 h1=>by
  rw[List.map_cons,List.map_cons,List.map_nil,(h.cc h1).dY,dA _ (show cH 0 v.av by simp[cH])]
 have h0:=h
 obtain⟨hM,⟨dd,ra⟩,hout⟩:=h
 obtain⟨⟨a1,a2,a3,a4,a5,b1,b2,b3,b4,c1,c2,c3,e1',e2',f1⟩,n1,n2,n3,n4,n5,n6⟩:=apart hM ht
 have hmem:=hM.mem
 have k0:=hlt ab (by simp)
 have km:=hlt L.mr (by simp)
 have ke:=hlt L.me (List.mem_cons_of_mem _ (hmem _ (by simp)))
 have kh:=hlt L.ho (List.mem_cons_of_mem _ (hmem _ (by simp)))
 have kp:=hlt L.pr (List.mem_cons_of_mem _ (hmem _ (by simp)))
 have o1:=di hout (List.mem_cons_self (a:=L.mr))
 have o2:=di hout (hmem L.me (by simp))
 have o3:=di hout (hmem L.ho (by simp))
 have o4:=di hout (hmem L.pr (by simp))
 clear a1 a2 a4 b1 b2 b3 b4 c1 c2 c3 e1' e2' f1 n1 n2 n3 n4 n5 n6
 obtain⟨d1,r1⟩:=hM.rM
 obtain⟨d3,r4⟩:=hM.rE
 obtain⟨d5,r5⟩:=hM.rH
 obtain⟨d6,r6⟩:=hM.rP
 have q1:(m.mem.map i64).length=m.mem.length:=by simp
 have q2:(m.hold.map i64).length=m.hold.length:=by simp
 have q3:(m.cA.map cy.av).length=m.cA.length:=by simp
 have c0:=gA n.op hop.1
 unfold MS.nk
 cases h2:dv n.op with
 |true=>
  rw[h2] at c0
  have c1:=SY n.op (m.val t n.a) (m.val t n.b) h2
  have hvb:=hvb h2
  rw[if_pos rfl]
  refine aJ NG rfl ?_
  refine cP ?_
  refine aP (jl u m n d n.a ht hl hva) (hfr n.a _ ?_) (by simp[c8,cH]) trivial ?_
  ·exact fun y hy=>rfl
  refine cP ?_
  refine aU (ab::L.all) (jl u m n d n.b ht hl hvb) (fun H1 h1=>hfr n.b H1 h1) (by simp[c8,cH]) trivial ?_
  refine Eq.mpr (ur (ab::L.all) _) (sB ?_)
  refine cP ?_
  refine aG (l5 (u:=u) (t:=t) (n:=n) (d:=d) (L:=L) (m:=m) (ab:=ab) ?_ ?_ ht hl hs _) ?_
  ·exact⟨hM.cc fun y hy=>by have:=di hout hy;exact cE,⟨_,bu⟩,hout⟩
  ·exact fun y hy=>Nat.lt_of_lt_of_le (hlt y hy) cX
  rintro _ H2 n2 ⟨hA,hn2,hk2⟩
  obtain⟨dd2,ra2⟩:=hA.row
  refine cP ?_
  exact⟨⟨rfl,hA.cc fun y hy=>cE,cX,fun y y1 y2 y3=>Eq.trans cE ((hk2 y (Nat.lt_of_lt_of_le y1 cX) y2 y3).trans cE)⟩⟩
 |false=>
  rw[h2] at c0
  rw[if_neg (by decide)]
  by_cases h0':n.op=0
  ·rw[if_neg (fun e=>e h0')]
   refine aJ NG rfl ?_
   refine cP ?_
   refine aP (jl u m n d n.a ht hl hva) (hfr n.a _ ?_) (by simp[c8,cH]) trivial ?_
   ·exact fun y hy=>rfl
   refine cP ?_
   refine aG (l5 (u:=u) (t:=t) (n:=n) (d:=d) (L:=L) (m:=m) (ab:=ab) ?_ ?_ ht hl hs _) ?_
   ·exact⟨hM.cc fun y hy=>by have:=di hout hy;exact cE,⟨_,bu⟩,hout⟩
   ·exact fun y hy=>Nat.lt_of_lt_of_le (hlt y hy) cX
   rintro _ H2 n2 ⟨hA,hn2,hk2⟩
   obtain⟨dd2,ra2⟩:=hA.row
   refine cP ?_
   exact⟨⟨rfl,hA.cc fun y hy=>cE,cX,fun y y1 y2 y3=>Eq.trans cE ((hk2 y (Nat.lt_of_lt_of_le y1 cX) y2 y3).trans cE)⟩⟩
  ·rw[if_pos h0']
   have c1:=PE n.op (m.val t n.a) (by unfold dv at h2;simp only[Bool.and_eq_false_iff,decide_eq_false_iff_not] at h2;omega)
   refine aJ NG rfl ?_
   refine cP ?_
   refine aP (jl u m n d n.a ht hl hva) (hfr n.a _ ?_) (by simp[c8,cH]) trivial ?_
   ·exact fun y hy=>rfl
   refine cP ?_
   refine aG (l5 (u:=u) (t:=t) (n:=n) (d:=d) (L:=L) (m:=m) (ab:=ab) ?_ ?_ ht hl hs _) ?_
   ·exact⟨hM.cc fun y hy=>by have:=di hout hy;exact cE,⟨_,bu⟩,hout⟩
   ·exact fun y hy=>Nat.lt_of_lt_of_le (hlt y hy) cX
   rintro _ H2 n2 ⟨hA,hn2,hk2⟩
   obtain⟨dd2,ra2⟩:=hA.row
   refine cP ?_
   exact⟨⟨rfl,hA.cc fun y hy=>cE,cX,fun y y1 y2 y3=>Eq.trans cE ((hk2 y (Nat.lt_of_lt_of_le y1 cX) y2 y3).trans cE)⟩⟩
section
def lU (k:Int):Nat:=if k=1 then 106 else if k=2 then 107 else if k=3 then 108 else if k=4 then 109 else if k=5 then 110 else if k=6 then 111 else if k=7 then 112 else 113
def tV:AV:= .agg [.sc .nilFunc, .fn (.func 106) [] [], .fn (.func 107) [] [], .fn (.func 108) [] [], .fn (.func 109) [] [], .fn (.func 110) [] [], .fn (.func 111) [] [], .fn (.func 112) [] [], .fn (.func 113) [] [], .sc .nilFunc]
theorem x6:Pure Tryz.prog 70 [] (fun r=>r=tV):=by
 refine cp ?_ (by simp[tV,cH,c8])
 refine aJ aAc rfl ?_
 refine cP ?_
 exact⟨rfl⟩
def tU (m:MS) (t:Nat) (n:Node) (d:fp):fp:={ d with cI:=(m.act t n).2.2.1,word:=(m.act t n).2.2.2.1,put:=(m.act t n).2.2.2.2 }
structure FH (m:MS) (t:Nat) (n:Node):Prop where
 kind:1<=n.kind/\n.kind<=8
 slot:n.kind=1\/n.kind=2\/n.kind=4->0<=n.slot/\n.slot<(m.bz.getD t []).length
 mem:n.kind=2\/n.kind=3\/n.kind=4->0<=n.cI/\n.cI<m.mem.length
 hold:n.kind=5\/n.kind=6->0<=n.cI/\n.cI<m.hold.length
 a:n.kind=1\/n.kind=3\/n.kind=4\/n.kind=7\/n.kind=8->lS m t n.a
 b:n.kind=1->dv n.op=true->lS m t n.b
 op:n.kind=1->0<=n.op/\n.op<19
theorem GW {v:jz} {g:Int} {m:MS} {t:Nat} (h:pe v true g=true) (hl:((m.bz.getD t []).length:Int)=g):lS m t v:=by
 intro hs
 unfold pe at h
 rw[if_pos rfl,if_pos hs] at h
 simp only[Bool.and_eq_true,decide_eq_true_eq] at h
 omega
theorem eN.R5 {u:bx} {m:MS} {t:Nat} (hu:u.Wf) (hr:cg u) (h:eN u m) (ht:t<u.bw.length) (hk:(m.node u t).kind≠9):FH m t (m.node u t):=by
 have hn:=h.node hr ht
 have hw:=GH hu h ht
 have hsl:=h.B5 t ht
 have hg:=(hr.gr ht).bz
 have hg2:=(hr.gr ht).locals
 have hml:=h.ml
 have hhl:=h.hl
 generalize m.node u t=n at *
 have hkd:=hn.kind
 have hlen:(((m.bz.getD t []).length:Nat):Int)=(u.gr t).bz:=by rw[hsl];omega
 refine⟨by omega,fun e=> ?_,fun e=> ?_,fun e=> ?_,fun e=> ?_,fun e e2=> ?_,fun e=> ?_⟩
 ·have:=hn.slot.1 (by unfold j0;exact decide_eq_true (by omega));omega
 ·have:=hn.cI.1 (by unfold ej;exact decide_eq_true (by omega))
  rw[if_neg (by omega)] at this;omega
 ·have:=hn.cI.1 (by unfold ej;exact decide_eq_true (by omega))
  rw[if_pos (by omega)] at this;omega
 ·have:=hn.a
  rw[show nt n.kind=true by unfold nt;exact decide_eq_true (by omega)] at this
  exact GW this hlen
 ·have:=hn.b
  rw[e2,decide_eq_true e] at this
  exact GW this hlen
 ·exact⟨hw.op.1,hn.op.1 e⟩
section
variable {u:bx} {m:MS} {t:Nat} {n:Node} {d:fp} {ab:Nat} {L:ML} {H:Hp} {nx:Nat}
theorem K1 (h:wA u m t n d ab L H) (hlt:∀y∈ab::L.all,y<nx) (ht:t<m.bz.length) (hl:m.bz.length<=8) (ha:FH m t n) (hpl:m.cA.length<=1048576) (hd:d.cI=0/\d.word=0/\d.put=0):
 cU Tryz.prog (lU n.kind) [.pt ab 1 0 0] H nx (fun r H' k=>r=i64 (m.act t n).2.1/\vc u (m.act t n).1 t n (tU m t n d) ab L H nx H' k):=by
 obtain⟨d1,d2,d3⟩:=hd
 have hk:n.kind=1\/n.kind=2\/n.kind=3\/n.kind=4\/n.kind=5\/n.kind=6\/n.kind=7\/n.kind=8:=by have:=ha.kind;omega
 obtain⟨t0,a0,k0,th,w0,p0⟩:=d
 dsimp only at d1 d2 d3
 subst d1 d2 d3
 have hop:=ha.op
 rcases hk with e|e|e|e|e|e|e|e
 ·have:=OK h hlt ht hl (ha.slot (by omega)) (ha.a (by omega)) (ha.b e) (hop e)
  simp only[lU,tU,MS.act,e];exact this
 ·have:=I3 h hlt ht hl (ha.slot (by omega)) (ha.mem (by omega))
  simp only[lU,tU,MS.act,e];exact this
 ·have:=FB h hlt ht hl (ha.a (by omega)) (ha.mem (by omega))
  simp only[lU,tU,MS.act,e];exact this
 ·have:=KD h hlt ht hl (ha.a (by omega)) (ha.slot (by omega)) (ha.mem (by omega))
  simp only[lU,tU,MS.act,e];exact this
 ·have:=I4 h hlt ht hl (ha.hold (by omega))
  simp only[lU,tU,MS.act,e];exact this
 ·have:=BV h hlt ht hl (ha.hold (by omega))
  simp only[lU,tU,MS.act,e];exact this
 ·have:=D7 h hlt ht hl (ha.a (by omega)) hpl
  simp only[lU,tU,MS.act,e];exact this
 ·have:=zF h hlt ht hl (ha.a (by omega))
  simp only[lU,tU,MS.act,e];exact this
end
abbrev oN (d:Nat) (o:df):iY:=⟨some d,none,o⟩
def AZ:List iY:=[oN 50 (.mv (.t 0)),oN 51 (.UC (.t 50)),oN 52 (.fa 3 (.t 51)),oN 53 (.ld false 1 (.t 52)),oN 54 (.mv (.t 1)),oN 55 (.call (.f 70) []),oN 56 (.mv (.t 8)),oN 57 (.UC (.t 56)),oN 58 (.fa 2 (.t 57)),oN 59 (.fa 0 (.t 58)),oN 60 (.ld false 1 (.t 59)),oN 61 (.ix 1 false 10 (.t 55) (.t 60)),oN 62 (.mv (.t 8)),oN 63 (.call (.t 61) [.t 62])]
def psS:List (Nat×Nat):=[(2,5),(3,5),(5,8),(5,9),(5,10),(2,13),(3,13)]
def BX (L:ML) (m:MS) (t:Nat) (n:Node) (ab:Nat) (i:Nat):AV:=
 [.pt L.mr 1 0 0, .pt L.mr 1 0 0, .pt L.mr 1 0 3, .sl L.a m.at_.length,i64 t,tV, .pt ab 1 0 0, .pt ab 1 0 0, .pt ab 1 0 2, .pt ab 1 0 2,u8 n.kind, .fn (.func (lU n.kind)) [] [], .pt ab 1 0 0,i64 (m.act t n).2.1].getD i .any
structure VK (u:bx) (m:MS) (t:Nat) (n:Node) (d:fp) (ab:Nat) (L:ML) (H0:Hp) (lo:Nat) (D:Nat->Bool) (H:Hp) (nx:Nat):Prop where
 lw:lo<=nx
 same:∀y,y<lo->y≠ab->y∉L.all->bt H y=bt H0 y
 m0:D 13=false->wA u m t n d ab L H
 m1:D 13=true->wA u (m.act t n).1 t n (tU m t n d) ab L H
section
variable {u:bx} {m:MS} {t:Nat} {n:Node} {d:fp} {ab:Nat} {L:ML} {H0 H:Hp} {lo nx:Nat} {D:Nat->Bool}
theorem VK.look (h:VK u m t n d ab L H0 lo D H nx) {i:Nat} (hi:i≠13) {nx':Nat} (hn:nx<=nx'):VK u m t n d ab L H0 lo (fun k=>D k||k==i) H nx':=by
 have e:(13==i)=false:=by simpa using Ne.symm hi
 refine⟨Nat.le_trans h.lw hn,h.same, ?_, ?_⟩
 ·simp only[e,Bool.or_false];exact h.m0
 ·simp only[e,Bool.or_false];exact h.m1
theorem xY {u:bx} (m:MS) (t:Nat) (n:Node):(m.act t n).1.at_=m.at_:=by
 unfold MS.act
 repeat' split
 all_goals rfl
theorem G6 {k:Int} (h:1<=k/\k<=8):([.sc .nilFunc, .fn (.func 106) [] [], .fn (.func 107) [] [], .fn (.func 108) [] [], .fn (.func 109) [] [], .fn (.func 110) [] [], .fn (.func 111) [] [], .fn (.func 112) [] [], .fn (.func 113) [] [], .sc .nilFunc]:List AV).getD k.toNat .any= .fn (.func (lU k)) [] []:=by
 have:k=1\/k=2\/k=3\/k=4\/k=5\/k=6\/k=7\/k=8:=by omega
 rcases this with rfl|rfl|rfl|rfl|rfl|rfl|rfl|rfl<;>rfl
set_option maxHeartbeats 2000000 in
theorem ZU {fr0:Fr} (hlt:∀y∈ab::L.all,y<lo) (ht:t<m.bz.length) (hl:m.bz.length<=8) (ha:FH m t n) (hpl:m.cA.length<=1048576) (hd:d.cI=0/\d.word=0/\d.put=0)
 (h0:cq fr0 0= .pt L.mr 1 0 0) (h1:cq fr0 1=i64 t) (h8:cq fr0 8= .pt ab 1 0 0):
 G3 Tryz.prog AZ psS (fun D fr H nx=>∃θ:Unit,Z6 AZ D (BX L m t n ab) fr0 fr/\VK u m t n d ab L H0 lo D H nx):=by
 refine G3.of (Θ:=Unit) (fun _=>BX L m t n ab) (fun _=>VK u m t n d ab L H0 lo) fr0 (by decide) ?_
 intro i gg θ D fr H nx hi hD hp hs hv hh
 have hk:i<14:=by have:=(List.getElem?_eq_some_iff.1 hi).1;simpa[AZ] using this
 have q:∀(j:Nat) (g':iY) (t':Nat),AZ[j]?=some g'->g'.dst=some t'->j<i->CX AZ psS j i=true->cq fr t'=BX L m t n ab j:=fun j g' t' h1 h2 h3 h4=>hv.val j g' t' h1 (hp j h3 h4) h2
 have f0:cq fr 0= .pt L.mr 1 0 0:=(hv.iB 0 (by decide)).trans h0
 have f1:cq fr 1=i64 t:=(hv.iB 1 (by decide)).trans h1
 have f8:cq fr 8= .pt ab 1 0 0:=(hv.iB 8 (by decide)).trans h8
 have hlw:=hh.lw
 have row:∃d,(∃d2,bt H ab=some (.row 118 21 d2 [.agg (AC (.pt L.mr 1 0 0) t n d)])):=by
  cases h13:D 13 with
  |false=>exact⟨_,(hh.m0 h13).row⟩
  |true=>exact⟨_,(hh.m1 h13).row⟩
 have mrow:∃(m':MS),m'.at_.length=m.at_.length/\∃d2,bt H L.mr=some (.row 114 8 d2 [m'.rows u L.a L.s L.me L.ho L.pr]):=by
  cases h13:D 13 with
  |false=>exact⟨_,rfl,(hh.m0 h13).M.rM⟩
  |true=>exact⟨_,by rw[xY (u:=u)],(hh.m1 h13).M.rM⟩
 obtain⟨dx,d2,ra⟩:=row
 obtain⟨m',hm',d3,rm⟩:=mrow
 have cases:i=0\/i=1\/i=2\/i=3\/i=4\/i=5\/i=6\/i=7\/i=8\/i=9\/i=10\/i=11\/i=12\/i=13:=by omega
 rcases cases with rfl|rfl|rfl|rfl|rfl|rfl|rfl|rfl|rfl|rfl|rfl|rfl|rfl|rfl<;>(obtain rfl:_=gg:=by simpa[AZ] using hi)
 ·exact eL.look (by simp) (r:= .pt L.mr 1 0 0) (by simp only[cM,ev];rw[f0]) ⟨θ,fun _ _=>rfl,rfl,hh.look (by decide) (Nat.le_succ _)⟩
 ·have p:=q 0 _ 50 rfl rfl (by decide) (by decide)
  exact eL.look (by simp) (r:= .pt L.mr 1 0 0) (by simp only[cM,ev];rw[p];rfl) ⟨θ,fun _ _=>rfl,rfl,hh.look (by decide) (Nat.le_succ _)⟩
 ·have p:=q 1 _ 51 rfl rfl (by decide) (by decide)
  exact eL.look (by simp) (r:= .pt L.mr 1 0 3) (by simp only[cM,ev];rw[p];simp[BX,rm]) ⟨θ,fun _ _=>rfl,rfl,hh.look (by decide) (Nat.le_succ _)⟩
 ·have p:=q 2 _ 52 rfl rfl (by decide) (by decide)
  exact eL.look (by simp) (r:= .sl L.a m.at_.length) (by simp only[cM,ev];rw[p];simp[BX,k9,rm,AF,MS.rows,hm']) ⟨θ,fun _ _=>rfl,rfl,hh.look (by decide) (Nat.le_succ _)⟩
 ·exact eL.look (by simp) (r:=i64 t) (by simp only[cM,ev];rw[f1]) ⟨θ,fun _ _=>rfl,rfl,hh.look (by decide) (Nat.le_succ _)⟩
 ·show cU Tryz.prog 70 ([]++[]++[]) H nx _
  refine x6.dN (by simp[c8]) ?_
  rintro r rfl
  exact⟨θ,fun _ _=>rfl,rfl,hh.look (by decide) (Nat.le_refl _)⟩
 ·exact eL.look (by simp) (r:= .pt ab 1 0 0) (by simp only[cM,ev];rw[f8]) ⟨θ,fun _ _=>rfl,rfl,hh.look (by decide) (Nat.le_succ _)⟩
 ·have p:=q 6 _ 56 rfl rfl (by decide) (by decide)
  exact eL.look (by simp) (r:= .pt ab 1 0 0) (by simp only[cM,ev];rw[p];rfl) ⟨θ,fun _ _=>rfl,rfl,hh.look (by decide) (Nat.le_succ _)⟩
 ·have p:=q 7 _ 57 rfl rfl (by decide) (by decide)
  exact eL.look (by simp) (r:= .pt ab 1 0 2) (by simp only[cM,ev];rw[p];simp[BX,ra]) ⟨θ,fun _ _=>rfl,rfl,hh.look (by decide) (Nat.le_succ _)⟩
 ·have p:=q 8 _ 58 rfl rfl (by decide) (by decide)
  exact eL.look (by simp) (r:= .pt ab 1 0 2) (by simp only[cM,ev];rw[p];simp[BX,ra]) ⟨θ,fun _ _=>rfl,rfl,hh.look (by decide) (Nat.le_succ _)⟩
 ·have p:=q 9 _ 59 rfl rfl (by decide) (by decide)
  exact eL.look (by simp) (r:=u8 n.kind) (by simp only[cM,ev];rw[p];simp[BX,k9,ra,AF,AC]) ⟨θ,fun _ _=>rfl,rfl,hh.look (by decide) (Nat.le_succ _)⟩
 ·have p:=q 5 _ 55 rfl rfl (by decide) (by decide)
  have p2:=q 10 _ 60 rfl rfl (by decide) (by decide)
  have hkk:=ha.kind
  refine eL.look (by simp) (r:= .fn (.func (lU n.kind)) [] []) ?_ ⟨θ,fun _ _=>rfl,rfl,hh.look (by decide) (Nat.le_succ _)⟩
  have p3:cq fr 55=tV:=p
  have p4:cq fr 60=u8 n.kind:=p2
  have ht:=G6 hkk
  simp only[cM,ev,p3,p4,tV,Nat.mul_one,Bool.false_eq_true,if_false,if_true,List.length_cons,List.length_nil]
  rw[if_pos ⟨by omega,(show n.kind<10 by omega),trivial⟩,ht]
 ·exact eL.look (by simp) (r:= .pt ab 1 0 0) (by simp only[cM,ev];rw[f8]) ⟨θ,fun _ _=>rfl,rfl,hh.look (by decide) (Nat.le_succ _)⟩
 ·have p:=q 11 _ 61 rfl rfl (by decide) (by decide)
  have p2:=q 12 _ 62 rfl rfl (by decide) (by decide)
  show tM Tryz.prog (cq fr 61) [cq fr 62] H nx _
  rw[p,p2]
  show cU Tryz.prog (lU n.kind) ([]++[.pt ab 1 0 0]++[]) H nx _
  refine(K1 (hh.m0 hD) (fun y hy=>Nat.lt_of_lt_of_le (hlt y hy) hlw) ht hl ha hpl hd).mono ?_
  rintro r' H' n' ⟨rfl,hA,hn,hk2⟩
  exact⟨θ,fun _ _=>rfl,rfl,Nat.le_trans hlw hn,fun y h1 h2 h3=>(hk2 y (Nat.lt_of_lt_of_le h1 hlw) h2 h3).trans (hh.same y h1 h2 h3),fun hx=>by simp at hx,fun _=>hA⟩
end
end
section
section
variable {u:bx} {m:MS} {t:Nat} {n:Node} {d:fp} {L:ML} {H:Hp} {nx:Nat}
abbrev VQ:fp:=⟨0,0,0,0,0,0⟩
theorem CY {fr0:Fr} {H0:Hp} {lo ab:Nat} {Q:QT} (hlt:∀y∈ab::L.all,y<lo) (ht:t<m.bz.length) (htl:t<m.at_.length) (hl:m.bz.length<=8) (ha:FH m t n) (hpl:m.cA.length<=1048576) (hd:d.cI=0/\d.word=0/\d.put=0)
 (h0:cq fr0 0= .pt L.mr 1 0 0) (h1:cq fr0 1=i64 t) (h8:cq fr0 8= .pt ab 1 0 0) (hA:wA u m t n d ab L H0)
 (hK:∀f1 H1 n1,cq f1 8= .pt ab 1 0 0->cq f1 4=cq fr0 4->wA u { (m.act t n).1 with at_:=m.at_.set t (m.act t n).2.1 } t n (tU m t n d) ab L H1->lo<=n1->(∀y,y<lo->y≠ab->y∉L.all->bt H1 y=bt H0 y)->∃f',k7 f1 f'/\Go (Q .normal f' H1 n1)):
 gZ Tryz.prog [⟨AZ,psS⟩,⟨[oN 64 (.ia 1 none (.t 53) (.t 54))],[]⟩,⟨[⟨none,none, .st false 1 (.t 64) (.t 63)⟩],[]⟩] fr0 H0 lo Q:=by
 refine gZ.ZT (ZU (u:=u) (d:=d) (H0:=H0) (lo:=lo) hlt ht hl ha hpl hd h0 h1 h8) ⟨(),⟨fun i g t' _ hL=>(by cases hL),fun t' _=>rfl⟩,⟨Nat.le_refl _,fun y _ _ _=>rfl,fun _=>hA,fun hx=>(by cases hx)⟩⟩ ?_
 intro D fr' H' n' hall ⟨_,hv,hh⟩
 have v:=fun(j:Nat) (g':iY) (t':Nat) (h1:AZ[j]?=some g') (h2:g'.dst=some t') (h3:j<14)=>hv.val j g' t' h1 (hall j h3) h2
 have p53:cq fr' 53= .sl L.a m.at_.length:=v 3 _ 53 rfl rfl (by decide)
 have p54:cq fr' 54=i64 t:=v 4 _ 54 rfl rfl (by decide)
 have p63:cq fr' 63=i64 (m.act t n).2.1:=v 13 _ 63 rfl rfl (by decide)
 have p8:cq fr' 8= .pt ab 1 0 0:=(hv.iB 8 (by decide)).trans h8
 have p4:cq fr' 4=cq fr0 4:=hv.iB 4 (by decide)
 have hA2:=hh.m1 (hall 13 (by decide))
 have q1:(m.at_.map i64).length=m.at_.length:=by simp
 obtain⟨d3,r3⟩:=hA2.M.rA
 rw[xY (u:=u)] at r3
 have hlw:=hh.lw
 have hs:=hh.same
 have hout:=hA2.out
 have hsl2:(m.act t n).1.bz.length=m.bz.length:=by
  unfold MS.act
  repeat' split
  all_goals first|rfl|(simp only[MS.eB,List.length_set])
 have hmem:=hA2.M.mem
 show eL Tryz.prog n' fr' H' (.ia 1 none (.t 53) (.t 54)) (fun r H' nx'=>eL Tryz.prog nx' (gR fr' (some 64) r) H' (.st false 1 (.t 64) (.t 63)) (fun r2 H2 n2=>∃f',k7 (gR (gR fr' (some 64) r) none r2) f'/\Go (Q .normal f' H2 n2)))
 refine eL.look (op:= .ia 1 none (.t 53) (.t 54)) (r:= .pt L.a m.at_.length t 0) (fun f as2 h=>by cases h) ?_ ?_
 ·simp only[cM,ev]
  rw[p53,p54]
  simp only[KS,r3]
  rw[if_pos ⟨q1,trivial,by omega,by omega⟩]
  simp
 refine eL.act (op:= .st false 1 (.t 64) (.t 63)) (r:= .any) (u:=(L.a, .row 3 1 d3 ((m.at_.map i64).set t (i64 (m.act t n).2.1)))) (fun f as2 h=>by cases h) ?_ ?_
 ·have e1:ev (gR fr' (some 64) (.pt L.a m.at_.length t 0)) (.t 64)= .pt L.a m.at_.length t 0:=rfl
  have e2:ev (gR fr' (some 64) (.pt L.a m.at_.length t 0)) (.t 63)=i64 (m.act t n).2.1:=p63
  simp only[cM]
  rw[e1,e2]
  simp only[r3]
  rw[if_pos q1,show(m.at_.map i64).getD t d3=i64 (m.at_.getD t 0) from cx i64 m.at_ t d3 htl]
  rfl
 refine hK _ _ _ p8 p4 ⟨?_, ?_,hout⟩ (by omega) (fun y y1 y2 y3=> ?_)
 ·have:=hA2.M.G8 (H':=(L.a,some (.row 3 1 d3 ((m.at_.map i64).set t (i64 (m.act t n).2.1))))::H') (t:=t) (by rw[hsl2];exact ht) t (m.act t n).2.1 ⟨d3,by rw[xY (u:=u)];exact bu⟩ (fun y hy hne=>cE)
  rw[xY (u:=u)] at this
  exact this
 ·obtain⟨d4,r4⟩:=hA2.row
  have:=di hout (hmem L.a (by simp))
  exact⟨d4,bu⟩
 ·have:=di y3 (hmem L.a (by simp))
  exact Eq.trans cE (hs y y1 y2 y3)
theorem O1 (hM:L.At u m H) (t:Int) {H1:Hp} (h1:∀y∈L.all,bt H1 y=bt H y):[.pt L.mr 1 0 0,i64 t].map (cw.dY H1 6)=[m.fz u,i64 t]:=by
 rw[List.map_cons,List.map_cons,List.map_nil,(hM.cc h1).DA 2,dA _ (show cH 0 (i64 t) by simp[cH])]
theorem OP (hr:cg u) (h:eN u m) (hM:L.At u m H) (hlt:∀y∈L.all,y<nx) (t:Int) (hb:m.jR u t≠0):
 cU Tryz.prog 31 [.pt L.mr 1 0 0,i64 t] H nx (fun r H' k=>r= .dI [VQ.av,i64 (m.jR u t)]/\nx<=k/\∀y,y<nx->bt H' y=bt H y):=by
 refine aJ YY rfl ?_
 have r0:=decide_eq_true hb
 refine cP ?_
 refine aP (xg u hr m h t) (O1 hM t ?_) (by simp[c8,cH,pO]) trivial ?_
 ·exact fun y hy=>by have:=hlt y hy;exact cE
 refine cP ?_
 exact⟨⟨rfl,cX,fun y hy=>cE⟩⟩
set_option maxHeartbeats 4000000 in
theorem xK (hu:u.Wf) (hr:cg u) (h:eN u m) (hM:L.At u m H) (hlt:∀y∈L.all,y<nx) (hpl:m.cA.length<=1048576) (ht:t<u.bw.length) (hb:m.jR u t=0):
 cU Tryz.prog 31 [.pt L.mr 1 0 0,i64 t] H nx (fun r H' k=>r= .dI [(m.step u t).2.av,i64 0]/\L.At u (m.step u t).1 H'/\nx<=k/\∀y,y<nx->y∉L.all->bt H' y=bt H y):=by
 refine aJ YY rfl ?_
 obtain⟨hk9,_⟩:=jW h ht hb
 have hgl:=hr.oh
 have hao:=h.R5 hu hr ht hk9
 have hsl:m.bz.length<=8:=by rw[h.sl];omega
 have hts:t<m.bz.length:=by rw[h.sl];exact ht
 have hal:=h.nG
 obtain⟨p0,p1⟩:=h.iS t ht
 have hap:=apart hM hts
 have hmem:=hM.mem
 have km:=hlt L.mr (by simp)
 have ka:=hlt L.a (hmem _ (by simp))
 have hma:L.mr≠L.a:=hap.ne.1
 obtain⟨d1,r1⟩:=hM.rM
 obtain⟨d2,r2⟩:=hM.rA
 have e0:=fun d=>ints_at (l:=m.at_) (k:=t) (by omega) d
 have e1:=fun d=>nV (l:=u.bw) ht d
 obtain⟨j,hj⟩:∃j:Nat,m.at_.getD t 0=j:=⟨(m.at_.getD t 0).toNat,by omega⟩
 rw[hj] at e0 p1
 have hnd:m.node u t=(u.gr t).nd j:=by unfold MS.node;rw[hj,Int.toNat_natCast]
 rw[show u.bw.getD t default=u.gr t from rfl] at e1
 have e2:=fun d=>gm (l:=(u.gr t).nodes) (i:=j) (by omega) d
 rw[show(u.gr t).nodes.getD j default=m.node u t by rw[hnd]] at e2
 have hat:m.at_.getD t 0=(j:Int):=hj
 have q1:(m.at_.map i64).length=m.at_.length:=by simp
 have q2:(u.bw.map cG.av).length=u.bw.length:=by simp
 have q3:((u.gr t).nodes.map Node.av).length=(u.gr t).nodes.length:=by simp
 have hst:m.step u t=({ (m.act t (m.node u t)).1 with at_:=m.at_.set t (m.act t (m.node u t)).2.1 },⟨t,j,(m.node u t).kind,(m.act t (m.node u t)).2.2.1,(m.act t (m.node u t)).2.2.2.1,(m.act t (m.node u t)).2.2.2.2⟩):=by
  unfold MS.step;rw[hj]
 rw[hst]
 generalize m.node u t=n at *
 have c9:(0:Int)=0:=rfl
 refine PJ ?_
 refine aP (xg u hr m h t) (O1 hM t ?_) (by simp[c8,cH,pO]) trivial ?_
 ·exact fun y hy=>by have:=hlt y hy;exact cE
 rw[hb]
 refine PJ ?_
 refine CY (u:=u) (m:=m) (t:=t) (n:=n) (d:=⟨t,j,n.kind,0,0,0⟩) (ab:=nx+30) (L:=L) ?_ hts (by omega) hsl hao hpl ⟨rfl,rfl,rfl⟩ rfl rfl rfl ⟨hM.cc ?_,⟨_,bu⟩, ?_⟩ ?_
 ·intro y hy
  rcases List.mem_cons.1 hy with rfl|hy
  ·exact cX
  ·have:=hlt y hy;exact cX
 ·intro y hy
  have:=hlt y hy;exact cE
 ·intro hy
  have:=hlt _ hy;omega
 intro f1 H1 n1 p8 p4 hA hn hs
 refine⟨[(8, .pt (nx+30) 1 0 0),(4, .pt nx 1 0 0)],⟨p8,p4,trivial⟩, ?_⟩
 obtain⟨d5,r5⟩:=hA.row
 have r6:bt H1 nx=some (.row 53 6 (gO true [.int .i64 0, .int .i64 0, .int .u8 0, .int .i64 0, .int .i64 0, .int .i64 0]) [gO true [.int .i64 0, .int .i64 0, .int .u8 0, .int .i64 0, .int .i64 0, .int .i64 0]]):=(hs nx cX (by omega) (fun hy=>by have:=hlt _ hy;omega)).trans bu
 refine cP ?_
 refine⟨⟨rfl,hA.M.cc fun y hy=> ?_,cX,fun y y1 y2=> ?_⟩⟩
 ·have:=hlt y hy;exact cE
 ·exact Eq.trans cE ((hs y cX (by omega) y2).trans cE)
end
end
theorem CM {es:List AV} (hf:c8 0 es) (hl:es.length * 32<=140737488355328):cU Tryz.prog 84 [.im 3 .any es] [] 0 (fun r H _=>cw.dY H 6 r= .sc (.slice none 0 0)/\es=[]\/cw.dY H 6 r= .im 3 .any es):=by
 refine aJ aAm rfl ?_
 cases es with
 |nil=>
  refine cP ?_
  refine⟨sB ?_,sB ?_⟩
  ·refine cP ?_
   exact⟨.inl ⟨rfl,rfl⟩⟩
  ·refine cP ?_
   exact⟨.inr rfl⟩
 |cons x t=>
  have a0:(x::t).length * 32<=iA:=Nat.le_trans hl (by unfold iA;omega)
  simp only[List.length_cons] at hl
  refine cP ?_
  refine⟨.inr ((dH (e:=85) (sz:=3) (es:=x::t) bu (Nat.zero_add _).symm).trans ?_)⟩
  rw[cn _ hf]
theorem CN {es:List AV} (hf:c8 0 es) (hl:es.length * 96<=140737488355328):cU Tryz.prog 85 [.im 13 .any es] [] 0 (fun r H _=>cw.dY H 6 r= .sc (.slice none 0 0)/\es=[]\/cw.dY H 6 r= .im 13 .any es):=by
 refine aJ aAn rfl ?_
 cases es with
 |nil=>
  refine cP ?_
  refine⟨sB ?_,sB ?_⟩
  ·refine cP ?_
   exact⟨.inl ⟨rfl,rfl⟩⟩
  ·refine cP ?_
   exact⟨.inr rfl⟩
 |cons x t=>
  have a0:(x::t).length * 96<=iA:=Nat.le_trans hl (by unfold iA;omega)
  simp only[List.length_cons] at hl
  refine cP ?_
  refine⟨.inr ((dH (e:=65) (sz:=13) (es:=x::t) bu (Nat.zero_add _).symm).trans ?_)⟩
  rw[cn _ hf]
theorem qB (l:List Decl) (hl:l.length * 32<=140737488355328):Pure Tryz.prog 84 [cF l] (fun r=>r=cF l):=
 mV (by simp[cH,cD]) (CM ((cD _ _).2 fun _ _=>by simp[cH]) (by rw[List.length_map];exact hl))
theorem xj (l:List Node) (hl:l.length * 96<=140737488355328):Pure Tryz.prog 85 [jh l] (fun r=>r=jh l):=
 mV (by simp[cH,cD]) (CN ((cD _ _).2 fun _ _=>by simp[cH]) (by rw[List.length_map];exact hl))
theorem Q1 (u:bx) (hu:u.Wf) (hr:¬cg u):Pure Tryz.prog 48 [u.av] (fun r=>r= .dI [.sc (.pointer none),i64 60]):=by
 have c0:=mG u hu
 have hb:=pH hr
 generalize gQ u=ck at *
 obtain⟨x,y,z⟩:=ck
 dsimp only at hb
 subst hb
 refine aD Y0 rfl ?_
 refine cP ?_
 first|exact rfl|trivial
theorem L5 {α:Type} (a b:α) (n i:Nat) (h:i<n):(List.replicate i a++List.replicate (n - i) b).set i a=List.replicate (i+1) a++List.replicate (n - (i+1)) b:=by
 rw[show n - i=(n - (i+1))+1 by omega,List.replicate_succ,List.set_append_right _ _ (by simp),List.length_replicate,Nat.sub_self,List.set_cons_zero,List.replicate_succ',List.append_assoc]
 rfl
theorem WA (u:bx) (G A S ME HO PR:Nat) (d:AV) (n1 n2 n3 n4 n5:Nat) (h1:A≠G) (h2:S≠G) (h3:ME≠G) (h4:HO≠G) (h5:PR≠G):
 ([.agg [cF u.shared,cF u.cB, .sl G u.bw.length, .sl A n1, .sl S n2, .sl ME n3, .sl HO n4, .sl PR n5]]:List AV).map (Go.cw.vm [(G,some (.row 60 4 d (u.bw.map cG.av)))] 2)=[.agg [cF u.shared,cF u.cB,cZ u.bw, .sl A n1, .sl S n2, .sl ME n3, .sl HO n4, .sl PR n5]]:=by
 simp[Go.cw.vm,QR,bt,h1,h2,h3,h4,h5,qS]
set_option maxHeartbeats 4000000 in
theorem uk (u:bx) (hu:u.Wf) (hr:cg u) (H0:Hp) (nx:Nat):cU Tryz.prog 48 [u.av] H0 nx (fun r H n=>∃L:ML,r= .dI [.pt L.mr 1 0 0,i64 0]/\L.At u (cz u) H/\(∀x∈L.all,nx<=x/\x<n)/\nx<=n/\∀y,y<nx->bt H y=bt H0 y):=by
 have c0:=mG u hu
 rw[js.2 hr] at c0
 have hgl:=hr.oh
 have hw1:=hu.rn
 have hw2:=hu.ud
 have c1:=qB u.shared (by omega)
 have c2:=qB u.cB (by omega)
 refine aJ Y0 rfl ?_
 refine cP ?_
 simp only[List.length_map,Int.toNat_natCast]
 have hsz:∀t,t<u.bw.length->0<=(u.gr t).bz/\(u.gr t).bz<=4160:=fun t ht=>by
  have h1:=(hr.gr ht).bz
  have h2:=(hr.gr ht).locals
  omega
 have hnl:∀t,t<u.bw.length->(u.gr t).nodes.length * 96<=140737488355328:=fun t ht=>by
  have:=(hr.gr ht).len
  omega
 have hat0:(cz u).at_.map i64=List.replicate u.bw.length (i64 0):=by
  simp only[cz,List.map_map]
  rw[List.eq_replicate_iff]
  exact⟨by simp,fun b hb=>by obtain⟨g,_,rfl⟩:=List.mem_map.1 hb;rfl⟩
 have hnsl:(cz u).bz.length=u.bw.length:=by simp[cz]
 have hns:∀t,t<u.bw.length->(cz u).bz.getD t []=List.replicate (u.gr t).bz.toNat 0:=fun t ht=>by simp[cz,List.getD,bx.gr,ht]
 refine aR (fun σ:Nat×List Nat=>[(1, .pt nx 1 0 0),(7, .pt (nx+22) 1 0 0),(47,cZ u.bw),(48,i64 u.bw.length),(49,i64 σ.1)])
  (fun σ H n=>σ.1<=u.bw.length/\nx+46<=n/\σ.2.length=σ.1/\σ.2.Nodup/\(∀x∈σ.2,nx+46<=x/\x<n)/\(∃d,bt H nx=some (.row 25 3 d [u.av]))/\(∃d,bt H (nx+22)=some (.row 114 8 d [.agg [cF u.shared,cF u.cB, .sl (nx+42) σ.1, .sl (nx+16) u.bw.length, .sl (nx+43) σ.1, .sl (nx+44) 0, .sl (nx+20) u.cB.length, .sl (nx+45) 0]]))/\(∃d,bt H (nx+16)=some (.row 3 1 d ((cz u).at_.map i64)))/\(∃d,bt H (nx+20)=some (.row 3 1 d (List.replicate u.cB.length (i64 0))))/\(∃d,bt H (nx+42)=some (.row 60 4 d ((u.bw.take σ.1).map cG.av)))/\(∃d,bt H (nx+43)=some (.row 93 1 d (dR σ.2 ((cz u).bz.take σ.1))))/\(∃d,bt H (nx+44)=some (.row 2 1 d []))/\(∃d,bt H (nx+45)=some (.row 155 2 d []))/\(∀t,t<σ.1->∃d,bt H (σ.2.getD t 0)=some (.row 2 1 d (((cz u).bz.getD t []).map i64)))/\∀y,y<nx->bt H y=bt H0 y) (fun σ=>u.bw.length - σ.1) (0,[])
  ⟨_,_,_,Rt.trans (Rt.wk (Wk.gV (b:=nx+22) (nx:=nx+42) (e:=60) (sz:=4) cX (by omega) (te:=114) (tz:=8) (cs:=[cF u.shared,cF u.cB, .sc (.slice none 0 0), .sl (nx+16) u.bw.length, .sc (.slice none 0 0), .sc (.slice none 0 0), .sl (nx+20) u.cB.length, .sc (.slice none 0 0)]) (j:=2) bu (by show 2<8;omega) rfl)) (Rt.trans (Rt.wk (Wk.gV (b:=nx+22) (nx:=nx+43) (e:=93) (sz:=1) cX (by omega) (te:=114) (tz:=8) (cs:=[cF u.shared,cF u.cB, .sl (nx+42) 0, .sl (nx+16) u.bw.length, .sc (.slice none 0 0), .sc (.slice none 0 0), .sl (nx+20) u.cB.length, .sc (.slice none 0 0)]) (j:=4) bu (by show 4<8;omega) rfl)) (Rt.trans (Rt.wk (Wk.gV (b:=nx+22) (nx:=nx+44) (e:=2) (sz:=1) cX (by omega) (te:=114) (tz:=8) (cs:=[cF u.shared,cF u.cB, .sl (nx+42) 0, .sl (nx+16) u.bw.length, .sl (nx+43) 0, .sc (.slice none 0 0), .sl (nx+20) u.cB.length, .sc (.slice none 0 0)]) (j:=5) bu (by show 5<8;omega) rfl)) (Rt.wk (Wk.gV (b:=nx+22) (nx:=nx+45) (e:=155) (sz:=2) cX (by omega) (te:=114) (tz:=8) (cs:=[cF u.shared,cF u.cB, .sl (nx+42) 0, .sl (nx+16) u.bw.length, .sl (nx+43) 0, .sl (nx+44) 0, .sl (nx+20) u.cB.length, .sc (.slice none 0 0)]) (j:=7) bu (by show 7<8;omega) rfl)))),
   cC,Nat.zero_le _,cX,rfl,List.nodup_nil,fun x hx=>by simp at hx,⟨_,bu⟩,⟨_,bu⟩,⟨_,by rw[hat0];exact bu⟩,⟨_,bu⟩,⟨_,bu⟩,⟨_,bu⟩,⟨_,bu⟩,⟨_,bu⟩,fun t ht=>absurd ht (Nat.not_lt_zero _),fun y hy=>cE⟩ ?_
 rintro⟨t,ids⟩ H n ⟨ht,hn,hil,hnd,hin,⟨d0,r0'⟩,⟨d1,r1'⟩,⟨d2,r2'⟩,⟨d3,r3'⟩,⟨d4,r4⟩,⟨d5,r5⟩,⟨d6,r6⟩,⟨d7,r7⟩,hls,hkp⟩
 dsimp only at ht hil hnd hin r0' r1' r4 r5 hls ⊢
 have hgk:((u.bw.take t).map cG.av).length=t:=by simp;omega
 have htk:((cz u).bz.take t).length=t:=by rw[List.length_take];omega
 have hrl:(dR ids ((cz u).bz.take t)).length=t:=by unfold dR;rw[List.length_map,List.length_zip,htk,hil];omega
 by_cases htl:t<u.bw.length
 ·have e0:=fun d=>nV (l:=u.bw) htl d
  rw[show u.bw.getD t default=u.gr t from rfl] at e0
  have a0:(u.bw.map cG.av).length=u.bw.length:=by simp
  have c3:=xj (u.gr t).nodes (hnl t htl)
  obtain⟨s1,s2⟩:=hsz t htl
  have hnx1:(u.bw.take (t+1)).map cG.av=(u.bw.take t).map cG.av++[(u.gr t).av]:=by
   rw[List.take_succ_eq_append_getElem htl,List.map_append,show u.gr t=u.bw[t] by simp[bx.gr,List.getD,htl]];rfl
  have hnx2:dR (ids++[n+29]) ((cz u).bz.take (t+1))=dR ids ((cz u).bz.take t)++[.sl (n+29) (u.gr t).bz.toNat]:=by
   have e:=hns t htl
   rw[List.take_succ_eq_append_getElem (by omega),oc (by rw[hil,htk]),show(cz u).bz[t]'(by omega)=List.replicate (u.gr t).bz.toNat 0 by rw[<-e];simp[List.getD,show t<(cz u).bz.length by omega]]
   simp
  have hnx3:((cz u).bz.getD t []).map i64=List.replicate (u.gr t).bz.toNat (i64 0):=by rw[hns t htl];simp
  refine cP ?_
  refine⟨(t+1,ids++[n+29]),by dsimp only;omega,_,_,_,Rt.refl _ _ _,cC,by dsimp only;omega,cX,by simp[hil], ?_, ?_,⟨_,bu⟩,⟨_,bu⟩,⟨_,bu⟩,⟨_,bu⟩,⟨_,by dsimp only;rw[hnx1];exact bu⟩,⟨_,by dsimp only;rw[hnx2];exact bu⟩,⟨_,bu⟩,⟨_,bu⟩, ?_,fun y hy=>Eq.trans cE (hkp y hy)⟩
  ·refine List.nodup_append.2 ⟨hnd,by simp,fun a ha b hb=> ?_⟩
   simp only[List.mem_cons,List.not_mem_nil,or_false] at hb
   have:=hin _ ha;omega
  ·intro x hx
   rcases List.mem_append.1 hx with hx|hx
   ·have:=hin _ hx;exact⟨this.1,Nat.lt_of_lt_of_le this.2 cX⟩
   ·simp only[List.mem_cons,List.not_mem_nil,or_false] at hx
    subst hx;exact⟨by omega,cX⟩
  ·intro q hq
   have hq:q<t+1:=hq
   by_cases e:q=t
   ·subst e
    have e2:(ids++[n+29]).getD q 0=n+29:=by rw[List.getD,List.getElem?_append_right (by omega),hil,Nat.sub_self];rfl
    dsimp only
    rw[e2,hnx3];exact⟨_,bu⟩
   ·obtain⟨d,hd⟩:=hls q (by omega)
    have e2:(ids++[n+29]).getD q 0=ids.getD q 0:=by simp[List.getD,List.getElem?_append,show q<ids.length by omega]
    have:=hin _ (eE (l:=ids) (q:=q) (by omega))
    dsimp only
    rw[e2];exact⟨d,Eq.trans cE hd⟩
 ·have:t=u.bw.length:=by omega
  subst this
  rw[List.take_length] at r4
  rw[List.take_of_length_le (by omega)] at r5
  refine cP ?_
  rw[List.length_map]
  have hM:=Wk.vm (nx:=n+1+1+1+1+1) (H:=H) (cb:=nx+22) [(nx+42,some (.row 60 4 d4 (u.bw.map cG.av)))] 2 .any r1' (fun x q hx=>by
   by_cases hb:x=nx+42
   ·subst hb;rw[ca] at hx;rw[<-hx];exact r4
   ·rw[cN hb] at hx;cases hx)
  rw[WA u _ _ _ _ _ _ _ _ _ _ _ _ (by omega) (by omega) (by omega) (by omega) (by omega)] at hM
  refine aR (fun j:Nat=>[(7, .pt (nx+22) 1 0 0),(83,cF u.shared),(84,i64 u.shared.length),(85,i64 j)])
   (fun j H n=>j<=u.shared.length/\nx+46<=n/\(∀x∈ids,nx+46<=x/\x<n)/\(∃d,bt H (nx+22)=some (.row 114 8 d [.agg [cF u.shared,cF u.cB,cZ u.bw, .sl (nx+16) u.bw.length, .sl (nx+43) u.bw.length, .sl (nx+44) j, .sl (nx+20) u.cB.length, .sl (nx+45) 0]]))/\(∃d,bt H (nx+16)=some (.row 3 1 d ((cz u).at_.map i64)))/\(∃d,bt H (nx+20)=some (.row 3 1 d (List.replicate u.cB.length (i64 0))))/\(∃d,bt H (nx+43)=some (.row 93 1 d (dR ids (cz u).bz)))/\(∃d,bt H (nx+44)=some (.row 2 1 d (((cz u).mem.take j).map i64)))/\(∃d,bt H (nx+45)=some (.row 155 2 d []))/\(∀t,t<u.bw.length->∃d,bt H (ids.getD t 0)=some (.row 2 1 d (((cz u).bz.getD t []).map i64)))/\∀y,y<nx->bt H y=bt H0 y) (fun j=>u.shared.length - j) 0
   ⟨_,_,_,Rt.wk hM,cC,Nat.zero_le _,cX, ?_,⟨_,bu⟩,⟨_,bu⟩,⟨_,bu⟩,⟨_,bu⟩,⟨_,bu⟩,⟨_,bu⟩, ?_,fun y hy=>Eq.trans cE (hkp y hy)⟩ ?_
  ·exact fun x hx=>⟨(hin x hx).1,by have:=(hin x hx).2;exact cX⟩
  ·intro q hq
   obtain⟨d,hd⟩:=hls q hq
   have:=hin _ (eE (l:=ids) (q:=q) (by omega))
   exact⟨d,Eq.trans cE hd⟩
  clear r0' r1' r2' r3' r4 r5 r6 r7 hls hkp hM hin hn
  rintro j H n ⟨hj,hn,hin,⟨d1,r1'⟩,⟨d2,r2'⟩,⟨d3,r3'⟩,⟨d5,r5⟩,⟨d6,r6⟩,⟨d7,r7⟩,hls,hkp⟩
  have hml:(cz u).mem.length=u.shared.length:=by simp[cz]
  have hmk:(((cz u).mem.take j).map i64).length=j:=by simp;omega
  by_cases hjl:j<u.shared.length
  ·have e0:∀d,(u.shared.map Decl.av).getD ((j:Int)).toNat d=(u.shared.getD j default).av:=fun d=>by rw[Int.toNat_natCast];exact cx Decl.av u.shared j d hjl
   have a0:(u.shared.map Decl.av).length=u.shared.length:=by simp
   have hnx1:((cz u).mem.take (j+1)).map i64=((cz u).mem.take j).map i64++[i64 (u.shared.getD j default).word]:=by
    rw[List.take_succ_eq_append_getElem (by omega),List.map_append]
    simp[cz,List.getD,hjl]
   refine cP ?_
   refine⟨j+1,by omega,_,_,_,Rt.refl _ _ _,cC,by omega,cX,fun x hx=>⟨(hin x hx).1,Nat.lt_of_lt_of_le (hin x hx).2 cX⟩,⟨_,bu⟩,⟨_,bu⟩,⟨_,bu⟩,⟨_,bu⟩,⟨_,by rw[hnx1];exact bu⟩,⟨_,bu⟩, ?_,fun y hy=>Eq.trans cE (hkp y hy)⟩
   intro q hq
   obtain⟨d,hd⟩:=hls q hq
   have:=hin _ (eE (l:=ids) (q:=q) (by omega))
   exact⟨d,Eq.trans cE hd⟩
  ·have:j=u.shared.length:=by omega
   subst this
   rw[List.take_of_length_le (by omega)] at r6
   refine cP ?_
   refine aF (fun i:Nat=>[(7, .pt (nx+22) 1 0 0),(105,i64 u.cB.length),(106,i64 i)])
    (fun i H n=>i<=u.cB.length/\nx+46<=n/\(∀x∈ids,nx+46<=x/\x<n)/\(∃d,bt H (nx+22)=some (.row 114 8 d [.agg [cF u.shared,cF u.cB,cZ u.bw, .sl (nx+16) u.bw.length, .sl (nx+43) u.bw.length, .sl (nx+44) u.shared.length, .sl (nx+20) u.cB.length, .sl (nx+45) 0]]))/\(∃d,bt H (nx+16)=some (.row 3 1 d ((cz u).at_.map i64)))/\(∃d,bt H (nx+20)=some (.row 3 1 d (List.replicate i (i64 (-1))++List.replicate (u.cB.length - i) (i64 0))))/\(∃d,bt H (nx+43)=some (.row 93 1 d (dR ids (cz u).bz)))/\(∃d,bt H (nx+44)=some (.row 2 1 d ((cz u).mem.map i64)))/\(∃d,bt H (nx+45)=some (.row 155 2 d []))/\(∀t,t<u.bw.length->∃d,bt H (ids.getD t 0)=some (.row 2 1 d (((cz u).bz.getD t []).map i64)))/\∀y,y<nx->bt H y=bt H0 y) (fun i=>u.cB.length - i) 0 cC
    ⟨Nat.zero_le _,cX,fun x hx=>⟨(hin x hx).1,Nat.lt_of_lt_of_le (hin x hx).2 cX⟩,⟨_,bu⟩,⟨_,bu⟩,⟨_,bu⟩,⟨_,bu⟩,⟨_,bu⟩,⟨_,bu⟩, ?_,fun y hy=>Eq.trans cE (hkp y hy)⟩ ?_
   ·intro q hq
    obtain⟨d,hd⟩:=hls q hq
    have:=hin _ (eE (l:=ids) (q:=q) (by omega))
    exact⟨d,Eq.trans cE hd⟩
   clear r1' r2' r3' r5 r6 r7 hls hkp hin hn
   rintro i H n ⟨hi,hn,hin,⟨d1,r1'⟩,⟨d2,r2'⟩,⟨d3,r3'⟩,⟨d5,r5⟩,⟨d6,r6⟩,⟨d7,r7⟩,hls,hkp⟩
   have hrl2:(List.replicate i (i64 (-1))++List.replicate (u.cB.length - i) (i64 0)).length=u.cB.length:=by simp;omega
   by_cases hil2:i<u.cB.length
   ·have e1:∀d,(List.replicate i (i64 (-1))++List.replicate (u.cB.length - i) (i64 0)).getD ((i:Int)).toNat d=i64 0:=fun d=>by
     rw[Int.toNat_natCast]
     simp[List.getD,List.getElem?_append,List.getElem?_replicate,show 0<u.cB.length - i by omega]
    refine cP ?_
    refine⟨i+1,by omega,cC,by omega,cX,fun x hx=>⟨(hin x hx).1,Nat.lt_of_lt_of_le (hin x hx).2 cX⟩,⟨_,bu⟩,⟨_,bu⟩,⟨_,by rw[<-L5 _ _ _ _ hil2];exact bu⟩,⟨_,bu⟩,⟨_,bu⟩,⟨_,bu⟩, ?_,fun y hy=>Eq.trans cE (hkp y hy)⟩
    intro q hq
    obtain⟨d,hd⟩:=hls q hq
    have:=hin _ (eE (l:=ids) (q:=q) (by omega))
    exact⟨d,Eq.trans cE hd⟩
   ·have:i=u.cB.length:=by omega
    subst this
    rw[Nat.sub_self,List.replicate_zero,List.append_nil] at r3'
    have hho:(cz u).hold.map i64=List.replicate u.cB.length (i64 (-1)):=by
     simp only[cz,List.map_map]
     rw[List.eq_replicate_iff]
     exact⟨by simp,fun b hb=>by obtain⟨g,_,rfl⟩:=List.mem_map.1 hb;rfl⟩
    refine cP ?_
    refine⟨⟨⟨nx+22,nx+16,nx+43,nx+44,nx+20,nx+45,ids⟩,rfl,⟨⟨d1, ?_⟩,⟨_,bu⟩,⟨_,bu⟩,fun t ht=> ?_,⟨_,bu⟩,⟨_,by rw[hho];exact bu⟩,⟨_,bu⟩,by rw[hnsl];exact hil, ?_⟩, ?_,cX,fun y hy=>Eq.trans cE (hkp y hy)⟩⟩
    ·rw[show(cz u).rows u (nx+16) (nx+43) (nx+44) (nx+20) (nx+45)= .agg [cF u.shared,cF u.cB,cZ u.bw, .sl (nx+16) u.bw.length, .sl (nx+43) u.bw.length, .sl (nx+44) u.shared.length, .sl (nx+20) u.cB.length, .sl (nx+45) 0] by simp[MS.rows,cz]]
     exact bu
    ·rw[hnsl] at ht
     obtain⟨d,hd⟩:=hls t ht
     have:=hin _ (eE (l:=ids) (q:=t) (by omega))
     exact⟨d,Eq.trans cE hd⟩
    ·have hno:∀k,k<nx+46->k∉ids:=fun k hk h=>by have:=hin _ h;omega
     simp only[List.nodup_cons,List.mem_cons,not_or]
     exact⟨⟨by omega,by omega,by omega,by omega,by omega,hno _ (by omega)⟩,⟨by omega,by omega,by omega,by omega,hno _ (by omega)⟩,⟨by omega,by omega,by omega,hno _ (by omega)⟩,⟨by omega,by omega,hno _ (by omega)⟩,⟨by omega,hno _ (by omega)⟩,hno _ (by omega),hnd⟩
    ·intro x hx
     simp only[List.mem_cons] at hx
     rcases hx with rfl|rfl|rfl|rfl|rfl|rfl|hx
     all_goals first
      |exact⟨by omega,cX⟩
      |(have:=hin _ hx;exact⟨by omega,cX⟩)
end Go.Proofs.YtjopoheligmmoaaGreatDoor
