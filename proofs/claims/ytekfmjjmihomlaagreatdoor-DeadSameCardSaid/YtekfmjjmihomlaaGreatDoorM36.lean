import Derived.Test.YtekfmjjmihomlaaGreatDoorM29
import Derived.Test.YtekfmjjmihomlaaGreatDoorM24
import Derived.Test.YtekfmjjmihomlaaGreatDoorM34
import Derived.Test.YtekfmjjmihomlaaGreatDoorM35
namespace Go.Proofs.YtekfmjjmihomlaaGreatDoor
open Go Go.cw Go.Proofs
set_option linter.unusedSimpArgs false
set_option linter.unusedVariables false
set_option maxHeartbeats 1000000
structure cy where
 cn:Int
 word:Int
 deriving Inhabited,DecidableEq
def cy.cells (p:cy):List AV:=[i64 p.cn,i64 p.word]
abbrev cy.av (p:cy):AV:= .agg p.cells
structure MS where
 at_:List Int
 bw:List (List Int)
 mem:List Int
 hold:List Int
 cC:List cy
 deriving Inhabited,DecidableEq
abbrev de (l:List Int):AV:= .im 1 .any (l.map i64)
abbrev G8 (l:List (List Int)):AV:= .im 1 .any (l.map de)
abbrev gM (l:List cy):AV:= .im 2 .any (l.map cy.av)
def MS.cells (u:bq) (m:MS):List AV:=[cg u.shared,cg u.cE,dS u.br,de m.at_,G8 m.bw,de m.mem,de m.hold,gM m.cC]
abbrev MS.fz (u:bq) (m:MS):AV:= .ip 8 .any [.agg (m.cells u)] 0 0
@[simp] theorem W0 (n:Nat) (p:cy):cT n p.cells:=by simp[cy.cells,cT,cF]
@[simp] theorem ZA (n:Nat) (u:bq) (m:MS):cT n (m.cells u):=by simp[MS.cells,cT,cF,cI]
theorem qj (n:Nat) (u:bq) (m:MS):cF n (m.fz u):=by simp[cF,cT]
structure ep (u:bq) (m:MS):Prop where
 mK:m.at_.length=u.br.length
 iL:∀t,t<u.br.length->0<=m.at_.getD t 0/\m.at_.getD t 0<(u.gr t).nodes.length
 sl:m.bw.length=u.br.length
 yS:∀t,t<u.br.length->(m.bw.getD t []).length=(u.gr t).bw.toNat
 E9:∀t,t<u.br.length->∀w∈m.bw.getD t [],eW w
 ml:m.mem.length=u.shared.length
 mw:∀w∈m.mem,eW w
 hl:m.hold.length=u.cE.length
 hw:∀w∈m.hold,-1<=w/\w<u.br.length
 pw:∀p∈m.cC,0<=p.cn/\p.cn<u.br.length/\eW p.word
abbrev MS.node (u:bq) (m:MS) (t:Nat):Node:=(u.gr t).nd (m.at_.getD t 0).toNat
def MS.l3 (u:bq) (m:MS) (t:Int):Int:=if t<0\/(m.at_.length:Int)<=t then 2 else if(m.node u t.toNat).kind=9 then 70 else if(m.node u t.toNat).kind=5/\0<=m.hold.getD (m.node u t.toNat).cB.toNat 0 then 71 else 0
theorem ints_at {l:List Int} {k:Nat} (h:k<l.length) (d:AV):(l.map i64).getD ((k:Int)).toNat d=i64 (l.getD k 0):=by
 rw[Int.toNat_natCast];exact dN i64 l k d h
theorem po {l:List Int} {k:Int} (h:k.toNat<l.length) (d:AV):(l.map i64).getD k.toNat d=i64 (l.getD k.toNat 0):=dN i64 l k.toNat d h
theorem ep.node {u:bq} {m:MS} (hr:cN u) (h:ep u m) {t:Nat} (ht:t<u.br.length):mW u (u.gr t) (m.node u t):=by
 have:=h.iL t ht
 exact(hr.gr ht).nodes _ (cR default (by omega))
theorem RL {u:bq} {m:MS} {t:Int} (h:t<0\/(m.at_.length:Int)<=t):m.l3 u t=2:=by unfold MS.l3;rw[if_pos h]
theorem QP (u:bq) (m:MS) (t:Int):Pure Tryz.prog 105 [m.fz u,i64 t] (fun r=>r=bl (decide (¬(t<0\/(m.at_.length:Int)<=t)))):=by
 refine aD zl rfl ?_
 refine cz ?_
 refine dZ ?_
 rw[List.length_map]
 by_cases h1:0<=t<;>by_cases h2:t<m.at_.length<;>simp[h1,h2]<;>omega
set_option maxRecDepth 8000 in
set_option maxHeartbeats 2000000 in
theorem CV (u:bq) (hr:cN u) (m:MS) (h:ep u m) (t:Int):Pure Tryz.prog 69 [m.fz u,i64 t] (fun r=>r=i64 (m.l3 u t)):=by
 have c0:=QP u m t
 have hl:=h.mK
 by_cases ht:t<0\/(m.at_.length:Int)<=t
 ·rw[RL ht]
  rw[decide_eq_false (fun e=>e ht)] at c0
  refine aD xu rfl ?_
  refine cz ?_
  first|exact rfl|trivial
 ·rw[decide_eq_true ht] at c0
  obtain⟨k,rfl⟩:∃k:Nat,t=k:=⟨t.toNat,by omega⟩
  have hk:k<u.br.length:=by omega
  have hbar:m.l3 u k=if(m.node u k).kind=9 then 70 else if(m.node u k).kind=5/\0<=m.hold.getD (m.node u k).cB.toNat 0 then 71 else 0:=by
   unfold MS.l3;rw[if_neg ht,Int.toNat_natCast]
  rw[hbar]
  have hno:=h.node hr hk
  obtain⟨p0,p1⟩:=h.iL k hk
  have e0:=fun d=>pj (l:=u.br) hk d
  have e1:=fun d=>ints_at (l:=m.at_) (k:=k) (by omega) d
  obtain⟨j,hj⟩:∃j:Nat,m.at_.getD k 0=j:=⟨(m.at_.getD k 0).toNat,by omega⟩
  rw[hj] at e1 p1
  have hnd:m.node u k=(u.gr k).nd j:=by unfold MS.node;rw[hj,Int.toNat_natCast]
  rw[hnd] at hno ⊢
  have hgr:u.br.getD k default=u.gr k:=rfl
  rw[hgr] at e0
  generalize u.gr k=g at *
  have e2:=fun d=>gh (l:=g.nodes) (i:=j) (by omega) d
  rw[show g.nodes.getD j default=g.nd j from rfl] at e2
  generalize g.nd j=n at *
  have a0:(u.br.map bu.av).length=u.br.length:=by simp
  have a1:(m.at_.map i64).length=u.br.length:=by simp[hl]
  have a2:(g.nodes.map Node.av).length=g.nodes.length:=by simp
  have a3:(m.hold.map i64).length=u.cE.length:=by simp[h.hl]
  by_cases h9:n.kind=9
  ·have r0:=h9
   rw[if_pos h9]
   refine aD xu rfl ?_
   refine cz ?_
   first|exact rfl|trivial
  ·rw[if_neg h9]
   by_cases h5:n.kind=5
   ·have hth:=hno.cB.1 (by unfold fD;exact decide_eq_true (by omega))
    rw[if_pos (.inl h5)] at hth
    have hhl:=h.hl
    have e3:=fun d=>po (l:=m.hold) (k:=n.cB) (by omega) d
    have r0:=h5
    by_cases hh:0<=m.hold.getD n.cB.toNat 0
    ·rw[if_pos ⟨h5,hh⟩]
     have r1:=decide_eq_true hh
     refine aD xu rfl ?_
     refine cz ?_
     first|exact rfl|trivial
    ·rw[if_neg fun e=>hh e.2]
     have r1:=decide_eq_false hh
     refine aD xu rfl ?_
     refine cz ?_
     first|exact rfl|trivial
   ·rw[if_neg fun e=>h5 e.1]
    have r1:=decide_eq_false h5
    refine aD xu rfl ?_
    refine cz ?_
    first|exact rfl|trivial
theorem LJ (u:bq) (hr:cN u) (m:MS) (h:ep u m) (t:Int):Pure Tryz.prog 34 [m.fz u,i64 t] (fun r=>r=bl (decide (m.l3 u t=0))):=by
 have c0:=CV u hr m h t
 refine aD N0 rfl ?_
 refine cz ?_
 first|exact rfl|trivial
def MS.ended (u:bq) (m:MS):Bool:=(List.range m.at_.length).all fun t=>decide (m.l3 u t=70)
theorem L4 (u:bq) (hr:cN u) (m:MS) (h:ep u m):Pure Tryz.prog 39 [m.fz u] (fun r=>r=bl (m.ended u)):=by
 have hl:=h.mK
 have hgl:=hr.yu
 refine aD N5 rfl ?_
 refine cz ?_
 rw[List.length_map]
 refine aI (fun i:Nat=>[(0,m.fz u),(10,i64 m.at_.length),(11,i64 i)]) (fun i H n=>i<=m.at_.length/\∀j:Nat,j<i->m.l3 u j=70) (fun i=>m.at_.length - i) 0 cG ⟨Nat.zero_le _,fun j hj=>by omega⟩ ?_
 rintro i H n ⟨hi,hall⟩
 by_cases hil:i<m.at_.length
 ·have c0:=CV u hr m h i
  by_cases hb:m.l3 u i=70
  ·have r0:=hb
   refine cz ?_
   exact⟨i+1,by omega,cG,by omega,fun j hj=>by
    by_cases e:j=i
    ·rw[e];exact hb
    ·exact hall j (by omega)⟩
  ·have r0:=decide_eq_true hb
   refine cz ?_
   refine dZ (Eq.symm ?_)
   unfold MS.ended
   rw[List.all_eq_false]
   exact⟨i,List.mem_range.2 hil,by simpa using hb⟩
 ·refine cz ?_
  refine dZ (Eq.symm ?_)
  unfold MS.ended
  rw[List.all_eq_true]
  intro j hj
  exact decide_eq_true (hall j (by have:=List.mem_range.1 hj;omega))
structure dy where
 cC:List cy
 mem:List Int
 ended:Bool
 deriving Inhabited,DecidableEq
def dy.cells (e:dy):List AV:=[gM e.cC,de e.mem,bl e.ended]
abbrev dy.av (e:dy):AV:= .agg e.cells
@[simp] theorem YV (n:Nat) (e:dy):cT n e.cells:=by simp[dy.cells,cT,cF,cI]
def fQ (x y:Int):Int:=if x<y then -1 else if y<x then 1 else 0
def mB:List Int->Int
 |[]=>0
 |x::l=>if x=0 then mB l else x
def gS (p q:cy):Int:=mB [fQ p.cn q.cn,fQ p.word q.word]
def fM {α:Type} (f:α->α->Int):List α->List α->Int
 |[],[]=>0
 |[],_::_=>-1
 |_::_,[]=>1
 |x::a,y::b=>if f x y=0 then fM f a b else f x y
def vO (a b:Bool):Int:=if a=b then 0 else if b then -1 else 1
def fB (a b:dy):Int:=mB [fM gS a.cC b.cC,fM fQ a.mem b.mem,vO a.ended b.ended]
theorem s8 {α:Type} (f:α->α->Int) (d:α) {a b:List α} {i:Nat} (h1:i<a.length) (h2:i<b.length):fM f (a.drop i) (b.drop i)=if f (a.getD i d) (b.getD i d)=0 then fM f (a.drop (i+1)) (b.drop (i+1)) else f (a.getD i d) (b.getD i d):=by
 rw[List.drop_eq_getElem_cons h1,List.drop_eq_getElem_cons h2,fM]
 simp[List.getD,List.getElem?_eq_getElem h1,List.getElem?_eq_getElem h2]
theorem pY {α:Type} (f:α->α->Int) {a b:List α} {i:Nat} (h1:i<a.length) (h2:b.length<=i):fM f (a.drop i) (b.drop i)=1:=by
 rw[List.drop_eq_getElem_cons h1,List.drop_of_length_le h2,fM]
theorem pX {α:Type} (f:α->α->Int) {a b:List α} {i:Nat} (h1:a.length<=i) (h2:i<=b.length):fM f (a.drop i) (b.drop i)=if i<b.length then -1 else 0:=by
 rw[List.drop_of_length_le h1]
 split
 ·rename_i h;rw[List.drop_eq_getElem_cons h,fM]
 ·rw[List.drop_of_length_le (by omega),fM]
theorem GS (x:Int):Pure Tryz.prog 83 [i64 x] (fun r=>r=bl false):=by
 refine aD OS rfl ?_
 refine cz ?_
 refine dZ ?_
 simp
theorem BI (x:Int):Pure Tryz.prog 84 [i64 x] (fun r=>r=bl false):=by
 refine aD OT rfl ?_
 refine cz ?_
 refine dZ ?_
 simp
theorem LP (x y:Int):Pure Tryz.prog 45 [i64 x,i64 y] (fun r=>r=i64 (fQ x y)):=by
 have c0:=GS x
 have c1:=GS y
 unfold fQ
 by_cases h:x<y
 ·rw[if_pos h]
  refine aD D3 rfl ?_
  refine cz ?_
  first|exact rfl|trivial
 ·rw[if_neg h]
  by_cases h2:y<x
  ·rw[if_pos h2]
   refine aD D3 rfl ?_
   refine cz ?_
   first|exact rfl|trivial
  ·rw[if_neg h2]
   refine aD D3 rfl ?_
   refine cz ?_
   first|exact rfl|trivial
theorem vv (x y:Int):Pure Tryz.prog 46 [i64 x,i64 y] (fun r=>r=i64 (fQ x y)):=by
 have c0:=BI x
 have c1:=BI y
 unfold fQ
 by_cases h:x<y
 ·rw[if_pos h]
  refine aD D4 rfl ?_
  refine cz ?_
  first|exact rfl|trivial
 ·rw[if_neg h]
  by_cases h2:y<x
  ·rw[if_pos h2]
   refine aD D4 rfl ?_
   refine cz ?_
   first|exact rfl|trivial
  ·rw[if_neg h2]
   refine aD D4 rfl ?_
   refine cz ?_
   first|exact rfl|trivial
theorem PX {l:List Int} {i:Nat} (h:i<l.length):mB (l.drop i)=if l.getD i 0=0 then mB (l.drop (i+1)) else l.getD i 0:=by
 rw[List.drop_eq_getElem_cons h,mB]
 simp[List.getD,List.getElem?_eq_getElem h]
theorem GW (l:List Int) (hl:l.length<=1000):Pure Tryz.prog 44 [de l] (fun r=>r=i64 (mB l)):=by
 refine aD N8 rfl ?_
 refine cz ?_
 rw[List.length_map]
 refine aI (fun i:Nat=>[(3,i64 0),(6,de l),(7,i64 l.length),(8,i64 i)]) (fun i H n=>i<=l.length/\mB l=mB (l.drop i)) (fun i=>l.length - i) 0 cG ⟨Nat.zero_le _,rfl⟩ ?_
 rintro i H n ⟨hi,ho⟩
 rw[ho]
 by_cases hil:i<l.length
 ·have e0:=fun d=>ints_at (l:=l) hil d
  have a0:(l.map i64).length=l.length:=by simp
  have hd:=PX hil
  by_cases hz:l.getD i 0=0
  ·have r0:=hz
   rw[if_pos hz] at hd
   refine cz ?_
   exact⟨i+1,by omega,cG,by omega,hd⟩
  ·have r0:=decide_eq_true hz
   rw[if_neg hz] at hd
   refine cz ?_
   rw[hd]
 ·rw[List.drop_of_length_le (by omega)]
  refine cz ?_
  first|exact rfl|trivial
theorem rN {p:Prop} (h:Go p):p:=h
theorem H8 {es:List AV} (hf:cT 0 es) (hl:es.length * 16<=140737488355328):cQ Tryz.prog 71 [.im 2 .any es] [] 0 (fun r H _=>cw.dj H 6 r= .sc (.slice none 0 0)/\es=[]\/cw.dj H 6 r= .im 2 .any es):=by
 refine aJ OQ rfl ?_
 cases es with
 |nil=>
  refine cz ?_
  refine⟨rN ?_,rN ?_⟩
  ·refine cz ?_
   exact⟨.inl ⟨rfl,rfl⟩⟩
  ·refine cz ?_
   exact⟨.inr rfl⟩
 |cons x t=>
  have a0:(x::t).length * 16<=gV:=Nat.le_trans hl (by unfold gV;omega)
  simp only[List.length_cons] at hl
  refine cz ?_
  refine⟨.inr ((dv (e:=102) (sz:=2) (es:=x::t) bt (Nat.zero_add _).symm).trans ?_)⟩
  rw[cu _ hf]
theorem IA {es:List AV} (hf:cT 0 es) (hl:es.length * 8<=140737488355328):cQ Tryz.prog 72 [.im 1 .any es] [] 0 (fun r H _=>cw.dj H 6 r= .sc (.slice none 0 0)/\es=[]\/cw.dj H 6 r= .im 1 .any es):=by
 refine aJ OR rfl ?_
 cases es with
 |nil=>
  refine cz ?_
  refine⟨rN ?_,rN ?_⟩
  ·refine cz ?_
   exact⟨.inl ⟨rfl,rfl⟩⟩
  ·refine cz ?_
   exact⟨.inr rfl⟩
 |cons x t=>
  have a0:(x::t).length * 8<=gV:=Nat.le_trans hl (by unfold gV;omega)
  simp only[List.length_cons] at hl
  refine cz ?_
  refine⟨.inr ((dv (e:=2) (sz:=1) (es:=x::t) bt (Nat.zero_add _).symm).trans ?_)⟩
  rw[cu _ hf]
theorem yk (l:List cy) (hl:l.length * 16<=140737488355328):Pure Tryz.prog 71 [gM l] (fun r=>r=gM l):=
 kN (by simp[cF,cI]) (H8 ((cI _ _).2 fun _ _=>by simp[cF]) (by rw[List.length_map];exact hl))
theorem yl (l:List Int) (hl:l.length * 8<=140737488355328):Pure Tryz.prog 72 [de l] (fun r=>r=de l):=
 kN (by simp[cF,cI]) (IA ((cI _ _).2 fun _ _=>by simp[cF]) (by rw[List.length_map];exact hl))
theorem J3 (u:bq) (m:MS) (hl:m.cC.length * 16<=140737488355328):Pure Tryz.prog 37 [m.fz u] (fun r=>r=gM m.cC):=by
 have c0:=yk m.cC hl
 refine aD N3 rfl ?_
 refine cz ?_
 first|exact rfl|trivial
theorem JQ (u:bq) (m:MS) (hl:m.mem.length * 8<=140737488355328):Pure Tryz.prog 38 [m.fz u] (fun r=>r=de m.mem):=by
 have c0:=yl m.mem hl
 refine aD N4 rfl ?_
 refine cz ?_
 first|exact rfl|trivial
def MS.stuck (u:bq) (m:MS):Bool:=(List.range m.at_.length).all fun t=>decide (m.l3 u t≠0)
def MS.end_ (u:bq) (m:MS):dy:=⟨m.cC,m.mem,m.ended u⟩
def u9 (u:bq) (m:MS):AV:=if m.stuck u then .df [(m.end_ u).av,bl true] else .df [.agg [.sc (.slice none 0 0), .sc (.slice none 0 0),bl false],bl false]
theorem J1 (u:bq) (hr:cN u) (m:MS) (h:ep u m) (hp:m.cC.length * 16<=140737488355328) (hm:m.mem.length * 8<=140737488355328):Pure Tryz.prog 16 [u.av,m.fz u] (fun r=>r=u9 u m):=by
 have hl:=h.mK
 have hgl:=hr.yu
 have c1:=J3 u m hp
 have c2:=JQ u m hm
 have c3:=L4 u hr m h
 refine aD NM rfl ?_
 refine cz ?_
 rw[List.length_map,<-hl]
 refine aI (fun i:Nat=>[(1,m.fz u),(4, .pt 1 1 0 0),(9,i64 m.at_.length),(10,i64 i)]) (fun i H n=>i<=m.at_.length/\2<=n/\bo H 1=some (.row 59 3 (gl true [.slice none 0 0, .slice none 0 0, .bool false]) [gl true [.slice none 0 0, .slice none 0 0, .bool false]])/\∀j:Nat,j<i->m.l3 u j≠0) (fun i=>m.at_.length - i) 0 cG ⟨Nat.zero_le _,cU,bt,fun j hj=>by omega⟩ ?_
 rintro i H n ⟨hi,hn,hx,hall⟩
 by_cases hil:i<m.at_.length
 ·have c0:=LJ u hr m h i
  by_cases hb:m.l3 u i=0
  ·have hs:m.stuck u=false:=by
    unfold MS.stuck
    rw[List.all_eq_false]
    exact⟨i,List.mem_range.2 hil,by simpa using hb⟩
   have r0:=decide_eq_true hb
   rw[u9,hs]
   refine cz ?_
   first|exact rfl|trivial
  ·have r0:=decide_eq_false hb
   refine cz ?_
   exact⟨i+1,by omega,cG,by omega,by omega,bt,fun j hj=>by
    by_cases e:j=i
    ·rw[e];exact hb
    ·exact hall j (by omega)⟩
 ·have hs:m.stuck u=true:=by
   unfold MS.stuck
   rw[List.all_eq_true]
   intro j hj
   exact decide_eq_true (hall j (by have:=List.mem_range.1 hj;omega))
  rw[u9,hs]
  refine cz ?_
  first|exact rfl|trivial
def ef (ids:List Nat) (l:List (List Int)):List AV:=(ids.zip l).map fun p=> .sl p.1 p.2.length
def MS.rows (u:bq) (m:MS) (a s me ho pr:Nat):AV:= .agg [cg u.shared,cg u.cE,dS u.br, .sl a m.at_.length, .sl s m.bw.length, .sl me m.mem.length, .sl ho m.hold.length, .sl pr m.cC.length]
structure WW (u:bq) (m:MS) (mr a s me ho pr:Nat) (ids:List Nat) (H:Hp):Prop where
 rM:∃d,bo H mr=some (.row 135 8 d [m.rows u a s me ho pr])
 rA:∃d,bo H a=some (.row 3 1 d (m.at_.map i64))
 rS:∃d,bo H s=some (.row 57 1 d (ef ids m.bw))
 rL:∀t,t<m.bw.length->∃d,bo H (ids.getD t 0)=some (.row 2 1 d ((m.bw.getD t []).map i64))
 rE:∃d,bo H me=some (.row 2 1 d (m.mem.map i64))
 rH:∃d,bo H ho=some (.row 3 1 d (m.hold.map i64))
 rP:∃d,bo H pr=some (.row 102 2 d (m.cC.map cy.av))
 len:ids.length=m.bw.length
 nodup:(mr::a::s::me::ho::pr::ids).Nodup
theorem wu {ids:List Nat} {l:List (List Int)} (h:ids.length=l.length) (i:Nat) (x:List Int):ef (ids++[i]) (l++[x])=ef ids l++[.sl i x.length]:=by
 unfold ef
 rw[List.zip_append h]
 simp
theorem copied (es:List AV) (z:AV):List.take (es.length.min (es.length:Int).toNat) es++List.drop (es.length.min (es.length:Int).toNat) (List.replicate (es.length:Int).toNat z)=es:=by
 rw[Int.toNat_natCast,show es.length.min es.length=es.length from Nat.min_self _]
 simp
set_option maxHeartbeats 4000000 in
theorem C6 (u:bq) (m:MS) (h1:m.at_.length<=4096) (h2:m.mem.length<=4096) (h3:m.hold.length<=4096) (h4:m.cC.length<=1048576) (h5:m.bw.length<=4096) (h6:∀l∈m.bw,l.length<=1048576) (H0:Hp) (nx:Nat):cQ Tryz.prog 35 [m.fz u] H0 nx (fun r H n=>∃mr a s me ho pr ids,r= .pt mr 1 0 0/\WW u m mr a s me ho pr ids H/\(∀x∈mr::a::s::me::ho::pr::ids,nx<=x/\x<n)/\nx<=n/\∀y,y<nx->bo H y=bo H0 y):=by
 refine aJ N1 rfl ?_
 refine cz ?_
 simp only[copied]
 simp only[List.length_map,Int.toNat_natCast]
 refine aT (fun σ:Nat×List Nat=>[(0,m.fz u),(3, .pt (nx+32) 1 0 0),(78,G8 m.bw),(79,i64 m.bw.length),(80,i64 σ.1)])
  (fun σ H n=>σ.1<=m.bw.length/\nx+77<=n/\σ.2.length=σ.1/\σ.2.Nodup/\(∀x∈σ.2,nx+77<=x/\x<n)/\(∃d,bo H (nx+32)=some (.row 135 8 d [.agg [cg u.shared,cg u.cE,dS u.br, .sl (nx+12) m.at_.length, .sl (nx+76) σ.1, .sl (nx+18) m.mem.length, .sl (nx+24) m.hold.length, .sl (nx+30) m.cC.length]]))/\(∃d,bo H (nx+12)=some (.row 3 1 d (m.at_.map i64)))/\(∃d,bo H (nx+18)=some (.row 2 1 d (m.mem.map i64)))/\(∃d,bo H (nx+24)=some (.row 3 1 d (m.hold.map i64)))/\(∃d,bo H (nx+30)=some (.row 102 2 d (m.cC.map cy.av)))/\(∃d,bo H (nx+76)=some (.row 57 1 d (ef σ.2 (m.bw.take σ.1))))/\(∀t,t<σ.1->∃d,bo H (σ.2.getD t 0)=some (.row 2 1 d ((m.bw.getD t []).map i64)))/\∀y,y<nx->bo H y=bo H0 y) (fun σ=>m.bw.length - σ.1) (0,[])
  ⟨_,_,_,Rt.wk (Wk.mA (b:=nx+32) (e:=57) (sz:=1) (by simp only[List.length_cons,List.length_nil];omega) (by omega) (te:=135) (tz:=8) (cs:=[cg u.shared,cg u.cE,dS u.br, .sl (nx+12) m.at_.length, .sc (.slice none 0 0), .sl (nx+18) m.mem.length, .sl (nx+24) m.hold.length, .sl (nx+30) m.cC.length]) (j:=4) bt (by show 4<8;omega) rfl),cG,Nat.zero_le _,cU,rfl,List.nodup_nil,fun x hx=>by simp at hx,⟨_,bt⟩,⟨_,bt⟩,⟨_,bt⟩,⟨_,bt⟩,⟨_,bt⟩,⟨_,bt⟩,fun t ht=>absurd ht (Nat.not_lt_zero _),fun y hy=>bx⟩ ?_
 rintro⟨t,ids⟩ H n ⟨ht,hn,hil,hnd,hin,⟨d0,r0⟩,⟨d1,r1⟩,⟨d2,r2⟩,⟨d3,r3⟩,⟨d4,r4⟩,⟨d5,r5⟩,hls,hkp⟩
 dsimp only at ht hil hnd hin r0 r5 hls ⊢
 have htk:(m.bw.take t).length=t:=by rw[List.length_take];omega
 have hrl:(ef ids (m.bw.take t)).length=t:=by unfold ef;rw[List.length_map,List.length_zip,htk,hil];omega
 by_cases htl:t<m.bw.length
 ·have e0:∀d,(m.bw.map de).getD ((t:Int)).toNat d=de (m.bw.getD t []):=fun d=>by rw[Int.toNat_natCast];exact dN de m.bw t d htl
  have a0:(m.bw.map de).length=m.bw.length:=by simp
  have hnx:ef (ids++[n+6]) (m.bw.take (t+1))=ef ids (m.bw.take t)++[.sl (n+6) (m.bw.getD t []).length]:=by
   rw[List.take_succ_eq_append_getElem htl,wu (by rw[hil,htk]),show m.bw.getD t []=m.bw[t] by simp[List.getD,htl]]
  have h7:=h6 _ (cR (l:=m.bw) [] htl)
  refine cz ?_
  simp only[copied]
  simp only[List.length_map,Int.toNat_natCast]
  refine⟨(t+1,ids++[n+6]),by dsimp only;omega,_,_,_,Rt.refl _ _ _,cG,by dsimp only;omega,by omega,by simp[hil], ?_, ?_,⟨_,bt⟩,⟨_,bt⟩,⟨_,bt⟩,⟨_,bt⟩,⟨_,bt⟩,⟨_,by dsimp only;rw[hnx];exact bt⟩, ?_,fun y hy=>Eq.trans bx (hkp y hy)⟩
  ·refine List.nodup_append.2 ⟨hnd,by simp,fun a ha b hb=> ?_⟩
   simp only[List.mem_cons,List.not_mem_nil,or_false] at hb
   have:=hin _ ha;omega
  ·intro x hx
   rcases List.mem_append.1 hx with hx|hx
   ·have:=hin _ hx;exact⟨this.1,Nat.lt_of_lt_of_le this.2 cU⟩
   ·simp only[List.mem_cons,List.not_mem_nil,or_false] at hx
    subst hx;exact⟨by omega,cU⟩
  ·intro q hq
   have hq:q<t+1:=hq
   by_cases e:q=t
   ·subst e
    have e2:(ids++[n+6]).getD q 0=n+6:=by rw[List.getD,List.getElem?_append_right (by omega),hil,Nat.sub_self];rfl
    dsimp only
    rw[e2];exact⟨_,bt⟩
   ·obtain⟨d,hd⟩:=hls q (by omega)
    have e2:(ids++[n+6]).getD q 0=ids.getD q 0:=by simp[List.getD,List.getElem?_append,show q<ids.length by omega]
    have:=hin _ (e9 (l:=ids) (q:=q) (by omega))
    dsimp only
    rw[e2];exact⟨d,Eq.trans bx hd⟩
 ·have:t=m.bw.length:=by omega
  subst this
  rw[List.take_length] at r5
  refine cz ?_
  refine⟨⟨nx+32,nx+12,nx+76,nx+18,nx+24,nx+30,ids,rfl,⟨⟨_,bt⟩,⟨_,bt⟩,⟨_,bt⟩,fun t ht=> ?_,⟨_,bt⟩,⟨_,bt⟩,⟨_,bt⟩,hil, ?_⟩, ?_,cU,fun y hy=>Eq.trans bx (hkp y hy)⟩⟩
  ·obtain⟨d,hd⟩:=hls t ht
   have:=hin _ (e9 (l:=ids) (q:=t) (by omega))
   exact⟨d,Eq.trans bx hd⟩
  ·have hno:∀k,k<nx+77->k∉ids:=fun k hk h=>by have:=hin _ h;omega
   simp only[List.nodup_cons,List.mem_cons,not_or]
   exact⟨⟨by omega,by omega,by omega,by omega,by omega,hno _ (by omega)⟩,⟨by omega,by omega,by omega,by omega,hno _ (by omega)⟩,⟨by omega,by omega,by omega,hno _ (by omega)⟩,⟨by omega,by omega,hno _ (by omega)⟩,⟨by omega,hno _ (by omega)⟩,hno _ (by omega),hnd⟩
  ·intro x hx
   simp only[List.mem_cons] at hx
   rcases hx with rfl|rfl|rfl|rfl|rfl|rfl|hx
   all_goals first
    |exact⟨by omega,by omega⟩
    |(have:=hin _ hx;exact⟨by omega,by omega⟩)
theorem pc {H:Hp} {k:Nat} {cs:List AV}:cw.dj H (k+1) (.agg cs)= .agg (cs.map (cw.dj H k)):=by simp only[dj]
theorem WW.dj {u:bq} {m:MS} {mr a s me ho pr:Nat} {ids:List Nat} {H:Hp} (h:WW u m mr a s me ho pr ids H) (k:Nat):cw.dj H (k+5) (.pt mr 1 0 0)=m.fz u:=by
 obtain⟨d1,h1⟩:=h.rM
 obtain⟨d2,h2⟩:=h.rA
 obtain⟨d3,h3⟩:=h.rS
 obtain⟨d4,h4⟩:=h.rE
 obtain⟨d5,h5⟩:=h.rH
 obtain⟨d6,h6⟩:=h.rP
 have hsl:(ef ids m.bw).length=m.bw.length:=by unfold ef;rw[List.length_map,List.length_zip,h.len];simp
 have hs:(ef ids m.bw).map (cw.dj H (k+2))=m.bw.map de:=by
  apply List.ext_getElem (by simp[hsl])
  intro t q1 q2
  have ht:t<m.bw.length:=by simpa using q2
  have hti:t<ids.length:=by rw[h.len];exact ht
  obtain⟨d,hd⟩:=h.rL t ht
  rw[show ids.getD t 0=ids[t] by simp[List.getD,hti],show m.bw.getD t []=m.bw[t] by simp[List.getD,ht]] at hd
  rw[List.getElem_map,List.getElem_map]
  simp only[ef,List.getElem_map,List.getElem_zip]
  rw[dv hd (by simp),cu _ ((cI _ _).2 fun _ _=>by simp[cF])]
 simp only[cw.dj,h1]
 simp only[List.length_cons,List.length_nil,if_true,List.map_cons,List.map_nil,MS.rows]
 rw[pc]
 simp only[List.map_cons,List.map_nil]
 rw[dv h2 (by simp),dv h3 hsl,dv h4 (by simp),dv h5 (by simp),dv h6 (by simp),hs]
 rw[cu _ ((cI _ _).2 fun _ _=>by simp[cF]),cu _ ((cI _ _).2 fun _ _=>by simp[cF]),cu _ ((cI _ _).2 fun _ _=>by simp[cF]),cu _ ((cI _ _).2 fun _ _=>by simp[cF])]
 rw[dG _ (show cF 0 (cg u.shared) by simp[cF,cI]),dG _ (show cF 0 (cg u.cE) by simp[cF,cI]),dG _ (show cF 0 (dS u.br) by simp[cF,cI])]
 rfl
def eC (u:bq):MS:=⟨u.br.map fun _=>0,u.br.map fun g=>List.replicate g.bw.toNat 0,u.shared.map Decl.word,u.cE.map fun _=>-1,[]⟩
theorem GU (u:bq) (hr:cN u) (hw:∀d∈u.shared,eW d.word) (hn:∀t,t<u.br.length->0<(u.gr t).nodes.length):ep u (eC u) where
 mK:=by simp[eC]
 iL:=fun t ht=>by
  have e:(eC u).at_.getD t 0=0:=by simp[eC,List.getD,ht]
  rw[e]
  exact⟨Int.le_refl _,by have:=hn t ht;omega⟩
 sl:=by simp[eC]
 yS:=fun t ht=>by
  have e:(eC u).bw.getD t []=List.replicate (u.gr t).bw.toNat 0:=by simp[eC,List.getD,bq.gr,ht]
  rw[e,List.length_replicate]
 E9:=fun t ht w hw=>by
  have e:(eC u).bw.getD t []=List.replicate (u.gr t).bw.toNat 0:=by simp[eC,List.getD,bq.gr,ht]
  rw[e] at hw
  rw[List.eq_of_mem_replicate hw]
  exact⟨by omega,by omega⟩
 ml:=by simp[eC]
 mw:=fun w h=>by
  obtain⟨d,hd,rfl⟩:=List.mem_map.1 h
  exact hw d hd
 hl:=by simp[eC]
 hw:=fun w h=>by
  obtain⟨d,hd,rfl⟩:=List.mem_map.1 h
  exact⟨by omega,by omega⟩
 pw:=fun p h=>by simp[eC] at h
abbrev yT (n:Int):Int:=IntKind.i64.wrap n
def J4 (a b:Int):Int:=if b=0 then 0 else if b=-1 then yT (0 - a) else yT (a.tdiv b)
def P4 (a b:Int):Int:=if b=0 then a else yT (a - yT (J4 a b * b))
def XD (a b:Int):Int:=yT ((BitVec.ofInt 64 a&&& BitVec.ofInt 64 b).toNat:Int)
def ZS (a b:Int):Int:=yT ((BitVec.ofInt 64 a|||BitVec.ofInt 64 b).toNat:Int)
def YP (a b:Int):Int:=yT ((BitVec.ofInt 64 a^^^BitVec.ofInt 64 b).toNat:Int)
def LS (b:Int):Int:=IntKind.u64.wrap ((BitVec.ofInt 64 (IntKind.u64.wrap b)&&& BitVec.ofInt 64 63).toNat:Int)
def YC (a b:Int):Int:=yT (a * 2^(min (LS b).toNat 64))
def TI (a b:Int):Int:=a.fdiv (2^(min (LS b).toNat 64))
def tr (t:Bool):Int:=if t=true then 1 else 0
theorem cp (t:Bool):Pure Tryz.prog 158 [bl t] (fun r=>r=i64 (tr t)):=by
 refine aD A4 rfl ?_
 repeat' (first|refine aQ ?_|exact aC|with_reducible refine aB ?_ ?_|(apply aA;(·exact bz))|refine aH ?_|((with_reducible refine aE ?_ ?_)<;>intro hc<;>try(exfalso;omega)))
 all_goals simp_all[tr]
theorem pU (a b:Int):Pure Tryz.prog 139 [i64 a,i64 b] (fun r=>r=i64 (yT (a+b))):=by
 refine aD AK rfl ?_
 repeat' (first|refine aQ ?_|exact aC|with_reducible refine aB ?_ ?_|(apply aA;(·exact bz))|refine aH ?_|((with_reducible refine aE ?_ ?_)<;>intro hc<;>try(exfalso;omega)))
 all_goals exact rfl
theorem qT (a b:Int):Pure Tryz.prog 140 [i64 a,i64 b] (fun r=>r=i64 (yT (a - b))):=by
 refine aD AL rfl ?_
 repeat' (first|refine aQ ?_|exact aC|with_reducible refine aB ?_ ?_|(apply aA;(·exact bz))|refine aH ?_|((with_reducible refine aE ?_ ?_)<;>intro hc<;>try(exfalso;omega)))
 all_goals exact rfl
theorem qC (a b:Int):Pure Tryz.prog 141 [i64 a,i64 b] (fun r=>r=i64 (yT (a * b))):=by
 refine aD AM rfl ?_
 repeat' (first|refine aQ ?_|exact aC|with_reducible refine aB ?_ ?_|(apply aA;(·exact bz))|refine aH ?_|((with_reducible refine aE ?_ ?_)<;>intro hc<;>try(exfalso;omega)))
 all_goals exact rfl
theorem jI (a b:Int):Pure Tryz.prog 142 [i64 a,i64 b] (fun r=>r=i64 (J4 a b)):=by
 refine aD AN rfl ?_
 repeat' (first|refine aQ ?_|exact aC|with_reducible refine aB ?_ ?_|(apply aA;(·exact bz))|refine aH ?_|((with_reducible refine aE ?_ ?_)<;>intro hc<;>try(exfalso;omega)))
 all_goals simp_all[J4]
theorem qO (a b:Int):Pure Tryz.prog 143 [i64 a,i64 b] (fun r=>r=i64 (P4 a b)):=by
 refine aD AO rfl ?_
 repeat' (first|refine aQ ?_|exact aC|with_reducible refine aB ?_ ?_|(apply aA;(·exact bz))|((with_reducible refine aO (jI _ _) ?_ ?_);(·exact cH))|((with_reducible refine aN (fun _=>jI _ _) ?_ ?_);(·exact cH))|((with_reducible refine aL (jI _ _) ?_ ?_);(·exact cH))|((with_reducible refine aM (fun _=>jI _ _) ?_ ?_);(·exact cH))|refine aH ?_|((with_reducible refine aE ?_ ?_)<;>intro hc<;>try(exfalso;omega)))
 all_goals simp_all[P4]
theorem pV (a b:Int):Pure Tryz.prog 144 [i64 a,i64 b] (fun r=>r=i64 (XD a b)):=by
 refine aD AP rfl ?_
 repeat' (first|refine aQ ?_|exact aC|with_reducible refine aB ?_ ?_|(apply aA;(·exact bz))|refine aH ?_|((with_reducible refine aE ?_ ?_)<;>intro hc<;>try(exfalso;omega)))
 all_goals exact rfl
theorem qI (a b:Int):Pure Tryz.prog 145 [i64 a,i64 b] (fun r=>r=i64 (ZS a b)):=by
 refine aD AQ rfl ?_
 repeat' (first|refine aQ ?_|exact aC|with_reducible refine aB ?_ ?_|(apply aA;(·exact bz))|refine aH ?_|((with_reducible refine aE ?_ ?_)<;>intro hc<;>try(exfalso;omega)))
 all_goals exact rfl
theorem qZ (a b:Int):Pure Tryz.prog 146 [i64 a,i64 b] (fun r=>r=i64 (YP a b)):=by
 refine aD AR rfl ?_
 repeat' (first|refine aQ ?_|exact aC|with_reducible refine aB ?_ ?_|(apply aA;(·exact bz))|refine aH ?_|((with_reducible refine aE ?_ ?_)<;>intro hc<;>try(exfalso;omega)))
 all_goals exact rfl
theorem qQ (a b:Int):Pure Tryz.prog 147 [i64 a,i64 b] (fun r=>r=i64 (YC a b)):=by
 refine aD AS rfl ?_
 repeat' (first|refine aQ ?_|exact aC|with_reducible refine aB ?_ ?_|(apply aA;(·exact bz))|refine aH ?_|((with_reducible refine aE ?_ ?_)<;>intro hc<;>try(exfalso;omega)))
 all_goals exact rfl
theorem qR (a b:Int):Pure Tryz.prog 148 [i64 a,i64 b] (fun r=>r=i64 (TI a b)):=by
 refine aD AT rfl ?_
 repeat' (first|refine aQ ?_|exact aC|with_reducible refine aB ?_ ?_|(apply aA;(·exact bz))|refine aH ?_|((with_reducible refine aE ?_ ?_)<;>intro hc<;>try(exfalso;omega)))
 all_goals exact rfl
theorem se (a b:Int):Pure Tryz.prog 149 [i64 a,i64 b] (fun r=>r=i64 (tr (decide (a=b)))):=by
 refine aD AU rfl ?_
 repeat' (first|refine aQ ?_|exact aC|with_reducible refine aB ?_ ?_|(apply aA;(·exact bz))|((with_reducible refine aO (cp _) ?_ ?_);(·exact cH))|((with_reducible refine aN (fun _=>cp _) ?_ ?_);(·exact cH))|((with_reducible refine aL (cp _) ?_ ?_);(·exact cH))|((with_reducible refine aM (fun _=>cp _) ?_ ?_);(·exact cH))|refine aH ?_|((with_reducible refine aE ?_ ?_)<;>intro hc<;>try(exfalso;omega)))
 all_goals exact rfl
theorem ln (a b:Int):Pure Tryz.prog 150 [i64 a,i64 b] (fun r=>r=i64 (tr (decide (a≠b)))):=by
 refine aD AW rfl ?_
 repeat' (first|refine aQ ?_|exact aC|with_reducible refine aB ?_ ?_|(apply aA;(·exact bz))|((with_reducible refine aO (cp _) ?_ ?_);(·exact cH))|((with_reducible refine aN (fun _=>cp _) ?_ ?_);(·exact cH))|((with_reducible refine aL (cp _) ?_ ?_);(·exact cH))|((with_reducible refine aM (fun _=>cp _) ?_ ?_);(·exact cH))|refine aH ?_|((with_reducible refine aE ?_ ?_)<;>intro hc<;>try(exfalso;omega)))
 all_goals exact rfl
theorem nh (a b:Int):Pure Tryz.prog 151 [i64 a,i64 b] (fun r=>r=i64 (tr (decide (a<b)))):=by
 refine aD AX rfl ?_
 repeat' (first|refine aQ ?_|exact aC|with_reducible refine aB ?_ ?_|(apply aA;(·exact bz))|((with_reducible refine aO (cp _) ?_ ?_);(·exact cH))|((with_reducible refine aN (fun _=>cp _) ?_ ?_);(·exact cH))|((with_reducible refine aL (cp _) ?_ ?_);(·exact cH))|((with_reducible refine aM (fun _=>cp _) ?_ ?_);(·exact cH))|refine aH ?_|((with_reducible refine aE ?_ ?_)<;>intro hc<;>try(exfalso;omega)))
 all_goals exact rfl
theorem nj (a b:Int):Pure Tryz.prog 152 [i64 a,i64 b] (fun r=>r=i64 (tr (decide (a<=b)))):=by
 refine aD AY rfl ?_
 repeat' (first|refine aQ ?_|exact aC|with_reducible refine aB ?_ ?_|(apply aA;(·exact bz))|((with_reducible refine aO (cp _) ?_ ?_);(·exact cH))|((with_reducible refine aN (fun _=>cp _) ?_ ?_);(·exact cH))|((with_reducible refine aL (cp _) ?_ ?_);(·exact cH))|((with_reducible refine aM (fun _=>cp _) ?_ ?_);(·exact cH))|refine aH ?_|((with_reducible refine aE ?_ ?_)<;>intro hc<;>try(exfalso;omega)))
 all_goals exact rfl
theorem lZ (a b:Int):Pure Tryz.prog 153 [i64 a,i64 b] (fun r=>r=i64 (tr (decide (b<a)))):=by
 refine aD AZ rfl ?_
 repeat' (first|refine aQ ?_|exact aC|with_reducible refine aB ?_ ?_|(apply aA;(·exact bz))|((with_reducible refine aO (cp _) ?_ ?_);(·exact cH))|((with_reducible refine aN (fun _=>cp _) ?_ ?_);(·exact cH))|((with_reducible refine aL (cp _) ?_ ?_);(·exact cH))|((with_reducible refine aM (fun _=>cp _) ?_ ?_);(·exact cH))|refine aH ?_|((with_reducible refine aE ?_ ?_)<;>intro hc<;>try(exfalso;omega)))
 all_goals exact rfl
theorem lq (a b:Int):Pure Tryz.prog 154 [i64 a,i64 b] (fun r=>r=i64 (tr (decide (b<=a)))):=by
 refine aD A0 rfl ?_
 repeat' (first|refine aQ ?_|exact aC|with_reducible refine aB ?_ ?_|(apply aA;(·exact bz))|((with_reducible refine aO (cp _) ?_ ?_);(·exact cH))|((with_reducible refine aN (fun _=>cp _) ?_ ?_);(·exact cH))|((with_reducible refine aL (cp _) ?_ ?_);(·exact cH))|((with_reducible refine aM (fun _=>cp _) ?_ ?_);(·exact cH))|refine aH ?_|((with_reducible refine aE ?_ ?_)<;>intro hc<;>try(exfalso;omega)))
 all_goals exact rfl
theorem lz (a:Int):Pure Tryz.prog 155 [i64 a] (fun r=>r=i64 (yT (0 - a))):=by
 refine aD A1 rfl ?_
 repeat' (first|refine aQ ?_|exact aC|with_reducible refine aB ?_ ?_|(apply aA;(·exact bz))|refine aH ?_|((with_reducible refine aE ?_ ?_)<;>intro hc<;>try(exfalso;omega)))
 all_goals exact rfl
theorem qF (a:Int):Pure Tryz.prog 156 [i64 a] (fun r=>r=i64 (tr (decide (a=0)))):=by
 refine aD A2 rfl ?_
 repeat' (first|refine aQ ?_|exact aC|with_reducible refine aB ?_ ?_|(apply aA;(·exact bz))|((with_reducible refine aO (cp _) ?_ ?_);(·exact cH))|((with_reducible refine aN (fun _=>cp _) ?_ ?_);(·exact cH))|((with_reducible refine aL (cp _) ?_ ?_);(·exact cH))|((with_reducible refine aM (fun _=>cp _) ?_ ?_);(·exact cH))|refine aH ?_|((with_reducible refine aE ?_ ?_)<;>intro hc<;>try(exfalso;omega)))
 all_goals exact rfl
def UL:AV:= .agg [.sc .nilFunc, .sc .nilFunc, .fn (.func 139) [] [], .sc .nilFunc, .fn (.func 140) [] [], .sc .nilFunc, .fn (.func 141) [] [], .sc .nilFunc, .fn (.func 142) [] [], .sc .nilFunc, .fn (.func 143) [] [], .sc .nilFunc, .fn (.func 144) [] [], .sc .nilFunc, .fn (.func 145) [] [], .sc .nilFunc, .fn (.func 146) [] [], .sc .nilFunc, .fn (.func 147) [] [], .sc .nilFunc, .fn (.func 148) [] [], .sc .nilFunc, .fn (.func 149) [] [], .sc .nilFunc, .fn (.func 150) [] [], .sc .nilFunc, .fn (.func 151) [] [], .sc .nilFunc, .fn (.func 152) [] [], .sc .nilFunc, .fn (.func 153) [] [], .sc .nilFunc, .fn (.func 154) [] [], .sc .nilFunc, .sc .nilFunc, .fn (.func 155) [] [], .sc .nilFunc, .fn (.func 156) [] []]
theorem nF:Pure Tryz.prog 137 [] (fun r=>r=UL):=by
 refine dO ?_ (by simp[UL,cF,cT])
 refine aJ AI rfl ?_
 refine cz ?_
 exact⟨rfl⟩
def TY (op a b:Int):Int:=if op=1 then yT (a+b) else if op=2 then yT (a - b) else if op=3 then yT (a * b) else if op=4 then J4 a b else if op=5 then P4 a b else if op=6 then XD a b else if op=7 then ZS a b else if op=8 then YP a b else if op=9 then YC a b else if op=10 then TI a b else if op=11 then tr (decide (a=b)) else if op=12 then tr (decide (a≠b)) else if op=13 then tr (decide (a<b)) else if op=14 then tr (decide (a<=b)) else if op=15 then tr (decide (b<a)) else tr (decide (b<=a))
def S4 (op a:Int):Int:=if op=17 then yT (0 - a) else tr (decide (a=0))
theorem KL {op:Int} (h:dY op=true):op=1\/op=2\/op=3\/op=4\/op=5\/op=6\/op=7\/op=8\/op=9\/op=10\/op=11\/op=12\/op=13\/op=14\/op=15\/op=16:=by
 simp only[dY,Bool.and_eq_true,decide_eq_true_eq] at h;omega
theorem UU (op a b:Int) (h:dY op=true):Pure Tryz.prog 128 [u8 op,i64 a,i64 b] (fun r=>r= .df [i64 (TY op a b),i64 0]):=by
 refine aD AB rfl ?_
 rcases KL h with rfl|rfl|rfl|rfl|rfl|rfl|rfl|rfl|rfl|rfl|rfl|rfl|rfl|rfl|rfl|rfl
 all_goals repeat' (first|refine aQ ?_|exact aC|with_reducible refine aB ?_ ?_|(apply aA;(·exact bz))|((with_reducible refine aO (fe _ (by omega)) ?_ ?_);(·exact cH))|((with_reducible refine aN (fun _=>fe _ (by omega)) ?_ ?_);(·exact cH))|((with_reducible refine aL (fe _ (by omega)) ?_ ?_);(·exact cH))|((with_reducible refine aM (fun _=>fe _ (by omega)) ?_ ?_);(·exact cH))|refine aK (nF) ?_|((with_reducible refine aO (pU _ _) ?_ ?_);(·exact cH))|((with_reducible refine aN (fun _=>pU _ _) ?_ ?_);(·exact cH))|((with_reducible refine aL (pU _ _) ?_ ?_);(·exact cH))|((with_reducible refine aM (fun _=>pU _ _) ?_ ?_);(·exact cH))|((with_reducible refine aO (qT _ _) ?_ ?_);(·exact cH))|((with_reducible refine aN (fun _=>qT _ _) ?_ ?_);(·exact cH))|((with_reducible refine aL (qT _ _) ?_ ?_);(·exact cH))|((with_reducible refine aM (fun _=>qT _ _) ?_ ?_);(·exact cH))|((with_reducible refine aO (qC _ _) ?_ ?_);(·exact cH))|((with_reducible refine aN (fun _=>qC _ _) ?_ ?_);(·exact cH))|((with_reducible refine aL (qC _ _) ?_ ?_);(·exact cH))|((with_reducible refine aM (fun _=>qC _ _) ?_ ?_);(·exact cH))|((with_reducible refine aO (jI _ _) ?_ ?_);(·exact cH))|((with_reducible refine aN (fun _=>jI _ _) ?_ ?_);(·exact cH))|((with_reducible refine aL (jI _ _) ?_ ?_);(·exact cH))|((with_reducible refine aM (fun _=>jI _ _) ?_ ?_);(·exact cH))|((with_reducible refine aO (qO _ _) ?_ ?_);(·exact cH))|((with_reducible refine aN (fun _=>qO _ _) ?_ ?_);(·exact cH))|((with_reducible refine aL (qO _ _) ?_ ?_);(·exact cH))|((with_reducible refine aM (fun _=>qO _ _) ?_ ?_);(·exact cH))|((with_reducible refine aO (pV _ _) ?_ ?_);(·exact cH))|((with_reducible refine aN (fun _=>pV _ _) ?_ ?_);(·exact cH))|((with_reducible refine aL (pV _ _) ?_ ?_);(·exact cH))|((with_reducible refine aM (fun _=>pV _ _) ?_ ?_);(·exact cH))|((with_reducible refine aO (qI _ _) ?_ ?_);(·exact cH))|((with_reducible refine aN (fun _=>qI _ _) ?_ ?_);(·exact cH))|((with_reducible refine aL (qI _ _) ?_ ?_);(·exact cH))|((with_reducible refine aM (fun _=>qI _ _) ?_ ?_);(·exact cH))|((with_reducible refine aO (qZ _ _) ?_ ?_);(·exact cH))|((with_reducible refine aN (fun _=>qZ _ _) ?_ ?_);(·exact cH))|((with_reducible refine aL (qZ _ _) ?_ ?_);(·exact cH))|((with_reducible refine aM (fun _=>qZ _ _) ?_ ?_);(·exact cH))|((with_reducible refine aO (qQ _ _) ?_ ?_);(·exact cH))|((with_reducible refine aN (fun _=>qQ _ _) ?_ ?_);(·exact cH))|((with_reducible refine aL (qQ _ _) ?_ ?_);(·exact cH))|((with_reducible refine aM (fun _=>qQ _ _) ?_ ?_);(·exact cH))|((with_reducible refine aO (qR _ _) ?_ ?_);(·exact cH))|((with_reducible refine aN (fun _=>qR _ _) ?_ ?_);(·exact cH))|((with_reducible refine aL (qR _ _) ?_ ?_);(·exact cH))|((with_reducible refine aM (fun _=>qR _ _) ?_ ?_);(·exact cH))|((with_reducible refine aO (se _ _) ?_ ?_);(·exact cH))|((with_reducible refine aN (fun _=>se _ _) ?_ ?_);(·exact cH))|((with_reducible refine aL (se _ _) ?_ ?_);(·exact cH))|((with_reducible refine aM (fun _=>se _ _) ?_ ?_);(·exact cH))|((with_reducible refine aO (ln _ _) ?_ ?_);(·exact cH))|((with_reducible refine aN (fun _=>ln _ _) ?_ ?_);(·exact cH))|((with_reducible refine aL (ln _ _) ?_ ?_);(·exact cH))|((with_reducible refine aM (fun _=>ln _ _) ?_ ?_);(·exact cH))|((with_reducible refine aO (nh _ _) ?_ ?_);(·exact cH))|((with_reducible refine aN (fun _=>nh _ _) ?_ ?_);(·exact cH))|((with_reducible refine aL (nh _ _) ?_ ?_);(·exact cH))|((with_reducible refine aM (fun _=>nh _ _) ?_ ?_);(·exact cH))|((with_reducible refine aO (nj _ _) ?_ ?_);(·exact cH))|((with_reducible refine aN (fun _=>nj _ _) ?_ ?_);(·exact cH))|((with_reducible refine aL (nj _ _) ?_ ?_);(·exact cH))|((with_reducible refine aM (fun _=>nj _ _) ?_ ?_);(·exact cH))|((with_reducible refine aO (lZ _ _) ?_ ?_);(·exact cH))|((with_reducible refine aN (fun _=>lZ _ _) ?_ ?_);(·exact cH))|((with_reducible refine aL (lZ _ _) ?_ ?_);(·exact cH))|((with_reducible refine aM (fun _=>lZ _ _) ?_ ?_);(·exact cH))|((with_reducible refine aO (lq _ _) ?_ ?_);(·exact cH))|((with_reducible refine aN (fun _=>lq _ _) ?_ ?_);(·exact cH))|((with_reducible refine aL (lq _ _) ?_ ?_);(·exact cH))|((with_reducible refine aM (fun _=>lq _ _) ?_ ?_);(·exact cH))|refine aH ?_|((with_reducible refine aE ?_ ?_)<;>intro hc<;>try(exfalso;omega)))
 all_goals (first|exact rfl|trace_state)
theorem RB (op a:Int) (h:op=17\/op=18):Pure Tryz.prog 129 [u8 op,i64 a] (fun r=>r= .df [i64 (S4 op a),i64 0]):=by
 refine aD AD rfl ?_
 rcases h with rfl|rfl
 all_goals repeat' (first|refine aQ ?_|exact aC|with_reducible refine aB ?_ ?_|(apply aA;(·exact bz))|((with_reducible refine aO (gK _) ?_ ?_);(·exact cH))|((with_reducible refine aN (fun _=>gK _) ?_ ?_);(·exact cH))|((with_reducible refine aL (gK _) ?_ ?_);(·exact cH))|((with_reducible refine aM (fun _=>gK _) ?_ ?_);(·exact cH))|((with_reducible refine aO (fe _ (by omega)) ?_ ?_);(·exact cH))|((with_reducible refine aN (fun _=>fe _ (by omega)) ?_ ?_);(·exact cH))|((with_reducible refine aL (fe _ (by omega)) ?_ ?_);(·exact cH))|((with_reducible refine aM (fun _=>fe _ (by omega)) ?_ ?_);(·exact cH))|refine aK (nF) ?_|((with_reducible refine aO (lz _) ?_ ?_);(·exact cH))|((with_reducible refine aN (fun _=>lz _) ?_ ?_);(·exact cH))|((with_reducible refine aL (lz _) ?_ ?_);(·exact cH))|((with_reducible refine aM (fun _=>lz _) ?_ ?_);(·exact cH))|((with_reducible refine aO (qF _) ?_ ?_);(·exact cH))|((with_reducible refine aN (fun _=>qF _) ?_ ?_);(·exact cH))|((with_reducible refine aL (qF _) ?_ ?_);(·exact cH))|((with_reducible refine aM (fun _=>qF _) ?_ ?_);(·exact cH))|refine aH ?_|((with_reducible refine aE ?_ ?_)<;>intro hc<;>try(exfalso;omega)))
 all_goals (first|exact rfl|trace_state)
structure iU where
 cn:Int
 node:Int
 kind:Int
 cB:Int
 word:Int
 put:Int
 deriving Inhabited,DecidableEq
def iU.cells (d:iU):List AV:=[i64 d.cn,i64 d.node,u8 d.kind,i64 d.cB,i64 d.word,i64 d.put]
abbrev iU.av (d:iU):AV:= .agg d.cells
def MS.val (m:MS) (t:Nat) (v:kq):Int:=if v.ee then(m.bw.getD t []).getD v.slot.toNat 0 else v.word
def MS.fS (m:MS) (t:Nat) (k:Int) (w:Int):MS:={ m with bw:=m.bw.set t ((m.bw.getD t []).set k.toNat w) }
def MS.mS (m:MS) (t:Nat) (n:Node):Int:=if dY n.op then TY n.op (m.val t n.a) (m.val t n.b) else if n.op≠0 then S4 n.op (m.val t n.a) else m.val t n.a
def MS.act (m:MS) (t:Nat) (n:Node):MS×Int×Int×Int×Int:=
 if n.kind=1 then(m.fS t n.slot (m.mS t n),n.next,0,m.mS t n,0)
 else if n.kind=2 then(m.fS t n.slot (m.mem.getD n.cB.toNat 0),n.next,n.cB,m.mem.getD n.cB.toNat 0,0)
 else if n.kind=3 then({ m with mem:=m.mem.set n.cB.toNat (m.val t n.a) },n.next,n.cB,m.val t n.a,0)
 else if n.kind=4 then({ m.fS t n.slot (m.mem.getD n.cB.toNat 0) with mem:=m.mem.set n.cB.toNat (m.val t n.a) },n.next,n.cB,m.mem.getD n.cB.toNat 0,m.val t n.a)
 else if n.kind=5 then({ m with hold:=m.hold.set n.cB.toNat t },n.next,n.cB,0,0)
 else if n.kind=6 then({ m with hold:=m.hold.set n.cB.toNat (-1) },n.next,n.cB,0,0)
 else if n.kind=7 then({ m with cC:=m.cC++[⟨t,m.val t n.a⟩] },n.next,0,m.val t n.a,0)
 else(m,if m.val t n.a=0 then n.iu else n.next,0,m.val t n.a,0)
def MS.step (u:bq) (m:MS) (t:Nat):MS×iU:=
 let n:=m.node u t
 let r:=m.act t n
 ({ r.1 with at_:=m.at_.set t r.2.1 },⟨t,m.at_.getD t 0,n.kind,r.2.2.1,r.2.2.2.1,r.2.2.2.2⟩)
end Go.Proofs.YtekfmjjmihomlaaGreatDoor
