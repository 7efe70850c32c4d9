import Derived.Test.YtlonbgdonffcbaaGreatDoorM22
section
/- A machine at its place. -/
namespace Go.Proofs.YtlonbgdonffcbaaGreatDoor
open Go Go.cW Go.Proofs
set_option linter.unusedSimpArgs false
structure dC where
 pc:Int
 addr:Int
 word:Int
 deriving Inhabited,DecidableEq
abbrev dC.av (s:dC):AV:= .agg [i64 s.pc,i64 s.addr,i64 s.word]
structure bx where
 pc:Int
 halted:Bool
 dg:Nat→Int
 buf:List dC
 deriving Inhabited
def bx.cells (c:bx) (v:AV):List AV:=[i64 c.pc,bl c.halted,i64 (c.dg 0),i64 (c.dg 1),i64 (c.dg 2),i64 (c.dg 3),i64 (c.dg 4),i64 (c.dg 5),i64 (c.dg 6),i64 (c.dg 7),i64 (c.dg 8),i64 (c.dg 9),i64 (c.dg 10),i64 (c.dg 11),i64 (c.dg 12),i64 (c.dg 13),i64 (c.dg 14),i64 (c.dg 15),v]
abbrev bx.av (c:bx) (b:Nat):AV:= .agg (c.cells (.sl b c.buf.length))
def mA (f:Nat→Int) (k:Int) (w:Int):Nat→Int:=fun j=>if j=k.toNat then w else f j
def bx.put (c:bx) (k:Int) (w:Int):bx:={ c with dg:=mA c.dg k w }
structure dy where
 kind:Int
 core:Int
 pc:Int
 addr:Int
 word:Int
 put:Int
 own:Bool
 deriving Inhabited,DecidableEq
abbrev dy.av (d:dy):AV:= .agg [u8 d.kind,i64 d.core,i64 d.pc,i64 d.addr,i64 d.word,i64 d.put,bl d.own]
structure cD where
 ch:Int
 word:Int
 deriving Inhabited,DecidableEq
abbrev cD.av (p:cD):AV:= .agg [i64 p.ch,i64 p.word]
structure bk where
 bf:List bx
 mem:List Int
 bg:List cD
 deriving Inhabited
structure Lay where
 m:Nat
 c:Nat
 mem:Nat
 pr:Nat
 cY:List Nat
def Lay.ids (L:Lay):List Nat:=L.m::L.c::L.mem::L.pr::L.cY
abbrev jx (o:Obj) (s:bk) (L:Lay):AV:= .agg [.sc (.slice none 0 0),i64 o.shared,i64 o.gu,i64 o.buffer, .im 2 .any (o.bf.map Core.av), .sl L.c s.bf.length, .sl L.mem s.mem.length, .sl L.pr s.bg.length]
def rows (s:bk) (L:Lay):List AV:=List.zipWith bx.av s.bf L.cY
structure fe (o:Obj) (s:bk) (L:Lay) (H:Hp) (nx:Nat):Prop where
 m:∃d,bd H L.m=some (.row 77 8 d [jx o s L])
 c:∃d,bd H L.c=some (.row 93 19 d (rows s L))
 mem:∃d,bd H L.mem=some (.row 2 1 d (s.mem.map i64))
 pr:∃d,bd H L.pr=some (.row 68 2 d (s.bg.map cD.av))
 cY:∀i,i<s.bf.length→∃d,bd H (L.cY.getD i 0)=some (.row 125 3 d ((s.bf.getD i default).buf.map dC.av))
 lens:L.cY.length=s.bf.length
 lt:∀b∈L.ids,b<nx
 nodup:L.ids.Nodup
structure l6 (L L':Lay) (nx:Nat):Prop where
 m:L'.m=L.m
 ids:∀b∈L'.ids,b∈L.ids∨nx≤b
theorem l6.refl (L:Lay) (nx:Nat):l6 L L nx:=⟨rfl,fun _ h=> .inl h⟩
theorem l6.trans {L L' L'':Lay} {n n':Nat} (h:l6 L L' n) (h':l6 L' L'' n') (hn:n≤n'):l6 L L'' n:=by
 refine⟨h'.m.trans h.m,fun b hb=> ?_⟩
 rcases h'.ids b hb with h1|h1
 ·exact h.ids b h1
 ·exact .inr (by omega)
structure ND (L:Lay) (q:Nat):Prop where
 mc:L.m≠L.c
 PZ:L.m≠L.mem
 mpr:L.m≠L.pr
 PT:L.c≠L.mem
 P2:L.c≠L.pr
 PK:L.mem≠L.pr
 mb:L.m≠L.cY.getD q 0
 cb:L.c≠L.cY.getD q 0
 O9:L.mem≠L.cY.getD q 0
 P0:L.pr≠L.cY.getD q 0
theorem Lay.jz {L:Lay} {q:Nat} (h:q<L.cY.length):L.cY.getD q 0∈L.cY:=by
 have:L.cY.getD q 0=L.cY[q]:=by simp[List.getD,h]
 rw[this];exact List.getElem_mem h
theorem fe.apart {o:Obj} {s:bk} {L:Lay} {H:Hp} {nx:Nat} (h:fe o s L H nx) {q:Nat} (hq:q<s.bf.length):ND L q:=by
 have hb:=Lay.jz (L:=L) (q:=q) (by rw[h.lens];exact hq)
 have hn:=h.nodup
 simp only[Lay.ids,List.nodup_cons,List.mem_cons,not_or] at hn
 obtain⟨⟨h1,h2,h3,h4⟩,⟨h5,h6,h7⟩,⟨h8,h9⟩,h10,h11⟩:=hn
 exact⟨h1,h2,h3,h5,h6,h8,fun h=>h4 (h▸hb),fun h=>h7 (h▸hb),fun h=>h9 (h▸hb),fun h=>h10 (h▸hb)⟩
theorem fe.other {o:Obj} {s:bk} {L:Lay} {H:Hp} {nx:Nat} (h:fe o s L H nx) {q j:Nat} (hq:q<s.bf.length) (hj:j<s.bf.length) (hne:j≠q):L.cY.getD j 0≠L.cY.getD q 0:=by
 have hn:=h.nodup
 simp only[Lay.ids,List.nodup_cons] at hn
 have hb:L.cY.Nodup:=hn.2.2.2.2
 have e1:L.cY.getD j 0=L.cY[j]'(by rw[h.lens];exact hj):=by simp[List.getD,h.lens,hj]
 have e2:L.cY.getD q 0=L.cY[q]'(by rw[h.lens];exact hq):=by simp[List.getD,h.lens,hq]
 rw[e1,e2]
 have hp:=List.pairwise_iff_getElem.1 hb
 rcases Nat.lt_or_gt_of_ne hne with h1|h1
 ·exact hp _ _ _ _ h1
 ·exact(hp _ _ _ _ h1).symm
structure PQ (L:Lay) (q nx:Nat):Prop where
 m:L.m<nx
 c:L.c<nx
 mem:L.mem<nx
 pr:L.pr<nx
 b:L.cY.getD q 0<nx
theorem fe.pJ {o:Obj} {s:bk} {L:Lay} {H:Hp} {nx:Nat} (h:fe o s L H nx) {q:Nat} (hq:q<s.bf.length):PQ L q nx:=by
 have hb:=Lay.jz (L:=L) (q:=q) (by rw[h.lens];exact hq)
 constructor<;>refine h.lt _ ?_<;>simp[Lay.ids]
 exact .inr (.inr (.inr (.inr (by simpa using hb))))
@[simp] theorem dG {o:Obj} {s:bk} {L:Lay} {H:Hp} {nx:Nat} (h:fe o s L H nx):(rows s L).length=s.bf.length:=by
  simp[rows,h.lens]
theorem eM {o:Obj} {s:bk} {L:Lay} {H:Hp} {nx:Nat} (h:fe o s L H nx) {q:Nat} (hq:q<s.bf.length) (d:AV):(rows s L).getD q d=(s.bf.getD q default).av (L.cY.getD q 0):=by
 have h2:q<L.cY.length:=by rw[h.lens];exact hq
 have h3:q<(rows s L).length:=by rw[dG h];exact hq
 rw[List.getD,List.getElem?_eq_getElem h3]
 simp[rows,List.getD,hq,h2]
theorem GX {s:bk} {L:Lay} {q:Nat} (c:bx) (b:Nat) (mem:List Int) (pr:List cD):rows ⟨s.bf.set q c,mem,pr⟩ { L with cY:=L.cY.set q b }=(rows s L).set q (c.av b):=by
 simp only[rows]
 apply List.ext_getElem
 ·simp
 ·intro i h1 h2
  simp only[List.getElem_zipWith,List.getElem_set]
  by_cases h:q=i<;>simp[h]
theorem A9 {l:List Nat} {q b:Nat} (h:l.Nodup) (hb:b∉l):(l.set q b).Nodup:=by
 refine List.pairwise_iff_getElem.2 fun i j hi hj hij=> ?_
 have hp:=List.pairwise_iff_getElem.1 h
 simp only[List.length_set] at hi hj
 simp only[List.getElem_set]
 by_cases e1:q=i
 ·rw[if_pos e1,if_neg (by omega)]
  intro he;exact hb (he▸List.getElem_mem hj)
 ·rw[if_neg e1]
  by_cases e2:q=j
  ·rw[if_pos e2]
   intro he;exact hb (he▸List.getElem_mem hi)
  ·rw[if_neg e2];exact hp _ _ _ _ hij
theorem fe.next {o:Obj} {s:bk} {L:Lay} {H H':Hp} {nx nx':Nat} (h:fe o s L H nx) {q:Nat} (hq:q<s.bf.length) (c:bx) (b:Nat) (mem:List Int) (pr:List cD)
 (hn:nx≤nx') (hb:b=L.cY.getD q 0∨(nx≤b∧b<nx'))
 (h1:∃d es,bd H' L.m=some (.row 77 8 d es)∧es=[.agg [.sc (.slice none 0 0),i64 o.shared,i64 o.gu,i64 o.buffer, .im 2 .any (o.bf.map Core.av), .sl L.c s.bf.length, .sl L.mem mem.length, .sl L.pr pr.length]])
 (h2:∃d es,bd H' L.c=some (.row 93 19 d es)∧es=(rows s L).set q (c.av b))
 (h3:∃d es,bd H' L.mem=some (.row 2 1 d es)∧es=mem.map i64)
 (h4:∃d es,bd H' L.pr=some (.row 68 2 d es)∧es=pr.map cD.av)
 (h5:∃d es,bd H' b=some (.row 125 3 d es)∧es=c.buf.map dC.av)
 (h6:∀j,j<s.bf.length→j≠q→L.cY.getD j 0<nx→L.cY.getD j 0≠L.m→L.cY.getD j 0≠L.c→L.cY.getD j 0≠L.mem→L.cY.getD j 0≠L.pr→L.cY.getD j 0≠L.cY.getD q 0→bd H' (L.cY.getD j 0)=bd H (L.cY.getD j 0)):
 fe o ⟨s.bf.set q c,mem,pr⟩ { L with cY:=L.cY.set q b } H' nx'∧l6 L { L with cY:=L.cY.set q b } nx:=by
 have hqb:q<L.cY.length:=by rw[h.lens];exact hq
 obtain⟨e1,_,h1,rfl⟩:=h1
 obtain⟨e2,_,h2,rfl⟩:=h2
 obtain⟨e3,_,h3,rfl⟩:=h3
 obtain⟨e4,_,h4,rfl⟩:=h4
 obtain⟨e5,_,h5,rfl⟩:=h5
 refine⟨⟨⟨e1, ?_⟩,⟨e2, ?_⟩,⟨_,h3⟩,⟨_,h4⟩, ?_, ?_, ?_, ?_⟩,⟨rfl, ?_⟩⟩
 ·rw[h1];simp
 ·rw[GX];exact h2
 ·intro i hi
  simp only[List.length_set] at hi
  by_cases he:i=q
  ·subst he
   simp only[List.getD,List.getElem?_set_self hqb,List.getElem?_set_self hq,Option.getD_some]
   exact⟨_,h5⟩
  ·have e1:(L.cY.set q b).getD i 0=L.cY.getD i 0:=by simp[List.getD,List.getElem?_set_ne (Ne.symm he)]
   have e2:(s.bf.set q c).getD i default=s.bf.getD i default:=by simp[List.getD,List.getElem?_set_ne (Ne.symm he)]
   have ha:=h.apart hi
   simp only[e1,e2]
   rw[h6 i hi he (h.pJ hi).b ha.mb.symm ha.cb.symm ha.O9.symm ha.P0.symm (h.other hq hi he)]
   exact h.cY i hi
 ·simp[h.lens]
 ·intro x hx
  simp only[Lay.ids,List.mem_cons] at hx
  rcases hx with rfl|rfl|rfl|rfl|hx
  ·have:=(h.pJ hq).m;omega
  ·have:=(h.pJ hq).c;omega
  ·have:=(h.pJ hq).mem;omega
  ·have:=(h.pJ hq).pr;omega
  ·rcases List.mem_or_eq_of_mem_set hx with hx|rfl
   ·have:=h.lt x (by simp[Lay.ids,hx]);omega
   ·rcases hb with rfl|hb
    ·have:=(h.pJ hq).b;omega
    ·omega
 ·have hn:=h.nodup
  simp only[Lay.ids,List.nodup_cons,List.mem_cons,not_or] at hn ⊢
  obtain⟨⟨n1,n2,n3,n4⟩,⟨n5,n6,n7⟩,⟨n8,n9⟩,n10,n11⟩:=hn
  have hin:∀x,x∉L.cY→x<nx→x∉L.cY.set q b:=by
   intro x hx hlt hm
   rcases List.mem_or_eq_of_mem_set hm with h|rfl
   ·exact hx h
   ·rcases hb with rfl|hb
    ·exact hx (Lay.jz hqb)
    ·omega
  have hl:=h.pJ hq
  refine⟨⟨n1,n2,n3,hin _ n4 hl.m⟩,⟨n5,n6,hin _ n7 hl.c⟩,⟨n8,hin _ n9 hl.mem⟩,hin _ n10 hl.pr, ?_⟩
  rcases hb with rfl|hb
  ·have:L.cY.set q (L.cY.getD q 0)=L.cY:=by
    have e:L.cY.getD q 0=L.cY[q]:=by simp[List.getD,hqb]
    rw[e,List.set_getElem_self]
   rw[this];exact n11
  ·exact A9 n11 fun hm=>by
    have:=h.lt b (by simp[Lay.ids,hm])
    omega
 ·intro x hx
  simp only[Lay.ids,List.mem_cons] at hx
  rcases hx with rfl|rfl|rfl|rfl|hx
  ·exact .inl (by simp[Lay.ids])
  ·exact .inl (by simp[Lay.ids])
  ·exact .inl (by simp[Lay.ids])
  ·exact .inl (by simp[Lay.ids])
  ·rcases List.mem_or_eq_of_mem_set hx with hx|rfl
   ·exact .inl (by simp[Lay.ids,hx])
   ·rcases hb with rfl|hb
    ·exact .inl (by simp only[Lay.ids,List.mem_cons];exact .inr (.inr (.inr (.inr (Lay.jz hqb)))))
    ·exact .inr hb.1
theorem nw {o:Obj} {s:bk} {L:Lay} {H:Hp} {nx:Nat} (h:fe o s L H nx) {q:Nat} (hq:q<s.bf.length):(rows s L).set q ((s.bf.getD q default).av (L.cY.getD q 0))=rows s L:=by
 have h3:q<(rows s L).length:=by rw[dG h];exact hq
 have h4:=eM h hq .any
 rw[←h4]
 have:(rows s L).getD q .any=(rows s L)[q]:=by simp[List.getD,h3]
 rw[this,List.set_getElem_self]
end Go.Proofs.YtlonbgdonffcbaaGreatDoor
/- What a turn does. -/
namespace Go.Proofs.YtlonbgdonffcbaaGreatDoor
open Go Go.cW Go.Proofs
set_option linter.unusedSimpArgs false
set_option linter.unusedVariables false
theorem set_set {α:Type} (l:List α) (i:Nat) (v w:α):(l.set i v).set i w=l.set i w:=by simp
theorem gU (c:bx) (v:AV) (k:Int) (h:0≤k∧k<16):(c.cells v).getD (2+k.toNat * 1) .any=i64 (c.dg k.toNat):=by
 have h2:k.toNat=0∨k.toNat=1∨k.toNat=2∨k.toNat=3∨k.toNat=4∨k.toNat=5∨k.toNat=6∨k.toNat=7∨k.toNat=8∨k.toNat=9∨k.toNat=10∨k.toNat=11∨k.toNat=12∨k.toNat=13∨k.toNat=14∨k.toNat=15:=by omega
 generalize k.toNat=j at h2 ⊢
 rcases h2 with rfl|rfl|rfl|rfl|rfl|rfl|rfl|rfl|rfl|rfl|rfl|rfl|rfl|rfl|rfl|rfl<;>rfl
theorem jf (c:bx) (v:AV) (k:Int) (w:Int) (h:0≤k∧k<16):(c.cells v).set (2+k.toNat * 1) (i64 w)=(c.put k w).cells v:=by
 have h2:k.toNat=0∨k.toNat=1∨k.toNat=2∨k.toNat=3∨k.toNat=4∨k.toNat=5∨k.toNat=6∨k.toNat=7∨k.toNat=8∨k.toNat=9∨k.toNat=10∨k.toNat=11∨k.toNat=12∨k.toNat=13∨k.toNat=14∨k.toNat=15:=by omega
 simp only[bx.cells,bx.put,mA]
 generalize k.toNat=j at h2 ⊢
 rcases h2 with rfl|rfl|rfl|rfl|rfl|rfl|rfl|rfl|rfl|rfl|rfl|rfl|rfl|rfl|rfl|rfl<;>rfl
abbrev ee (d:dy) (df:AV):du:= .row 37 7 df [d.av]
abbrev fO (s:bk) (L:Lay) (q d:Nat) (i:Instr):AV:= .agg [.pt L.m 1 0 0, .pt L.c s.bf.length q 0,u8 i.kind,u8 i.op,i64 i.d,i64 i.a,i64 i.b,i64 i.addr,i64 i.to,i64 i.word,i64 i.fr, .pt d 1 0 0]
abbrev bk.core (s:bk) (q:Nat):bx:=s.bf.getD q default
def bk.cp (s:bk) (q:Nat) (c:bx):bk:={ s with bf:=s.bf.set q c }
def gN (o:Obj) (L:Lay) (H:Hp) (nx d:Nat) (s:bk) (did:dy):AV→Hp→Nat→Prop:=fun _ H' n=>
 nx≤n∧(∃L',fe o s L' H' n∧l6 L L' nx)∧(∃df,bd H' d=some (ee did df))∧∀b,b<nx→b∉L.ids→b≠d→bd H' b=bd H b
structure jX (L:Lay) (H:Hp) (nx d:Nat) (did:dy):Prop where
 lt:d<nx
 out:d∉L.ids
 row:∃df,bd H d=some (ee did df)
theorem Lay.out {L:Lay} {b:Nat} (h:b∉L.ids) {q:Nat} (hq:q<L.cY.length):b≠L.m∧b≠L.c∧b≠L.mem∧b≠L.pr∧b≠L.cY.getD q 0:=by
 simp only[Lay.ids,List.mem_cons,not_or] at h
 exact⟨h.1,h.2.1,h.2.2.1,h.2.2.2.1,fun he=>h.2.2.2.2 (he▸Lay.jz hq)⟩
def rh (s:bk) (q:Nat) (i:Instr) (did:dy):bk×dy:=(s.cp q ((s.core q).put i.d i.word),{ did with kind:=1 })
theorem G2 {o:Obj} {s:bk} {L:Lay} {H:Hp} {nx:Nat} (h:fe o s L H nx) {q:Nat} (hq:q<s.bf.length) {d:Nat} {did:dy} (hd:jX L H nx d did) (i:Instr) (hD:0≤i.d∧i.d<16):
 bw Tryz.prog 78 [fO s L q d i] H nx (gN o L H nx d (rh s q i did).1 (rh s q i did).2):=by
 refine aO FQ rfl ?_
 obtain⟨dm,hm⟩:=h.m
 obtain⟨dc,hc⟩:=h.c
 obtain⟨dmem,hmem⟩:=h.mem
 obtain⟨dpr,hpr⟩:=h.pr
 obtain⟨db,hb⟩:=h.cY q hq
 obtain⟨dd,hdr⟩:=hd.row
 obtain⟨a1,a2,a3,a4,a5,a6,a7,a8,a9,a10⟩:=h.apart hq
 obtain⟨l1,l2,l3,l4,l5⟩:=h.pJ hq
 obtain⟨d1,d2,d3,d4,d5⟩:=Lay.out hd.out (q:=q) (by rw[h.lens];exact hq)
 have hdl:=hd.lt
 have hel:=dG h
 have hei:=eM h hq
 rw[ee] at hdr
 repeat' (first|((with_reducible refine aF ?_);conv=>whnf)|refine aG ?_|exact aC|with_reducible refine aD ?_ ?_|(apply aA;(·(first|exact hei _|exact gU _ _ _ hD|exact cA)))|refine aH ?_|((with_reducible refine aB ?_ ?_)<;>intro hc<;>(try simp only[List.length_map,ne_eq,dP] at hc)<;>try(exfalso;omega)))
 refine⟨⟨(by first|omega|(simp only[List.length_cons,List.length_nil];omega)),⟨_,h.next (q:=q) hq ((s.core q).put i.d i.word) (L.cY.getD q 0) (s.mem) (s.bg) (by first|omega|(simp only[List.length_cons,List.length_nil];omega)) (by first|exact .inl rfl|(right;omega)) ⟨_,_,bo,rfl⟩ ⟨_,_,bo,(by rw[bx.av,←jf _ _ _ _ hD];rfl)⟩ ⟨_,_,bo,rfl⟩ ⟨_,_,bo,rfl⟩ ⟨_,_,bo,rfl⟩ (by intro j hj hne hlt n1 n2 n3 n4 n5;have x5:=(Lay.out hd.out (q:=j) (by rw[h.lens];exact hj)).2.2.2.2;repeat(first|exact rfl|(exact hfr _ (by omega) (by omega))|(refine Eq.trans (bh (by first|omega|(simp only[List.length_cons,List.length_nil];omega))) ?_)))⟩,⟨_,bo⟩,(by intro b' hb' hout hne;obtain⟨o1,o2,o3,o4,o5⟩:=Lay.out hout (q:=q) (by rw[h.lens];exact hq);repeat(first|exact rfl|(exact hfr _ (by omega) (by omega))|(refine Eq.trans (bh (by first|omega|(simp only[List.length_cons,List.length_nil];omega))) ?_)))⟩⟩
def KI (op a b:Int):Int:=if two op=true then JY op a b else JA op a
def uX (s:bk) (q:Nat) (i:Instr) (did:dy):bk×dy:=(s.cp q ((s.core q).put i.d (KI i.op ((s.core q).dg i.a.toNat) ((s.core q).dg i.b.toNat))),{ did with kind:=1 })
theorem ME {o:Obj} {s:bk} {L:Lay} {H:Hp} {nx:Nat} (h:fe o s L H nx) {q:Nat} (hq:q<s.bf.length) {d:Nat} {did:dy} (hd:jX L H nx d did) (i:Instr) (hD:0≤i.d∧i.d<16) (hA:0≤i.a∧i.a<16) (hB:0≤i.b∧i.b<16) (ht:two i.op=true):
 bw Tryz.prog 79 [fO s L q d i] H nx (gN o L H nx d (uX s q i did).1 (uX s q i did).2):=by
 refine aO A0 rfl ?_
 obtain⟨dm,hm⟩:=h.m
 obtain⟨dc,hc⟩:=h.c
 obtain⟨dmem,hmem⟩:=h.mem
 obtain⟨dpr,hpr⟩:=h.pr
 obtain⟨db,hb⟩:=h.cY q hq
 obtain⟨dd,hdr⟩:=hd.row
 obtain⟨a1,a2,a3,a4,a5,a6,a7,a8,a9,a10⟩:=h.apart hq
 obtain⟨l1,l2,l3,l4,l5⟩:=h.pJ hq
 obtain⟨d1,d2,d3,d4,d5⟩:=Lay.out hd.out (q:=q) (by rw[h.lens];exact hq)
 have hdl:=hd.lt
 have hel:=dG h
 have hei:=eM h hq
 rw[ee] at hdr
 repeat' (first|((with_reducible refine aF ?_);conv=>whnf)|refine aG ?_|exact aC|with_reducible refine aD ?_ ?_|(apply aA;(·(first|exact hei _|exact gU _ _ _ hD|exact gU _ _ _ hA|exact gU _ _ _ hB|exact cA)))|((with_reducible refine aN (sj _ _ _ ht) ?_ ?_);(·exact bj))|((with_reducible refine aM (fun _=>sj _ _ _ ht) ?_ ?_);(·exact bj))|((with_reducible refine aJ (sj _ _ _ ht) ?_ ?_);(·exact bj))|((with_reducible refine aL (fun _=>sj _ _ _ ht) ?_ ?_);(·exact bj))|refine aH ?_|((with_reducible refine aB ?_ ?_)<;>intro hc<;>(try simp only[List.length_map,ne_eq,dP] at hc)<;>try(exfalso;omega)))
 refine⟨⟨(by first|omega|(simp only[List.length_cons,List.length_nil];omega)),⟨_,h.next (q:=q) hq ((s.core q).put i.d (KI i.op ((s.core q).dg i.a.toNat) ((s.core q).dg i.b.toNat))) (L.cY.getD q 0) (s.mem) (s.bg) (by first|omega|(simp only[List.length_cons,List.length_nil];omega)) (by first|exact .inl rfl|(right;omega)) ⟨_,_,bo,rfl⟩ ⟨_,_,bo,(by rw[KI,if_pos ht,bx.av,←jf _ _ _ _ hD];rfl)⟩ ⟨_,_,bo,rfl⟩ ⟨_,_,bo,rfl⟩ ⟨_,_,bo,rfl⟩ (by intro j hj hne hlt n1 n2 n3 n4 n5;have x5:=(Lay.out hd.out (q:=j) (by rw[h.lens];exact hj)).2.2.2.2;repeat(first|exact rfl|(exact hfr _ (by omega) (by omega))|(refine Eq.trans (bh (by first|omega|(simp only[List.length_cons,List.length_nil];omega))) ?_)))⟩,⟨_,bo⟩,(by intro b' hb' hout hne;obtain⟨o1,o2,o3,o4,o5⟩:=Lay.out hout (q:=q) (by rw[h.lens];exact hq);repeat(first|exact rfl|(exact hfr _ (by omega) (by omega))|(refine Eq.trans (bh (by first|omega|(simp only[List.length_cons,List.length_nil];omega))) ?_)))⟩⟩
theorem MD {o:Obj} {s:bk} {L:Lay} {H:Hp} {nx:Nat} (h:fe o s L H nx) {q:Nat} (hq:q<s.bf.length) {d:Nat} {did:dy} (hd:jX L H nx d did) (i:Instr) (hD:0≤i.d∧i.d<16) (hA:0≤i.a∧i.a<16) (hB:0≤i.b∧i.b<16) (ht:two i.op=false) (ho:i.op=17∨i.op=18):
 bw Tryz.prog 79 [fO s L q d i] H nx (gN o L H nx d (uX s q i did).1 (uX s q i did).2):=by
 refine aO A0 rfl ?_
 obtain⟨dm,hm⟩:=h.m
 obtain⟨dc,hc⟩:=h.c
 obtain⟨dmem,hmem⟩:=h.mem
 obtain⟨dpr,hpr⟩:=h.pr
 obtain⟨db,hb⟩:=h.cY q hq
 obtain⟨dd,hdr⟩:=hd.row
 obtain⟨a1,a2,a3,a4,a5,a6,a7,a8,a9,a10⟩:=h.apart hq
 obtain⟨l1,l2,l3,l4,l5⟩:=h.pJ hq
 obtain⟨d1,d2,d3,d4,d5⟩:=Lay.out hd.out (q:=q) (by rw[h.lens];exact hq)
 have hdl:=hd.lt
 have hel:=dG h
 have hei:=eM h hq
 rw[ee] at hdr
 repeat' (first|((with_reducible refine aF ?_);conv=>whnf)|refine aG ?_|exact aC|with_reducible refine aD ?_ ?_|(apply aA;(·(first|exact hei _|exact gU _ _ _ hD|exact gU _ _ _ hA|exact gU _ _ _ hB|exact cA)))|((with_reducible refine aN (si _ _ _ ht) ?_ ?_);(·exact bj))|((with_reducible refine aM (fun _=>si _ _ _ ht) ?_ ?_);(·exact bj))|((with_reducible refine aJ (si _ _ _ ht) ?_ ?_);(·exact bj))|((with_reducible refine aL (fun _=>si _ _ _ ht) ?_ ?_);(·exact bj))|((with_reducible refine aN (ow _ _ ho) ?_ ?_);(·exact bj))|((with_reducible refine aM (fun _=>ow _ _ ho) ?_ ?_);(·exact bj))|((with_reducible refine aJ (ow _ _ ho) ?_ ?_);(·exact bj))|((with_reducible refine aL (fun _=>ow _ _ ho) ?_ ?_);(·exact bj))|refine aH ?_|((with_reducible refine aB ?_ ?_)<;>intro hc<;>(try simp only[List.length_map,ne_eq,dP] at hc)<;>try(exfalso;omega)))
 refine⟨⟨(by first|omega|(simp only[List.length_cons,List.length_nil];omega)),⟨_,h.next (q:=q) hq ((s.core q).put i.d (KI i.op ((s.core q).dg i.a.toNat) ((s.core q).dg i.b.toNat))) (L.cY.getD q 0) (s.mem) (s.bg) (by first|omega|(simp only[List.length_cons,List.length_nil];omega)) (by first|exact .inl rfl|(right;omega)) ⟨_,_,bo,rfl⟩ ⟨_,_,bo,(by rw[KI,if_neg (by rw[ht];simp),bx.av,←jf _ _ _ _ hD];rfl)⟩ ⟨_,_,bo,rfl⟩ ⟨_,_,bo,rfl⟩ ⟨_,_,bo,rfl⟩ (by intro j hj hne hlt n1 n2 n3 n4 n5;have x5:=(Lay.out hd.out (q:=j) (by rw[h.lens];exact hj)).2.2.2.2;repeat(first|exact rfl|(exact hfr _ (by omega) (by omega))|(refine Eq.trans (bh (by first|omega|(simp only[List.length_cons,List.length_nil];omega))) ?_)))⟩,⟨_,bo⟩,(by intro b' hb' hout hne;obtain⟨o1,o2,o3,o4,o5⟩:=Lay.out hout (q:=q) (by rw[h.lens];exact hq);repeat(first|exact rfl|(exact hfr _ (by omega) (by omega))|(refine Eq.trans (bh (by first|omega|(simp only[List.length_cons,List.length_nil];omega))) ?_)))⟩⟩
def lJ (s:bk) (q:Nat) (i:Instr) (did:dy):bk×dy:=(s.cp q (s.core q),{ did with kind:=5 })
theorem xC {o:Obj} {s:bk} {L:Lay} {H:Hp} {nx:Nat} (h:fe o s L H nx) {q:Nat} (hq:q<s.bf.length) {d:Nat} {did:dy} (hd:jX L H nx d did) (i:Instr):
 bw Tryz.prog 83 [fO s L q d i] H nx (gN o L H nx d (lJ s q i did).1 (lJ s q i did).2):=by
 refine aO FW rfl ?_
 obtain⟨dm,hm⟩:=h.m
 obtain⟨dc,hc⟩:=h.c
 obtain⟨dmem,hmem⟩:=h.mem
 obtain⟨dpr,hpr⟩:=h.pr
 obtain⟨db,hb⟩:=h.cY q hq
 obtain⟨dd,hdr⟩:=hd.row
 obtain⟨a1,a2,a3,a4,a5,a6,a7,a8,a9,a10⟩:=h.apart hq
 obtain⟨l1,l2,l3,l4,l5⟩:=h.pJ hq
 obtain⟨d1,d2,d3,d4,d5⟩:=Lay.out hd.out (q:=q) (by rw[h.lens];exact hq)
 have hdl:=hd.lt
 have hel:=dG h
 have hei:=eM h hq
 rw[ee] at hdr
 repeat' (first|((with_reducible refine aF ?_);conv=>whnf)|refine aG ?_|exact aC|with_reducible refine aD ?_ ?_|(apply aA;(·(first|exact hei _|exact cA)))|refine aH ?_|((with_reducible refine aB ?_ ?_)<;>intro hc<;>(try simp only[List.length_map,ne_eq,dP] at hc)<;>try(exfalso;omega)))
 refine⟨⟨(by first|omega|(simp only[List.length_cons,List.length_nil];omega)),⟨_,h.next (q:=q) hq (s.core q) (L.cY.getD q 0) (s.mem) (s.bg) (by first|omega|(simp only[List.length_cons,List.length_nil];omega)) (by first|exact .inl rfl|(right;omega)) ⟨_,_,bo,rfl⟩ ⟨_,_,bo,(nw h hq).symm⟩ ⟨_,_,bo,rfl⟩ ⟨_,_,bo,rfl⟩ ⟨_,_,bo,rfl⟩ (by intro j hj hne hlt n1 n2 n3 n4 n5;have x5:=(Lay.out hd.out (q:=j) (by rw[h.lens];exact hj)).2.2.2.2;repeat(first|exact rfl|(exact hfr _ (by omega) (by omega))|(refine Eq.trans (bh (by first|omega|(simp only[List.length_cons,List.length_nil];omega))) ?_)))⟩,⟨_,bo⟩,(by intro b' hb' hout hne;obtain⟨o1,o2,o3,o4,o5⟩:=Lay.out hout (q:=q) (by rw[h.lens];exact hq);repeat(first|exact rfl|(exact hfr _ (by omega) (by omega))|(refine Eq.trans (bh (by first|omega|(simp only[List.length_cons,List.length_nil];omega))) ?_)))⟩⟩
def nY (s:bk) (q:Nat) (i:Instr) (did:dy):bk×dy:=(s.cp q { s.core q with pc:=i.to },{ did with kind:=1 })
theorem AN {o:Obj} {s:bk} {L:Lay} {H:Hp} {nx:Nat} (h:fe o s L H nx) {q:Nat} (hq:q<s.bf.length) {d:Nat} {did:dy} (hd:jX L H nx d did) (i:Instr):
 bw Tryz.prog 85 [fO s L q d i] H nx (gN o L H nx d (nY s q i did).1 (nY s q i did).2):=by
 refine aO FY rfl ?_
 obtain⟨dm,hm⟩:=h.m
 obtain⟨dc,hc⟩:=h.c
 obtain⟨dmem,hmem⟩:=h.mem
 obtain⟨dpr,hpr⟩:=h.pr
 obtain⟨db,hb⟩:=h.cY q hq
 obtain⟨dd,hdr⟩:=hd.row
 obtain⟨a1,a2,a3,a4,a5,a6,a7,a8,a9,a10⟩:=h.apart hq
 obtain⟨l1,l2,l3,l4,l5⟩:=h.pJ hq
 obtain⟨d1,d2,d3,d4,d5⟩:=Lay.out hd.out (q:=q) (by rw[h.lens];exact hq)
 have hdl:=hd.lt
 have hel:=dG h
 have hei:=eM h hq
 rw[ee] at hdr
 repeat' (first|((with_reducible refine aF ?_);conv=>whnf)|refine aG ?_|exact aC|with_reducible refine aD ?_ ?_|(apply aA;(·(first|exact hei _|exact cA)))|refine aH ?_|((with_reducible refine aB ?_ ?_)<;>intro hc<;>(try simp only[List.length_map,ne_eq,dP] at hc)<;>try(exfalso;omega)))
 refine⟨⟨(by first|omega|(simp only[List.length_cons,List.length_nil];omega)),⟨_,h.next (q:=q) hq ({ s.core q with pc:=i.to }) (L.cY.getD q 0) (s.mem) (s.bg) (by first|omega|(simp only[List.length_cons,List.length_nil];omega)) (by first|exact .inl rfl|(right;omega)) ⟨_,_,bo,rfl⟩ ⟨_,_,bo,rfl⟩ ⟨_,_,bo,rfl⟩ ⟨_,_,bo,rfl⟩ ⟨_,_,bo,rfl⟩ (by intro j hj hne hlt n1 n2 n3 n4 n5;have x5:=(Lay.out hd.out (q:=j) (by rw[h.lens];exact hj)).2.2.2.2;repeat(first|exact rfl|(exact hfr _ (by omega) (by omega))|(refine Eq.trans (bh (by first|omega|(simp only[List.length_cons,List.length_nil];omega))) ?_)))⟩,⟨_,bo⟩,(by intro b' hb' hout hne;obtain⟨o1,o2,o3,o4,o5⟩:=Lay.out hout (q:=q) (by rw[h.lens];exact hq);repeat(first|exact rfl|(exact hfr _ (by omega) (by omega))|(refine Eq.trans (bh (by first|omega|(simp only[List.length_cons,List.length_nil];omega))) ?_)))⟩⟩
def n0 (s:bk) (q:Nat) (i:Instr) (did:dy):bk×dy:=(s.cp q (if(s.core q).dg i.a.toNat=0 then { s.core q with pc:=i.to } else s.core q),{ did with kind:=1 })
theorem B6 {o:Obj} {s:bk} {L:Lay} {H:Hp} {nx:Nat} (h:fe o s L H nx) {q:Nat} (hq:q<s.bf.length) {d:Nat} {did:dy} (hd:jX L H nx d did) (i:Instr) (hA:0≤i.a∧i.a<16):
 bw Tryz.prog 86 [fO s L q d i] H nx (gN o L H nx d (n0 s q i did).1 (n0 s q i did).2):=by
 refine aO FZ rfl ?_
 obtain⟨dm,hm⟩:=h.m
 obtain⟨dc,hc⟩:=h.c
 obtain⟨dmem,hmem⟩:=h.mem
 obtain⟨dpr,hpr⟩:=h.pr
 obtain⟨db,hb⟩:=h.cY q hq
 obtain⟨dd,hdr⟩:=hd.row
 obtain⟨a1,a2,a3,a4,a5,a6,a7,a8,a9,a10⟩:=h.apart hq
 obtain⟨l1,l2,l3,l4,l5⟩:=h.pJ hq
 obtain⟨d1,d2,d3,d4,d5⟩:=Lay.out hd.out (q:=q) (by rw[h.lens];exact hq)
 have hdl:=hd.lt
 have hel:=dG h
 have hei:=eM h hq
 rw[ee] at hdr
 repeat' (first|((with_reducible refine aF ?_);conv=>whnf)|refine aG ?_|exact aC|with_reducible refine aD ?_ ?_|(apply aA;(·(first|exact hei _|exact gU _ _ _ hA|exact cA)))|refine aH ?_|((with_reducible refine aB ?_ ?_)<;>intro hc<;>(try simp only[List.length_map,ne_eq,dP] at hc)<;>try(exfalso;omega)))
 ·refine⟨⟨(by first|omega|(simp only[List.length_cons,List.length_nil];omega)),⟨_,h.next (q:=q) hq (if(s.core q).dg i.a.toNat=0 then { s.core q with pc:=i.to } else s.core q) (L.cY.getD q 0) (s.mem) (s.bg) (by first|omega|(simp only[List.length_cons,List.length_nil];omega)) (by first|exact .inl rfl|(right;omega)) ⟨_,_,bo,rfl⟩ ⟨_,_,bo,(by rw[if_pos (by assumption)];try rfl)⟩ ⟨_,_,bo,rfl⟩ ⟨_,_,bo,rfl⟩ ⟨_,_,bo,(by rw[if_pos (by assumption)];try rfl)⟩ (by intro j hj hne hlt n1 n2 n3 n4 n5;have x5:=(Lay.out hd.out (q:=j) (by rw[h.lens];exact hj)).2.2.2.2;repeat(first|exact rfl|(exact hfr _ (by omega) (by omega))|(refine Eq.trans (bh (by first|omega|(simp only[List.length_cons,List.length_nil];omega))) ?_)))⟩,⟨_,bo⟩,(by intro b' hb' hout hne;obtain⟨o1,o2,o3,o4,o5⟩:=Lay.out hout (q:=q) (by rw[h.lens];exact hq);repeat(first|exact rfl|(exact hfr _ (by omega) (by omega))|(refine Eq.trans (bh (by first|omega|(simp only[List.length_cons,List.length_nil];omega))) ?_)))⟩⟩
 ·refine⟨⟨(by first|omega|(simp only[List.length_cons,List.length_nil];omega)),⟨_,h.next (q:=q) hq (if(s.core q).dg i.a.toNat=0 then { s.core q with pc:=i.to } else s.core q) (L.cY.getD q 0) (s.mem) (s.bg) (by first|omega|(simp only[List.length_cons,List.length_nil];omega)) (by first|exact .inl rfl|(right;omega)) ⟨_,_,bo,rfl⟩ ⟨_,_,bo,(by rw[if_neg (by assumption)];exact(nw h hq).symm)⟩ ⟨_,_,bo,rfl⟩ ⟨_,_,bo,rfl⟩ ⟨_,_,bo,(by rw[if_neg (by assumption)];try rfl)⟩ (by intro j hj hne hlt n1 n2 n3 n4 n5;have x5:=(Lay.out hd.out (q:=j) (by rw[h.lens];exact hj)).2.2.2.2;repeat(first|exact rfl|(exact hfr _ (by omega) (by omega))|(refine Eq.trans (bh (by first|omega|(simp only[List.length_cons,List.length_nil];omega))) ?_)))⟩,⟨_,bo⟩,(by intro b' hb' hout hne;obtain⟨o1,o2,o3,o4,o5⟩:=Lay.out hout (q:=q) (by rw[h.lens];exact hq);repeat(first|exact rfl|(exact hfr _ (by omega) (by omega))|(refine Eq.trans (bh (by first|omega|(simp only[List.length_cons,List.length_nil];omega))) ?_)))⟩⟩
def nX (s:bk) (q:Nat) (i:Instr) (did:dy):bk×dy:=(s.cp q { s.core q with pc:=did.pc,halted:=true },{ did with kind:=7 })
theorem AH {o:Obj} {s:bk} {L:Lay} {H:Hp} {nx:Nat} (h:fe o s L H nx) {q:Nat} (hq:q<s.bf.length) {d:Nat} {did:dy} (hd:jX L H nx d did) (i:Instr):
 bw Tryz.prog 87 [fO s L q d i] H nx (gN o L H nx d (nX s q i did).1 (nX s q i did).2):=by
 refine aO F0 rfl ?_
 obtain⟨dm,hm⟩:=h.m
 obtain⟨dc,hc⟩:=h.c
 obtain⟨dmem,hmem⟩:=h.mem
 obtain⟨dpr,hpr⟩:=h.pr
 obtain⟨db,hb⟩:=h.cY q hq
 obtain⟨dd,hdr⟩:=hd.row
 obtain⟨a1,a2,a3,a4,a5,a6,a7,a8,a9,a10⟩:=h.apart hq
 obtain⟨l1,l2,l3,l4,l5⟩:=h.pJ hq
 obtain⟨d1,d2,d3,d4,d5⟩:=Lay.out hd.out (q:=q) (by rw[h.lens];exact hq)
 have hdl:=hd.lt
 have hel:=dG h
 have hei:=eM h hq
 rw[ee] at hdr
 repeat' (first|((with_reducible refine aF ?_);conv=>whnf)|refine aG ?_|exact aC|with_reducible refine aD ?_ ?_|(apply aA;(·(first|exact hei _|exact cA)))|refine aH ?_|((with_reducible refine aB ?_ ?_)<;>intro hc<;>(try simp only[List.length_map,ne_eq,dP] at hc)<;>try(exfalso;omega)))
 refine⟨⟨(by first|omega|(simp only[List.length_cons,List.length_nil];omega)),⟨_,h.next (q:=q) hq ({ s.core q with pc:=did.pc,halted:=true }) (L.cY.getD q 0) (s.mem) (s.bg) (by first|omega|(simp only[List.length_cons,List.length_nil];omega)) (by first|exact .inl rfl|(right;omega)) ⟨_,_,bo,rfl⟩ ⟨_,_,bo,(by simp only[set_set];rfl)⟩ ⟨_,_,bo,rfl⟩ ⟨_,_,bo,rfl⟩ ⟨_,_,bo,rfl⟩ (by intro j hj hne hlt n1 n2 n3 n4 n5;have x5:=(Lay.out hd.out (q:=j) (by rw[h.lens];exact hj)).2.2.2.2;repeat(first|exact rfl|(exact hfr _ (by omega) (by omega))|(refine Eq.trans (bh (by first|omega|(simp only[List.length_cons,List.length_nil];omega))) ?_)))⟩,⟨_,bo⟩,(by intro b' hb' hout hne;obtain⟨o1,o2,o3,o4,o5⟩:=Lay.out hout (q:=q) (by rw[h.lens];exact hq);repeat(first|exact rfl|(exact hfr _ (by omega) (by omega))|(refine Eq.trans (bh (by first|omega|(simp only[List.length_cons,List.length_nil];omega))) ?_)))⟩⟩
end Go.Proofs.YtlonbgdonffcbaaGreatDoor
/- What a turn does: the longer ones. -/
namespace Go.Proofs.YtlonbgdonffcbaaGreatDoor
open Go Go.cW Go.Proofs
set_option linter.unusedSimpArgs false
set_option linter.unusedVariables false
def doPrint (s:bk) (q:Nat) (i:Instr) (did:dy):bk×dy:=({ s.cp q (s.core q) with bg:=s.bg++[cD.mk did.core ((s.core q).dg i.a.toNat)] },{ did with kind:=6,word:=(s.core q).dg i.a.toNat })
set_option maxHeartbeats 4000000 in
theorem xi {o:Obj} {s:bk} {L:Lay} {H:Hp} {nx:Nat} (h:fe o s L H nx) {q:Nat} (hq:q<s.bf.length) {d:Nat} {did:dy} (hd:jX L H nx d did) (i:Instr) (hA:0≤i.a∧i.a<16) (hpl:(s.bg.length+1) * 16≤140737488355328):
 bw Tryz.prog 84 [fO s L q d i] H nx (gN o L H nx d (doPrint s q i did).1 (doPrint s q i did).2):=by
 refine aO FX rfl ?_
 obtain⟨dm,hm⟩:=h.m
 obtain⟨dc,hc⟩:=h.c
 obtain⟨dmem,hmem⟩:=h.mem
 obtain⟨dpr,hpr⟩:=h.pr
 obtain⟨db,hb⟩:=h.cY q hq
 obtain⟨dd,hdr⟩:=hd.row
 obtain⟨a1,a2,a3,a4,a5,a6,a7,a8,a9,a10⟩:=h.apart hq
 obtain⟨l1,l2,l3,l4,l5⟩:=h.pJ hq
 obtain⟨d1,d2,d3,d4,d5⟩:=Lay.out hd.out (q:=q) (by rw[h.lens];exact hq)
 have hdl:=hd.lt
 have hel:=dG h
 have hei:=eM h hq
 rw[ee] at hdr
 repeat' (first|((with_reducible refine aF ?_);conv=>whnf)|refine aG ?_|exact aC|with_reducible refine aD ?_ ?_|(apply aA;(·(first|exact hei _|exact gU _ _ _ hA|exact cA)))|refine aH ?_|((with_reducible refine aB ?_ ?_)<;>intro hc<;>(try simp only[List.length_map,ne_eq,dP] at hc)<;>try(exfalso;omega)))
 refine⟨⟨(by first|omega|(simp only[List.length_cons,List.length_nil];omega)),⟨_,h.next (q:=q) hq (s.core q) (L.cY.getD q 0) (s.mem) (s.bg++[cD.mk did.core ((s.core q).dg i.a.toNat)]) (by first|omega|(simp only[List.length_cons,List.length_nil];omega)) (by first|exact .inl rfl|(right;omega)) ⟨_,_,bo,(by simp)⟩ ⟨_,_,bo,(nw h hq).symm⟩ ⟨_,_,bo,rfl⟩ ⟨_,_,bo,(by rw[List.map_append];rfl)⟩ ⟨_,_,bo,rfl⟩ (by intro j hj hne hlt n1 n2 n3 n4 n5;have x5:=(Lay.out hd.out (q:=j) (by rw[h.lens];exact hj)).2.2.2.2;repeat(first|exact rfl|(exact hfr _ (by omega) (by omega))|(refine Eq.trans (bh (by first|omega|(simp only[List.length_cons,List.length_nil];omega))) ?_)))⟩,⟨_,bo⟩,(by intro b' hb' hout hne;obtain⟨o1,o2,o3,o4,o5⟩:=Lay.out hout (q:=q) (by rw[h.lens];exact hq);repeat(first|exact rfl|(exact hfr _ (by omega) (by omega))|(refine Eq.trans (bh (by first|omega|(simp only[List.length_cons,List.length_nil];omega))) ?_)))⟩⟩
def lK (s:bk) (q:Nat) (i:Instr) (did:dy):bk×dy:=(s.cp q { s.core q with buf:=(s.core q).buf++[dC.mk did.pc i.addr ((s.core q).dg i.a.toNat)] },{ did with kind:=3,addr:=i.addr,word:=(s.core q).dg i.a.toNat })
set_option maxHeartbeats 4000000 in
theorem yI {o:Obj} {s:bk} {L:Lay} {H:Hp} {nx:Nat} (h:fe o s L H nx) {q:Nat} (hq:q<s.bf.length) {d:Nat} {did:dy} (hd:jX L H nx d did) (i:Instr) (hA:0≤i.a∧i.a<16) (hbl:(s.bf.getD q default).buf.length<1000):
 bw Tryz.prog 81 [fO s L q d i] H nx (gN o L H nx d (lK s q i did).1 (lK s q i did).2):=by
 refine aO FU rfl ?_
 obtain⟨dm,hm⟩:=h.m
 obtain⟨dc,hc⟩:=h.c
 obtain⟨dmem,hmem⟩:=h.mem
 obtain⟨dpr,hpr⟩:=h.pr
 obtain⟨db,hb⟩:=h.cY q hq
 obtain⟨dd,hdr⟩:=hd.row
 obtain⟨a1,a2,a3,a4,a5,a6,a7,a8,a9,a10⟩:=h.apart hq
 obtain⟨l1,l2,l3,l4,l5⟩:=h.pJ hq
 obtain⟨d1,d2,d3,d4,d5⟩:=Lay.out hd.out (q:=q) (by rw[h.lens];exact hq)
 have hdl:=hd.lt
 have hel:=dG h
 have hei:=eM h hq
 rw[ee] at hdr
 repeat' (first|((with_reducible refine aF ?_);conv=>whnf)|refine aG ?_|exact aC|with_reducible refine aD ?_ ?_|(apply aA;(·(first|exact hei _|exact gU _ _ _ hA|exact cA)))|refine aH ?_|((with_reducible refine aB ?_ ?_)<;>intro hc<;>(try simp only[List.length_map,ne_eq,dP] at hc)<;>try(exfalso;omega)))
 refine⟨⟨(by first|omega|(simp only[List.length_cons,List.length_nil];omega)),⟨_,h.next (q:=q) hq ({ s.core q with buf:=(s.core q).buf++[dC.mk did.pc i.addr ((s.core q).dg i.a.toNat)] }) (L.cY.getD q 0) (s.mem) (s.bg) (by first|omega|(simp only[List.length_cons,List.length_nil];omega)) (by first|exact .inl rfl|(right;omega)) ⟨_,_,bo,rfl⟩ ⟨_,_,bo,(by simp only[bx.av,List.length_append];rfl)⟩ ⟨_,_,bo,rfl⟩ ⟨_,_,bo,rfl⟩ ⟨_,_,bo,(by rw[List.map_append];rfl)⟩ (by intro j hj hne hlt n1 n2 n3 n4 n5;have x5:=(Lay.out hd.out (q:=j) (by rw[h.lens];exact hj)).2.2.2.2;repeat(first|exact rfl|(exact hfr _ (by omega) (by omega))|(refine Eq.trans (bh (by first|omega|(simp only[List.length_cons,List.length_nil];omega))) ?_)))⟩,⟨_,bo⟩,(by intro b' hb' hout hne;obtain⟨o1,o2,o3,o4,o5⟩:=Lay.out hout (q:=q) (by rw[h.lens];exact hq);repeat(first|exact rfl|(exact hfr _ (by omega) (by omega))|(refine Eq.trans (bh (by first|omega|(simp only[List.length_cons,List.length_nil];omega))) ?_)))⟩⟩
def nZ (s:bk) (q:Nat) (i:Instr) (did:dy):bk×dy:=({ s.cp q ((s.core q).put i.d (s.mem.getD i.addr.toNat 0)) with mem:=s.mem.set i.addr.toNat ((s.core q).dg i.d.toNat) },{ did with kind:=4,addr:=i.addr,word:=s.mem.getD i.addr.toNat 0,put:=(s.core q).dg i.d.toNat })
set_option maxHeartbeats 4000000 in
theorem BX {o:Obj} {s:bk} {L:Lay} {H:Hp} {nx:Nat} (h:fe o s L H nx) {q:Nat} (hq:q<s.bf.length) {d:Nat} {did:dy} (hd:jX L H nx d did) (i:Instr) (hD:0≤i.d∧i.d<16) (hM:0≤i.addr∧i.addr<s.mem.length):
 bw Tryz.prog 82 [fO s L q d i] H nx (gN o L H nx d (nZ s q i did).1 (nZ s q i did).2):=by
 refine aO FV rfl ?_
 obtain⟨dm,hm⟩:=h.m
 obtain⟨dc,hc⟩:=h.c
 obtain⟨dmem,hmem⟩:=h.mem
 obtain⟨dpr,hpr⟩:=h.pr
 obtain⟨db,hb⟩:=h.cY q hq
 obtain⟨dd,hdr⟩:=hd.row
 obtain⟨a1,a2,a3,a4,a5,a6,a7,a8,a9,a10⟩:=h.apart hq
 obtain⟨l1,l2,l3,l4,l5⟩:=h.pJ hq
 obtain⟨d1,d2,d3,d4,d5⟩:=Lay.out hd.out (q:=q) (by rw[h.lens];exact hq)
 have hdl:=hd.lt
 have hel:=dG h
 have hei:=eM h hq
 rw[ee] at hdr
 repeat' (first|((with_reducible refine aF ?_);conv=>whnf)|refine aG ?_|exact aC|with_reducible refine aD ?_ ?_|(apply aA;(·(first|exact hei _|exact gU _ _ _ hD|exact cA)))|refine aH ?_|((with_reducible refine aB ?_ ?_)<;>intro hc<;>(try simp only[List.length_map,ne_eq,dP] at hc)<;>try(exfalso;omega)))
 refine⟨⟨(by first|omega|(simp only[List.length_cons,List.length_nil];omega)),⟨_,h.next (q:=q) hq ((s.core q).put i.d (s.mem.getD i.addr.toNat 0)) (L.cY.getD q 0) (s.mem.set i.addr.toNat ((s.core q).dg i.d.toNat)) (s.bg) (by first|omega|(simp only[List.length_cons,List.length_nil];omega)) (by first|exact .inl rfl|(right;omega)) ⟨_,_,bo,(by simp)⟩ ⟨_,_,bo,(by rw[bx.av,←jf _ _ _ _ hD];rfl)⟩ ⟨_,_,bo,(by simp[List.map_set])⟩ ⟨_,_,bo,rfl⟩ ⟨_,_,bo,rfl⟩ (by intro j hj hne hlt n1 n2 n3 n4 n5;have x5:=(Lay.out hd.out (q:=j) (by rw[h.lens];exact hj)).2.2.2.2;repeat(first|exact rfl|(exact hfr _ (by omega) (by omega))|(refine Eq.trans (bh (by first|omega|(simp only[List.length_cons,List.length_nil];omega))) ?_)))⟩,⟨_,bo⟩,(by intro b' hb' hout hne;obtain⟨o1,o2,o3,o4,o5⟩:=Lay.out hout (q:=q) (by rw[h.lens];exact hq);repeat(first|exact rfl|(exact hfr _ (by omega) (by omega))|(refine Eq.trans (bh (by first|omega|(simp only[List.length_cons,List.length_nil];omega))) ?_)))⟩⟩
end Go.Proofs.YtlonbgdonffcbaaGreatDoor
/- What a load does. -/
namespace Go.Proofs.YtlonbgdonffcbaaGreatDoor
open Go Go.cW Go.Proofs
set_option linter.unusedSimpArgs false
set_option linter.unusedVariables false
def kT (a:Int):List dC→Int×Bool→Int×Bool
 |[],r=>r
 |x::t,r=>kT a t (if x.addr=a then(x.word,true) else r)
def lr (s:bk) (q:Nat) (i:Instr) (did:dy):bk×dy:=
 let r:=kT i.addr (s.core q).buf (s.mem.getD i.addr.toNat 0,did.own)
 (s.cp q ((s.core q).put i.d r.1),{ did with kind:=2,addr:=i.addr,word:=r.1,own:=r.2 })
set_option maxHeartbeats 4000000 in
theorem A1 {o:Obj} {s:bk} {L:Lay} {H:Hp} {nx:Nat} (h:fe o s L H nx) {q:Nat} (hq:q<s.bf.length) {d:Nat} {did:dy} (hd:jX L H nx d did) (i:Instr) (hD:0≤i.d∧i.d<16) (hM:0≤i.addr∧i.addr<s.mem.length) (hbl:(s.bf.getD q default).buf.length<1000):
 bw Tryz.prog 80 [fO s L q d i] H nx (gN o L H nx d (lr s q i did).1 (lr s q i did).2):=by
 refine aO FT rfl ?_
 obtain⟨dm,hm⟩:=h.m
 obtain⟨dc,hc⟩:=h.c
 obtain⟨dmem,hmem⟩:=h.mem
 obtain⟨dpr,hpr⟩:=h.pr
 obtain⟨db,hb⟩:=h.cY q hq
 obtain⟨dd,hdr⟩:=hd.row
 obtain⟨a1,a2,a3,a4,a5,a6,a7,a8,a9,a10⟩:=h.apart hq
 obtain⟨l1,l2,l3,l4,l5⟩:=h.pJ hq
 obtain⟨d1,d2,d3,d4,d5⟩:=Lay.out hd.out (q:=q) (by rw[h.lens];exact hq)
 have hdl:=hd.lt
 have hel:=dG h
 have hei:=eM h hq
 rw[ee] at hdr
 repeat' (first|((with_reducible refine aF ?_);conv=>whnf)|refine aG ?_|exact aC|with_reducible refine aD ?_ ?_|(apply aA;(·(first|exact hei _|exact gU _ _ _ hD|exact cA)))|refine aH ?_|((with_reducible refine aB ?_ ?_)<;>intro hc<;>(try simp only[List.length_map,ne_eq,dP] at hc)<;>try(exfalso;omega)))
 refine aT (fun k:Nat=>[(1, .pt nx 1 0 0),(33, .sl (L.cY.getD q 0) (s.bf.getD q default).buf.length),(34,i64 (s.bf.getD q default).buf.length),(35,i64 k)]) (fun k H' n=>k≤(s.bf.getD q default).buf.length∧nx+1≤n∧bd H' nx=some (.row 120 12 .any [fO s L q d i])∧(∃w own,bd H' d=some (ee { did with kind:=2,addr:=i.addr,word:=w,own:=own } dd)∧kT i.addr (s.bf.getD q default).buf (s.mem.getD i.addr.toNat 0,did.own)=kT i.addr ((s.bf.getD q default).buf.drop k) (w,own))∧∀b,b<nx→b≠d→bd H' b=bd H b) (fun k=>(s.bf.getD q default).buf.length - k) 0 cH ⟨Nat.zero_le _,by first|omega|(simp only[List.length_cons,List.length_nil];omega),bo,⟨_,_,bo,rfl⟩,(by intro b' hb' hne;repeat(first|exact rfl|(refine Eq.trans (bh (by omega)) ?_)))⟩ ?_
 rintro k H' n ⟨hk,hn,hx,⟨w,own,hdr2,hs⟩,hfr⟩
 rw[ee] at hdr2
 have hm2:=(hfr _ l1 (Ne.symm d1)).trans hm
 have hc2:=(hfr _ l2 (Ne.symm d2)).trans hc
 have hb2:=(hfr _ l5 (Ne.symm d5)).trans hb
 have hmem2:=(hfr _ l3 (Ne.symm d3)).trans hmem
 have hpr2:=(hfr _ l4 (Ne.symm d4)).trans hpr
 clear hm hc hb hdr hmem hpr
 repeat' (first|((with_reducible refine aF ?_);conv=>whnf)|refine aG ?_|exact aC|with_reducible refine aD ?_ ?_|(apply aA;(·(first|exact hei _|exact gU _ _ _ hD|exact cA)))|refine aH ?_|((with_reducible refine aB ?_ ?_)<;>intro hc<;>(try simp only[List.length_map,ne_eq,dP] at hc)<;>try(exfalso;omega)))
 ·refine⟨k+1,by omega,cH,by omega,by omega,bo,⟨((s.bf.getD q default).buf.getD k default).word,true,bo, ?_⟩,(by intro b' hb' hne;repeat(first|exact hfr _ hb' hne|(refine Eq.trans (bh (by omega)) ?_)))⟩
  rw[hs,drop_cons (by omega),kT,if_pos (by first|assumption|simpa using(by assumption))]
 ·refine⟨k+1,by omega,cH,by omega,by omega,bo,⟨w,own,bo, ?_⟩,(by intro b' hb' hne;repeat(first|exact hfr _ hb' hne|(refine Eq.trans (bh (by omega)) ?_)))⟩
  rw[hs,drop_cons (by omega),kT,if_neg (by assumption)]
 ·have he:kT i.addr (s.core q).buf (s.mem.getD i.addr.toNat 0,did.own)=(w,own):=by
   show kT i.addr (s.bf.getD q default).buf _=_
   rw[hs,List.drop_eq_nil_of_le (by omega),kT]
  simp only[lr,he]
  refine⟨⟨(by first|omega|(simp only[List.length_cons,List.length_nil];omega)),⟨_,h.next (q:=q) hq ((s.core q).put i.d w) (L.cY.getD q 0) (s.mem) (s.bg) (by first|omega|(simp only[List.length_cons,List.length_nil];omega)) (by first|exact .inl rfl|(right;omega)) ⟨_,_,bo,rfl⟩ ⟨_,_,bo,(by rw[bx.av,←jf _ _ _ _ hD];rfl)⟩ ⟨_,_,bo,rfl⟩ ⟨_,_,bo,rfl⟩ ⟨_,_,bo,rfl⟩ (by intro j hj hne hlt n1 n2 n3 n4 n5;have x5:=(Lay.out hd.out (q:=j) (by rw[h.lens];exact hj)).2.2.2.2;repeat(first|exact rfl|(exact hfr _ (by omega) (by omega))|(refine Eq.trans (bh (by first|omega|(simp only[List.length_cons,List.length_nil];omega))) ?_)))⟩,⟨_,bo⟩,(by intro b' hb' hout hne;obtain⟨o1,o2,o3,o4,o5⟩:=Lay.out hout (q:=q) (by rw[h.lens];exact hq);repeat(first|exact rfl|(exact hfr _ (by omega) (by omega))|(refine Eq.trans (bh (by first|omega|(simp only[List.length_cons,List.length_nil];omega))) ?_)))⟩⟩
end Go.Proofs.YtlonbgdonffcbaaGreatDoor
end
