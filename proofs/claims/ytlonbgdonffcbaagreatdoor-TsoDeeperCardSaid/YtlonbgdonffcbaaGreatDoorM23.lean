import Derived.Test.YtlonbgdonffcbaaGreatDoorM22
section
/- A machine at its place. -/
namespace Go.Proofs.YtlonbgdonffcbaaGreatDoor
open Go Go.cU Go.Proofs
set_option linter.unusedSimpArgs false
structure dA where
 pc:Int
 addr:Int
 word:Int
 deriving Inhabited,DecidableEq
abbrev dA.av (s:dA):AV:= .agg [i64 s.pc,i64 s.addr,i64 s.word]
structure bx where
 pc:Int
 halted:Bool
 de:Nat→Int
 buf:List dA
 deriving Inhabited
def bx.cells (c:bx) (v:AV):List AV:=[i64 c.pc,bl c.halted,i64 (c.de 0),i64 (c.de 1),i64 (c.de 2),i64 (c.de 3),i64 (c.de 4),i64 (c.de 5),i64 (c.de 6),i64 (c.de 7),i64 (c.de 8),i64 (c.de 9),i64 (c.de 10),i64 (c.de 11),i64 (c.de 12),i64 (c.de 13),i64 (c.de 14),i64 (c.de 15),v]
abbrev bx.av (c:bx) (b:Nat):AV:= .agg (c.cells (.sl b c.buf.length))
def lx (f:Nat→Int) (k:Int) (w:Int):Nat→Int:=fun j=>if j=k.toNat then w else f j
def bx.put (c:bx) (k:Int) (w:Int):bx:={ c with de:=lx c.de k w }
structure eA where
 kind:Int
 core:Int
 pc:Int
 addr:Int
 word:Int
 put:Int
 own:Bool
 deriving Inhabited,DecidableEq
abbrev eA.av (d:eA):AV:= .agg [u8 d.kind,i64 d.core,i64 d.pc,i64 d.addr,i64 d.word,i64 d.put,bl d.own]
structure cF where
 cj:Int
 word:Int
 deriving Inhabited,DecidableEq
abbrev cF.av (p:cF):AV:= .agg [i64 p.cj,i64 p.word]
structure bk where
 bd:List bx
 mem:List Int
 bg:List cF
 deriving Inhabited
structure Lay where
 m:Nat
 c:Nat
 mem:Nat
 pr:Nat
 cZ:List Nat
def Lay.ids (L:Lay):List Nat:=L.m::L.c::L.mem::L.pr::L.cZ
abbrev jx (o:Obj) (s:bk) (L:Lay):AV:= .agg [.sc (.slice none 0 0),i64 o.shared,i64 o.fX,i64 o.buffer, .im 2 .any (o.bd.map Core.av), .sl L.c s.bd.length, .sl L.mem s.mem.length, .sl L.pr s.bg.length]
def rows (s:bk) (L:Lay):List AV:=List.zipWith bx.av s.bd L.cZ
structure fh (o:Obj) (s:bk) (L:Lay) (H:Hp) (nx:Nat):Prop where
 m:∃d,bf H L.m=some (.row 77 8 d [jx o s L])
 c:∃d,bf H L.c=some (.row 93 19 d (rows s L))
 mem:∃d,bf H L.mem=some (.row 2 1 d (s.mem.map i64))
 pr:∃d,bf H L.pr=some (.row 68 2 d (s.bg.map cF.av))
 cZ:∀i,i<s.bd.length→∃d,bf H (L.cZ.getD i 0)=some (.row 125 3 d ((s.bd.getD i default).buf.map dA.av))
 lens:L.cZ.length=s.bd.length
 lt:∀b∈L.ids,b<nx
 nodup:L.ids.Nodup
structure lY (L L':Lay) (nx:Nat):Prop where
 m:L'.m=L.m
 ids:∀b∈L'.ids,b∈L.ids∨nx≤b
theorem lY.refl (L:Lay) (nx:Nat):lY L L nx:=⟨rfl,fun _ h=> .inl h⟩
theorem lY.trans {L L' L'':Lay} {n n':Nat} (h:lY L L' n) (h':lY L' L'' n') (hn:n≤n'):lY L L'' n:=by
 refine⟨h'.m.trans h.m,fun b hb=> ?_⟩
 rcases h'.ids b hb with h1|h1
 ·exact h.ids b h1
 ·exact .inr (by omega)
structure NI (L:Lay) (q:Nat):Prop where
 mc:L.m≠L.c
 P0:L.m≠L.mem
 mpr:L.m≠L.pr
 PU:L.c≠L.mem
 P3:L.c≠L.pr
 PM:L.mem≠L.pr
 mb:L.m≠L.cZ.getD q 0
 cb:L.c≠L.cZ.getD q 0
 PD:L.mem≠L.cZ.getD q 0
 P1:L.pr≠L.cZ.getD q 0
theorem Lay.jz {L:Lay} {q:Nat} (h:q<L.cZ.length):L.cZ.getD q 0∈L.cZ:=by
 have:L.cZ.getD q 0=L.cZ[q]:=by simp[List.getD,h]
 rw[this];exact List.getElem_mem h
theorem fh.apart {o:Obj} {s:bk} {L:Lay} {H:Hp} {nx:Nat} (h:fh o s L H nx) {q:Nat} (hq:q<s.bd.length):NI L q:=by
 have hb:=Lay.jz (L:=L) (q:=q) (by rw[h.lens];exact hq)
 have hn:=h.nodup
 simp only[Lay.ids,List.nodup_cons,List.mem_cons,not_or] at hn
 obtain⟨⟨h1,h2,h3,h4⟩,⟨h5,h6,h7⟩,⟨h8,h9⟩,h10,h11⟩:=hn
 exact⟨h1,h2,h3,h5,h6,h8,fun h=>h4 (h▸hb),fun h=>h7 (h▸hb),fun h=>h9 (h▸hb),fun h=>h10 (h▸hb)⟩
theorem fh.other {o:Obj} {s:bk} {L:Lay} {H:Hp} {nx:Nat} (h:fh o s L H nx) {q j:Nat} (hq:q<s.bd.length) (hj:j<s.bd.length) (hne:j≠q):L.cZ.getD j 0≠L.cZ.getD q 0:=by
 have hn:=h.nodup
 simp only[Lay.ids,List.nodup_cons] at hn
 have hb:L.cZ.Nodup:=hn.2.2.2.2
 have e1:L.cZ.getD j 0=L.cZ[j]'(by rw[h.lens];exact hj):=by simp[List.getD,h.lens,hj]
 have e2:L.cZ.getD q 0=L.cZ[q]'(by rw[h.lens];exact hq):=by simp[List.getD,h.lens,hq]
 rw[e1,e2]
 have hp:=List.pairwise_iff_getElem.1 hb
 rcases Nat.lt_or_gt_of_ne hne with h1|h1
 ·exact hp _ _ _ _ h1
 ·exact(hp _ _ _ _ h1).symm
structure PS (L:Lay) (q nx:Nat):Prop where
 m:L.m<nx
 c:L.c<nx
 mem:L.mem<nx
 pr:L.pr<nx
 b:L.cZ.getD q 0<nx
theorem fh.pE {o:Obj} {s:bk} {L:Lay} {H:Hp} {nx:Nat} (h:fh o s L H nx) {q:Nat} (hq:q<s.bd.length):PS L q nx:=by
 have hb:=Lay.jz (L:=L) (q:=q) (by rw[h.lens];exact hq)
 constructor<;>refine h.lt _ ?_<;>simp[Lay.ids]
 exact .inr (.inr (.inr (.inr (by simpa using hb))))
@[simp] theorem dG {o:Obj} {s:bk} {L:Lay} {H:Hp} {nx:Nat} (h:fh o s L H nx):(rows s L).length=s.bd.length:=by
  simp[rows,h.lens]
theorem eM {o:Obj} {s:bk} {L:Lay} {H:Hp} {nx:Nat} (h:fh o s L H nx) {q:Nat} (hq:q<s.bd.length) (d:AV):(rows s L).getD q d=(s.bd.getD q default).av (L.cZ.getD q 0):=by
 have h2:q<L.cZ.length:=by rw[h.lens];exact hq
 have h3:q<(rows s L).length:=by rw[dG h];exact hq
 rw[List.getD,List.getElem?_eq_getElem h3]
 simp[rows,List.getD,hq,h2]
theorem GY {s:bk} {L:Lay} {q:Nat} (c:bx) (b:Nat) (mem:List Int) (pr:List cF):rows ⟨s.bd.set q c,mem,pr⟩ { L with cZ:=L.cZ.set q b }=(rows s L).set q (c.av b):=by
 simp only[rows]
 apply List.ext_getElem
 ·simp
 ·intro i h1 h2
  simp only[List.getElem_zipWith,List.getElem_set]
  by_cases h:q=i<;>simp[h]
theorem A8 {l:List Nat} {q b:Nat} (h:l.Nodup) (hb:b∉l):(l.set q b).Nodup:=by
 refine List.pairwise_iff_getElem.2 fun i j hi hj hij=> ?_
 have hp:=List.pairwise_iff_getElem.1 h
 simp only[List.length_set] at hi hj
 simp only[List.getElem_set]
 by_cases e1:q=i
 ·rw[if_pos e1,if_neg (by omega)]
  intro he;exact hb (he▸List.getElem_mem hj)
 ·rw[if_neg e1]
  by_cases e2:q=j
  ·rw[if_pos e2]
   intro he;exact hb (he▸List.getElem_mem hi)
  ·rw[if_neg e2];exact hp _ _ _ _ hij
theorem fh.next {o:Obj} {s:bk} {L:Lay} {H H':Hp} {nx nx':Nat} (h:fh o s L H nx) {q:Nat} (hq:q<s.bd.length) (c:bx) (b:Nat) (mem:List Int) (pr:List cF)
 (hn:nx≤nx') (hb:b=L.cZ.getD q 0∨(nx≤b∧b<nx'))
 (h1:∃d es,bf H' L.m=some (.row 77 8 d es)∧es=[.agg [.sc (.slice none 0 0),i64 o.shared,i64 o.fX,i64 o.buffer, .im 2 .any (o.bd.map Core.av), .sl L.c s.bd.length, .sl L.mem mem.length, .sl L.pr pr.length]])
 (h2:∃d es,bf H' L.c=some (.row 93 19 d es)∧es=(rows s L).set q (c.av b))
 (h3:∃d es,bf H' L.mem=some (.row 2 1 d es)∧es=mem.map i64)
 (h4:∃d es,bf H' L.pr=some (.row 68 2 d es)∧es=pr.map cF.av)
 (h5:∃d es,bf H' b=some (.row 125 3 d es)∧es=c.buf.map dA.av)
 (h6:∀j,j<s.bd.length→j≠q→L.cZ.getD j 0<nx→L.cZ.getD j 0≠L.m→L.cZ.getD j 0≠L.c→L.cZ.getD j 0≠L.mem→L.cZ.getD j 0≠L.pr→L.cZ.getD j 0≠L.cZ.getD q 0→bf H' (L.cZ.getD j 0)=bf H (L.cZ.getD j 0)):
 fh o ⟨s.bd.set q c,mem,pr⟩ { L with cZ:=L.cZ.set q b } H' nx'∧lY L { L with cZ:=L.cZ.set q b } nx:=by
 have hqb:q<L.cZ.length:=by rw[h.lens];exact hq
 obtain⟨e1,_,h1,rfl⟩:=h1
 obtain⟨e2,_,h2,rfl⟩:=h2
 obtain⟨e3,_,h3,rfl⟩:=h3
 obtain⟨e4,_,h4,rfl⟩:=h4
 obtain⟨e5,_,h5,rfl⟩:=h5
 refine⟨⟨⟨e1, ?_⟩,⟨e2, ?_⟩,⟨_,h3⟩,⟨_,h4⟩, ?_, ?_, ?_, ?_⟩,⟨rfl, ?_⟩⟩
 ·rw[h1];simp
 ·rw[GY];exact h2
 ·intro i hi
  simp only[List.length_set] at hi
  by_cases he:i=q
  ·subst he
   simp only[List.getD,List.getElem?_set_self hqb,List.getElem?_set_self hq,Option.getD_some]
   exact⟨_,h5⟩
  ·have e1:(L.cZ.set q b).getD i 0=L.cZ.getD i 0:=by simp[List.getD,List.getElem?_set_ne (Ne.symm he)]
   have e2:(s.bd.set q c).getD i default=s.bd.getD i default:=by simp[List.getD,List.getElem?_set_ne (Ne.symm he)]
   have ha:=h.apart hi
   simp only[e1,e2]
   rw[h6 i hi he (h.pE hi).b ha.mb.symm ha.cb.symm ha.PD.symm ha.P1.symm (h.other hq hi he)]
   exact h.cZ i hi
 ·simp[h.lens]
 ·intro x hx
  simp only[Lay.ids,List.mem_cons] at hx
  rcases hx with rfl|rfl|rfl|rfl|hx
  ·have:=(h.pE hq).m;omega
  ·have:=(h.pE hq).c;omega
  ·have:=(h.pE hq).mem;omega
  ·have:=(h.pE hq).pr;omega
  ·rcases List.mem_or_eq_of_mem_set hx with hx|rfl
   ·have:=h.lt x (by simp[Lay.ids,hx]);omega
   ·rcases hb with rfl|hb
    ·have:=(h.pE hq).b;omega
    ·omega
 ·have hn:=h.nodup
  simp only[Lay.ids,List.nodup_cons,List.mem_cons,not_or] at hn ⊢
  obtain⟨⟨n1,n2,n3,n4⟩,⟨n5,n6,n7⟩,⟨n8,n9⟩,n10,n11⟩:=hn
  have hin:∀x,x∉L.cZ→x<nx→x∉L.cZ.set q b:=by
   intro x hx hlt hm
   rcases List.mem_or_eq_of_mem_set hm with h|rfl
   ·exact hx h
   ·rcases hb with rfl|hb
    ·exact hx (Lay.jz hqb)
    ·omega
  have hl:=h.pE hq
  refine⟨⟨n1,n2,n3,hin _ n4 hl.m⟩,⟨n5,n6,hin _ n7 hl.c⟩,⟨n8,hin _ n9 hl.mem⟩,hin _ n10 hl.pr, ?_⟩
  rcases hb with rfl|hb
  ·have:L.cZ.set q (L.cZ.getD q 0)=L.cZ:=by
    have e:L.cZ.getD q 0=L.cZ[q]:=by simp[List.getD,hqb]
    rw[e,List.set_getElem_self]
   rw[this];exact n11
  ·exact A8 n11 fun hm=>by
    have:=h.lt b (by simp[Lay.ids,hm])
    omega
 ·intro x hx
  simp only[Lay.ids,List.mem_cons] at hx
  rcases hx with rfl|rfl|rfl|rfl|hx
  ·exact .inl (by simp[Lay.ids])
  ·exact .inl (by simp[Lay.ids])
  ·exact .inl (by simp[Lay.ids])
  ·exact .inl (by simp[Lay.ids])
  ·rcases List.mem_or_eq_of_mem_set hx with hx|rfl
   ·exact .inl (by simp[Lay.ids,hx])
   ·rcases hb with rfl|hb
    ·exact .inl (by simp only[Lay.ids,List.mem_cons];exact .inr (.inr (.inr (.inr (Lay.jz hqb)))))
    ·exact .inr hb.1
theorem nu {o:Obj} {s:bk} {L:Lay} {H:Hp} {nx:Nat} (h:fh o s L H nx) {q:Nat} (hq:q<s.bd.length):(rows s L).set q ((s.bd.getD q default).av (L.cZ.getD q 0))=rows s L:=by
 have h3:q<(rows s L).length:=by rw[dG h];exact hq
 have h4:=eM h hq .any
 rw[←h4]
 have:(rows s L).getD q .any=(rows s L)[q]:=by simp[List.getD,h3]
 rw[this,List.set_getElem_self]
end Go.Proofs.YtlonbgdonffcbaaGreatDoor
/- What a turn does. -/
namespace Go.Proofs.YtlonbgdonffcbaaGreatDoor
open Go Go.cU Go.Proofs
set_option linter.unusedSimpArgs false
set_option linter.unusedVariables false
theorem set_set {α:Type} (l:List α) (i:Nat) (v w:α):(l.set i v).set i w=l.set i w:=by simp
theorem gU (c:bx) (v:AV) (k:Int) (h:0≤k∧k<16):(c.cells v).getD (2+k.toNat * 1) .any=i64 (c.de k.toNat):=by
 have h2:k.toNat=0∨k.toNat=1∨k.toNat=2∨k.toNat=3∨k.toNat=4∨k.toNat=5∨k.toNat=6∨k.toNat=7∨k.toNat=8∨k.toNat=9∨k.toNat=10∨k.toNat=11∨k.toNat=12∨k.toNat=13∨k.toNat=14∨k.toNat=15:=by omega
 generalize k.toNat=j at h2 ⊢
 rcases h2 with rfl|rfl|rfl|rfl|rfl|rfl|rfl|rfl|rfl|rfl|rfl|rfl|rfl|rfl|rfl|rfl<;>rfl
theorem jb (c:bx) (v:AV) (k:Int) (w:Int) (h:0≤k∧k<16):(c.cells v).set (2+k.toNat * 1) (i64 w)=(c.put k w).cells v:=by
 have h2:k.toNat=0∨k.toNat=1∨k.toNat=2∨k.toNat=3∨k.toNat=4∨k.toNat=5∨k.toNat=6∨k.toNat=7∨k.toNat=8∨k.toNat=9∨k.toNat=10∨k.toNat=11∨k.toNat=12∨k.toNat=13∨k.toNat=14∨k.toNat=15:=by omega
 simp only[bx.cells,bx.put,lx]
 generalize k.toNat=j at h2 ⊢
 rcases h2 with rfl|rfl|rfl|rfl|rfl|rfl|rfl|rfl|rfl|rfl|rfl|rfl|rfl|rfl|rfl|rfl<;>rfl
abbrev ef (d:eA) (df:AV):dx:= .row 37 7 df [d.av]
abbrev fM (s:bk) (L:Lay) (q d:Nat) (i:Instr):AV:= .agg [.pt L.m 1 0 0, .pt L.c s.bd.length q 0,u8 i.kind,u8 i.op,i64 i.d,i64 i.a,i64 i.b,i64 i.addr,i64 i.to,i64 i.word,i64 i.fr, .pt d 1 0 0]
abbrev bk.core (s:bk) (q:Nat):bx:=s.bd.getD q default
def bk.cn (s:bk) (q:Nat) (c:bx):bk:={ s with bd:=s.bd.set q c }
def gM (o:Obj) (L:Lay) (H:Hp) (nx d:Nat) (s:bk) (did:eA):AV→Hp→Nat→Prop:=fun _ H' n=>
 nx≤n∧(∃L',fh o s L' H' n∧lY L L' nx)∧(∃df,bf H' d=some (ef did df))∧∀b,b<nx→b∉L.ids→b≠d→bf H' b=bf H b
structure jT (L:Lay) (H:Hp) (nx d:Nat) (did:eA):Prop where
 lt:d<nx
 out:d∉L.ids
 row:∃df,bf H d=some (ef did df)
theorem Lay.out {L:Lay} {b:Nat} (h:b∉L.ids) {q:Nat} (hq:q<L.cZ.length):b≠L.m∧b≠L.c∧b≠L.mem∧b≠L.pr∧b≠L.cZ.getD q 0:=by
 simp only[Lay.ids,List.mem_cons,not_or] at h
 exact⟨h.1,h.2.1,h.2.2.1,h.2.2.2.1,fun he=>h.2.2.2.2 (he▸Lay.jz hq)⟩
def rf (s:bk) (q:Nat) (i:Instr) (did:eA):bk×eA:=(s.cn q ((s.core q).put i.d i.word),{ did with kind:=1 })
theorem G3 {o:Obj} {s:bk} {L:Lay} {H:Hp} {nx:Nat} (h:fh o s L H nx) {q:Nat} (hq:q<s.bd.length) {d:Nat} {did:eA} (hd:jT L H nx d did) (i:Instr) (hD:0≤i.d∧i.d<16):
 bw Tryz.prog 78 [fM s L q d i] H nx (gM o L H nx d (rf s q i did).1 (rf s q i did).2):=by
 refine aO FT rfl ?_
 obtain⟨dm,hm⟩:=h.m
 obtain⟨dc,hc⟩:=h.c
 obtain⟨dmem,hmem⟩:=h.mem
 obtain⟨dpr,hpr⟩:=h.pr
 obtain⟨db,hb⟩:=h.cZ q hq
 obtain⟨dd,hdr⟩:=hd.row
 obtain⟨a1,a2,a3,a4,a5,a6,a7,a8,a9,a10⟩:=h.apart hq
 obtain⟨l1,l2,l3,l4,l5⟩:=h.pE hq
 obtain⟨d1,d2,d3,d4,d5⟩:=Lay.out hd.out (q:=q) (by rw[h.lens];exact hq)
 have hdl:=hd.lt
 have hel:=dG h
 have hei:=eM h hq
 rw[ef] at hdr
 repeat' (first|((with_reducible refine aF ?_);conv=>whnf)|refine aG ?_|exact aC|with_reducible refine aD ?_ ?_|(apply aA;(·(first|exact hei _|exact gU _ _ _ hD|exact bz)))|refine aH ?_|((with_reducible refine aB ?_ ?_)<;>intro hc<;>(try simp only[List.length_map,ne_eq,dL] at hc)<;>try(exfalso;omega)))
 refine⟨⟨(by first|omega|(simp only[List.length_cons,List.length_nil];omega)),⟨_,h.next (q:=q) hq ((s.core q).put i.d i.word) (L.cZ.getD q 0) (s.mem) (s.bg) (by first|omega|(simp only[List.length_cons,List.length_nil];omega)) (by first|exact .inl rfl|(right;omega)) ⟨_,_,bn,rfl⟩ ⟨_,_,bn,(by rw[bx.av,←jb _ _ _ _ hD];rfl)⟩ ⟨_,_,bn,rfl⟩ ⟨_,_,bn,rfl⟩ ⟨_,_,bn,rfl⟩ (by intro j hj hne hlt n1 n2 n3 n4 n5;have x5:=(Lay.out hd.out (q:=j) (by rw[h.lens];exact hj)).2.2.2.2;repeat(first|exact rfl|(exact hfr _ (by omega) (by omega))|(refine Eq.trans (bh (by first|omega|(simp only[List.length_cons,List.length_nil];omega))) ?_)))⟩,⟨_,bn⟩,(by intro b' hb' hout hne;obtain⟨o1,o2,o3,o4,o5⟩:=Lay.out hout (q:=q) (by rw[h.lens];exact hq);repeat(first|exact rfl|(exact hfr _ (by omega) (by omega))|(refine Eq.trans (bh (by first|omega|(simp only[List.length_cons,List.length_nil];omega))) ?_)))⟩⟩
def KN (op a b:Int):Int:=if two op=true then J1 op a b else JD op a
def uV (s:bk) (q:Nat) (i:Instr) (did:eA):bk×eA:=(s.cn q ((s.core q).put i.d (KN i.op ((s.core q).de i.a.toNat) ((s.core q).de i.b.toNat))),{ did with kind:=1 })
theorem MI {o:Obj} {s:bk} {L:Lay} {H:Hp} {nx:Nat} (h:fh o s L H nx) {q:Nat} (hq:q<s.bd.length) {d:Nat} {did:eA} (hd:jT L H nx d did) (i:Instr) (hD:0≤i.d∧i.d<16) (hA:0≤i.a∧i.a<16) (hB:0≤i.b∧i.b<16) (ht:two i.op=true):
 bw Tryz.prog 79 [fM s L q d i] H nx (gM o L H nx d (uV s q i did).1 (uV s q i did).2):=by
 refine aO AZ rfl ?_
 obtain⟨dm,hm⟩:=h.m
 obtain⟨dc,hc⟩:=h.c
 obtain⟨dmem,hmem⟩:=h.mem
 obtain⟨dpr,hpr⟩:=h.pr
 obtain⟨db,hb⟩:=h.cZ q hq
 obtain⟨dd,hdr⟩:=hd.row
 obtain⟨a1,a2,a3,a4,a5,a6,a7,a8,a9,a10⟩:=h.apart hq
 obtain⟨l1,l2,l3,l4,l5⟩:=h.pE hq
 obtain⟨d1,d2,d3,d4,d5⟩:=Lay.out hd.out (q:=q) (by rw[h.lens];exact hq)
 have hdl:=hd.lt
 have hel:=dG h
 have hei:=eM h hq
 rw[ef] at hdr
 repeat' (first|((with_reducible refine aF ?_);conv=>whnf)|refine aG ?_|exact aC|with_reducible refine aD ?_ ?_|(apply aA;(·(first|exact hei _|exact gU _ _ _ hD|exact gU _ _ _ hA|exact gU _ _ _ hB|exact bz)))|((with_reducible refine aJ (sj _ _ _ ht) ?_ ?_);(·exact bj))|((with_reducible refine aN (fun _=>sj _ _ _ ht) ?_ ?_);(·exact bj))|((with_reducible refine aL (sj _ _ _ ht) ?_ ?_);(·exact bj))|((with_reducible refine aM (fun _=>sj _ _ _ ht) ?_ ?_);(·exact bj))|refine aH ?_|((with_reducible refine aB ?_ ?_)<;>intro hc<;>(try simp only[List.length_map,ne_eq,dL] at hc)<;>try(exfalso;omega)))
 refine⟨⟨(by first|omega|(simp only[List.length_cons,List.length_nil];omega)),⟨_,h.next (q:=q) hq ((s.core q).put i.d (KN i.op ((s.core q).de i.a.toNat) ((s.core q).de i.b.toNat))) (L.cZ.getD q 0) (s.mem) (s.bg) (by first|omega|(simp only[List.length_cons,List.length_nil];omega)) (by first|exact .inl rfl|(right;omega)) ⟨_,_,bn,rfl⟩ ⟨_,_,bn,(by rw[KN,if_pos ht,bx.av,←jb _ _ _ _ hD];rfl)⟩ ⟨_,_,bn,rfl⟩ ⟨_,_,bn,rfl⟩ ⟨_,_,bn,rfl⟩ (by intro j hj hne hlt n1 n2 n3 n4 n5;have x5:=(Lay.out hd.out (q:=j) (by rw[h.lens];exact hj)).2.2.2.2;repeat(first|exact rfl|(exact hfr _ (by omega) (by omega))|(refine Eq.trans (bh (by first|omega|(simp only[List.length_cons,List.length_nil];omega))) ?_)))⟩,⟨_,bn⟩,(by intro b' hb' hout hne;obtain⟨o1,o2,o3,o4,o5⟩:=Lay.out hout (q:=q) (by rw[h.lens];exact hq);repeat(first|exact rfl|(exact hfr _ (by omega) (by omega))|(refine Eq.trans (bh (by first|omega|(simp only[List.length_cons,List.length_nil];omega))) ?_)))⟩⟩
theorem MH {o:Obj} {s:bk} {L:Lay} {H:Hp} {nx:Nat} (h:fh o s L H nx) {q:Nat} (hq:q<s.bd.length) {d:Nat} {did:eA} (hd:jT L H nx d did) (i:Instr) (hD:0≤i.d∧i.d<16) (hA:0≤i.a∧i.a<16) (hB:0≤i.b∧i.b<16) (ht:two i.op=false) (ho:i.op=17∨i.op=18):
 bw Tryz.prog 79 [fM s L q d i] H nx (gM o L H nx d (uV s q i did).1 (uV s q i did).2):=by
 refine aO AZ rfl ?_
 obtain⟨dm,hm⟩:=h.m
 obtain⟨dc,hc⟩:=h.c
 obtain⟨dmem,hmem⟩:=h.mem
 obtain⟨dpr,hpr⟩:=h.pr
 obtain⟨db,hb⟩:=h.cZ q hq
 obtain⟨dd,hdr⟩:=hd.row
 obtain⟨a1,a2,a3,a4,a5,a6,a7,a8,a9,a10⟩:=h.apart hq
 obtain⟨l1,l2,l3,l4,l5⟩:=h.pE hq
 obtain⟨d1,d2,d3,d4,d5⟩:=Lay.out hd.out (q:=q) (by rw[h.lens];exact hq)
 have hdl:=hd.lt
 have hel:=dG h
 have hei:=eM h hq
 rw[ef] at hdr
 repeat' (first|((with_reducible refine aF ?_);conv=>whnf)|refine aG ?_|exact aC|with_reducible refine aD ?_ ?_|(apply aA;(·(first|exact hei _|exact gU _ _ _ hD|exact gU _ _ _ hA|exact gU _ _ _ hB|exact bz)))|((with_reducible refine aJ (si _ _ _ ht) ?_ ?_);(·exact bj))|((with_reducible refine aN (fun _=>si _ _ _ ht) ?_ ?_);(·exact bj))|((with_reducible refine aL (si _ _ _ ht) ?_ ?_);(·exact bj))|((with_reducible refine aM (fun _=>si _ _ _ ht) ?_ ?_);(·exact bj))|((with_reducible refine aJ (oj _ _ ho) ?_ ?_);(·exact bj))|((with_reducible refine aN (fun _=>oj _ _ ho) ?_ ?_);(·exact bj))|((with_reducible refine aL (oj _ _ ho) ?_ ?_);(·exact bj))|((with_reducible refine aM (fun _=>oj _ _ ho) ?_ ?_);(·exact bj))|refine aH ?_|((with_reducible refine aB ?_ ?_)<;>intro hc<;>(try simp only[List.length_map,ne_eq,dL] at hc)<;>try(exfalso;omega)))
 refine⟨⟨(by first|omega|(simp only[List.length_cons,List.length_nil];omega)),⟨_,h.next (q:=q) hq ((s.core q).put i.d (KN i.op ((s.core q).de i.a.toNat) ((s.core q).de i.b.toNat))) (L.cZ.getD q 0) (s.mem) (s.bg) (by first|omega|(simp only[List.length_cons,List.length_nil];omega)) (by first|exact .inl rfl|(right;omega)) ⟨_,_,bn,rfl⟩ ⟨_,_,bn,(by rw[KN,if_neg (by rw[ht];simp),bx.av,←jb _ _ _ _ hD];rfl)⟩ ⟨_,_,bn,rfl⟩ ⟨_,_,bn,rfl⟩ ⟨_,_,bn,rfl⟩ (by intro j hj hne hlt n1 n2 n3 n4 n5;have x5:=(Lay.out hd.out (q:=j) (by rw[h.lens];exact hj)).2.2.2.2;repeat(first|exact rfl|(exact hfr _ (by omega) (by omega))|(refine Eq.trans (bh (by first|omega|(simp only[List.length_cons,List.length_nil];omega))) ?_)))⟩,⟨_,bn⟩,(by intro b' hb' hout hne;obtain⟨o1,o2,o3,o4,o5⟩:=Lay.out hout (q:=q) (by rw[h.lens];exact hq);repeat(first|exact rfl|(exact hfr _ (by omega) (by omega))|(refine Eq.trans (bh (by first|omega|(simp only[List.length_cons,List.length_nil];omega))) ?_)))⟩⟩
def lK (s:bk) (q:Nat) (i:Instr) (did:eA):bk×eA:=(s.cn q (s.core q),{ did with kind:=5 })
theorem wz {o:Obj} {s:bk} {L:Lay} {H:Hp} {nx:Nat} (h:fh o s L H nx) {q:Nat} (hq:q<s.bd.length) {d:Nat} {did:eA} (hd:jT L H nx d did) (i:Instr):
 bw Tryz.prog 83 [fM s L q d i] H nx (gM o L H nx d (lK s q i did).1 (lK s q i did).2):=by
 refine aO FX rfl ?_
 obtain⟨dm,hm⟩:=h.m
 obtain⟨dc,hc⟩:=h.c
 obtain⟨dmem,hmem⟩:=h.mem
 obtain⟨dpr,hpr⟩:=h.pr
 obtain⟨db,hb⟩:=h.cZ q hq
 obtain⟨dd,hdr⟩:=hd.row
 obtain⟨a1,a2,a3,a4,a5,a6,a7,a8,a9,a10⟩:=h.apart hq
 obtain⟨l1,l2,l3,l4,l5⟩:=h.pE hq
 obtain⟨d1,d2,d3,d4,d5⟩:=Lay.out hd.out (q:=q) (by rw[h.lens];exact hq)
 have hdl:=hd.lt
 have hel:=dG h
 have hei:=eM h hq
 rw[ef] at hdr
 repeat' (first|((with_reducible refine aF ?_);conv=>whnf)|refine aG ?_|exact aC|with_reducible refine aD ?_ ?_|(apply aA;(·(first|exact hei _|exact bz)))|refine aH ?_|((with_reducible refine aB ?_ ?_)<;>intro hc<;>(try simp only[List.length_map,ne_eq,dL] at hc)<;>try(exfalso;omega)))
 refine⟨⟨(by first|omega|(simp only[List.length_cons,List.length_nil];omega)),⟨_,h.next (q:=q) hq (s.core q) (L.cZ.getD q 0) (s.mem) (s.bg) (by first|omega|(simp only[List.length_cons,List.length_nil];omega)) (by first|exact .inl rfl|(right;omega)) ⟨_,_,bn,rfl⟩ ⟨_,_,bn,(nu h hq).symm⟩ ⟨_,_,bn,rfl⟩ ⟨_,_,bn,rfl⟩ ⟨_,_,bn,rfl⟩ (by intro j hj hne hlt n1 n2 n3 n4 n5;have x5:=(Lay.out hd.out (q:=j) (by rw[h.lens];exact hj)).2.2.2.2;repeat(first|exact rfl|(exact hfr _ (by omega) (by omega))|(refine Eq.trans (bh (by first|omega|(simp only[List.length_cons,List.length_nil];omega))) ?_)))⟩,⟨_,bn⟩,(by intro b' hb' hout hne;obtain⟨o1,o2,o3,o4,o5⟩:=Lay.out hout (q:=q) (by rw[h.lens];exact hq);repeat(first|exact rfl|(exact hfr _ (by omega) (by omega))|(refine Eq.trans (bh (by first|omega|(simp only[List.length_cons,List.length_nil];omega))) ?_)))⟩⟩
def nW (s:bk) (q:Nat) (i:Instr) (did:eA):bk×eA:=(s.cn q { s.core q with pc:=i.to },{ did with kind:=1 })
theorem AM {o:Obj} {s:bk} {L:Lay} {H:Hp} {nx:Nat} (h:fh o s L H nx) {q:Nat} (hq:q<s.bd.length) {d:Nat} {did:eA} (hd:jT L H nx d did) (i:Instr):
 bw Tryz.prog 85 [fM s L q d i] H nx (gM o L H nx d (nW s q i did).1 (nW s q i did).2):=by
 refine aO FZ rfl ?_
 obtain⟨dm,hm⟩:=h.m
 obtain⟨dc,hc⟩:=h.c
 obtain⟨dmem,hmem⟩:=h.mem
 obtain⟨dpr,hpr⟩:=h.pr
 obtain⟨db,hb⟩:=h.cZ q hq
 obtain⟨dd,hdr⟩:=hd.row
 obtain⟨a1,a2,a3,a4,a5,a6,a7,a8,a9,a10⟩:=h.apart hq
 obtain⟨l1,l2,l3,l4,l5⟩:=h.pE hq
 obtain⟨d1,d2,d3,d4,d5⟩:=Lay.out hd.out (q:=q) (by rw[h.lens];exact hq)
 have hdl:=hd.lt
 have hel:=dG h
 have hei:=eM h hq
 rw[ef] at hdr
 repeat' (first|((with_reducible refine aF ?_);conv=>whnf)|refine aG ?_|exact aC|with_reducible refine aD ?_ ?_|(apply aA;(·(first|exact hei _|exact bz)))|refine aH ?_|((with_reducible refine aB ?_ ?_)<;>intro hc<;>(try simp only[List.length_map,ne_eq,dL] at hc)<;>try(exfalso;omega)))
 refine⟨⟨(by first|omega|(simp only[List.length_cons,List.length_nil];omega)),⟨_,h.next (q:=q) hq ({ s.core q with pc:=i.to }) (L.cZ.getD q 0) (s.mem) (s.bg) (by first|omega|(simp only[List.length_cons,List.length_nil];omega)) (by first|exact .inl rfl|(right;omega)) ⟨_,_,bn,rfl⟩ ⟨_,_,bn,rfl⟩ ⟨_,_,bn,rfl⟩ ⟨_,_,bn,rfl⟩ ⟨_,_,bn,rfl⟩ (by intro j hj hne hlt n1 n2 n3 n4 n5;have x5:=(Lay.out hd.out (q:=j) (by rw[h.lens];exact hj)).2.2.2.2;repeat(first|exact rfl|(exact hfr _ (by omega) (by omega))|(refine Eq.trans (bh (by first|omega|(simp only[List.length_cons,List.length_nil];omega))) ?_)))⟩,⟨_,bn⟩,(by intro b' hb' hout hne;obtain⟨o1,o2,o3,o4,o5⟩:=Lay.out hout (q:=q) (by rw[h.lens];exact hq);repeat(first|exact rfl|(exact hfr _ (by omega) (by omega))|(refine Eq.trans (bh (by first|omega|(simp only[List.length_cons,List.length_nil];omega))) ?_)))⟩⟩
def nY (s:bk) (q:Nat) (i:Instr) (did:eA):bk×eA:=(s.cn q (if(s.core q).de i.a.toNat=0 then { s.core q with pc:=i.to } else s.core q),{ did with kind:=1 })
theorem B6 {o:Obj} {s:bk} {L:Lay} {H:Hp} {nx:Nat} (h:fh o s L H nx) {q:Nat} (hq:q<s.bd.length) {d:Nat} {did:eA} (hd:jT L H nx d did) (i:Instr) (hA:0≤i.a∧i.a<16):
 bw Tryz.prog 86 [fM s L q d i] H nx (gM o L H nx d (nY s q i did).1 (nY s q i did).2):=by
 refine aO F0 rfl ?_
 obtain⟨dm,hm⟩:=h.m
 obtain⟨dc,hc⟩:=h.c
 obtain⟨dmem,hmem⟩:=h.mem
 obtain⟨dpr,hpr⟩:=h.pr
 obtain⟨db,hb⟩:=h.cZ q hq
 obtain⟨dd,hdr⟩:=hd.row
 obtain⟨a1,a2,a3,a4,a5,a6,a7,a8,a9,a10⟩:=h.apart hq
 obtain⟨l1,l2,l3,l4,l5⟩:=h.pE hq
 obtain⟨d1,d2,d3,d4,d5⟩:=Lay.out hd.out (q:=q) (by rw[h.lens];exact hq)
 have hdl:=hd.lt
 have hel:=dG h
 have hei:=eM h hq
 rw[ef] at hdr
 repeat' (first|((with_reducible refine aF ?_);conv=>whnf)|refine aG ?_|exact aC|with_reducible refine aD ?_ ?_|(apply aA;(·(first|exact hei _|exact gU _ _ _ hA|exact bz)))|refine aH ?_|((with_reducible refine aB ?_ ?_)<;>intro hc<;>(try simp only[List.length_map,ne_eq,dL] at hc)<;>try(exfalso;omega)))
 ·refine⟨⟨(by first|omega|(simp only[List.length_cons,List.length_nil];omega)),⟨_,h.next (q:=q) hq (if(s.core q).de i.a.toNat=0 then { s.core q with pc:=i.to } else s.core q) (L.cZ.getD q 0) (s.mem) (s.bg) (by first|omega|(simp only[List.length_cons,List.length_nil];omega)) (by first|exact .inl rfl|(right;omega)) ⟨_,_,bn,rfl⟩ ⟨_,_,bn,(by rw[if_pos (by assumption)];try rfl)⟩ ⟨_,_,bn,rfl⟩ ⟨_,_,bn,rfl⟩ ⟨_,_,bn,(by rw[if_pos (by assumption)];try rfl)⟩ (by intro j hj hne hlt n1 n2 n3 n4 n5;have x5:=(Lay.out hd.out (q:=j) (by rw[h.lens];exact hj)).2.2.2.2;repeat(first|exact rfl|(exact hfr _ (by omega) (by omega))|(refine Eq.trans (bh (by first|omega|(simp only[List.length_cons,List.length_nil];omega))) ?_)))⟩,⟨_,bn⟩,(by intro b' hb' hout hne;obtain⟨o1,o2,o3,o4,o5⟩:=Lay.out hout (q:=q) (by rw[h.lens];exact hq);repeat(first|exact rfl|(exact hfr _ (by omega) (by omega))|(refine Eq.trans (bh (by first|omega|(simp only[List.length_cons,List.length_nil];omega))) ?_)))⟩⟩
 ·refine⟨⟨(by first|omega|(simp only[List.length_cons,List.length_nil];omega)),⟨_,h.next (q:=q) hq (if(s.core q).de i.a.toNat=0 then { s.core q with pc:=i.to } else s.core q) (L.cZ.getD q 0) (s.mem) (s.bg) (by first|omega|(simp only[List.length_cons,List.length_nil];omega)) (by first|exact .inl rfl|(right;omega)) ⟨_,_,bn,rfl⟩ ⟨_,_,bn,(by rw[if_neg (by assumption)];exact(nu h hq).symm)⟩ ⟨_,_,bn,rfl⟩ ⟨_,_,bn,rfl⟩ ⟨_,_,bn,(by rw[if_neg (by assumption)];try rfl)⟩ (by intro j hj hne hlt n1 n2 n3 n4 n5;have x5:=(Lay.out hd.out (q:=j) (by rw[h.lens];exact hj)).2.2.2.2;repeat(first|exact rfl|(exact hfr _ (by omega) (by omega))|(refine Eq.trans (bh (by first|omega|(simp only[List.length_cons,List.length_nil];omega))) ?_)))⟩,⟨_,bn⟩,(by intro b' hb' hout hne;obtain⟨o1,o2,o3,o4,o5⟩:=Lay.out hout (q:=q) (by rw[h.lens];exact hq);repeat(first|exact rfl|(exact hfr _ (by omega) (by omega))|(refine Eq.trans (bh (by first|omega|(simp only[List.length_cons,List.length_nil];omega))) ?_)))⟩⟩
def nV (s:bk) (q:Nat) (i:Instr) (did:eA):bk×eA:=(s.cn q { s.core q with pc:=did.pc,halted:=true },{ did with kind:=7 })
theorem AG {o:Obj} {s:bk} {L:Lay} {H:Hp} {nx:Nat} (h:fh o s L H nx) {q:Nat} (hq:q<s.bd.length) {d:Nat} {did:eA} (hd:jT L H nx d did) (i:Instr):
 bw Tryz.prog 87 [fM s L q d i] H nx (gM o L H nx d (nV s q i did).1 (nV s q i did).2):=by
 refine aO F1 rfl ?_
 obtain⟨dm,hm⟩:=h.m
 obtain⟨dc,hc⟩:=h.c
 obtain⟨dmem,hmem⟩:=h.mem
 obtain⟨dpr,hpr⟩:=h.pr
 obtain⟨db,hb⟩:=h.cZ q hq
 obtain⟨dd,hdr⟩:=hd.row
 obtain⟨a1,a2,a3,a4,a5,a6,a7,a8,a9,a10⟩:=h.apart hq
 obtain⟨l1,l2,l3,l4,l5⟩:=h.pE hq
 obtain⟨d1,d2,d3,d4,d5⟩:=Lay.out hd.out (q:=q) (by rw[h.lens];exact hq)
 have hdl:=hd.lt
 have hel:=dG h
 have hei:=eM h hq
 rw[ef] at hdr
 repeat' (first|((with_reducible refine aF ?_);conv=>whnf)|refine aG ?_|exact aC|with_reducible refine aD ?_ ?_|(apply aA;(·(first|exact hei _|exact bz)))|refine aH ?_|((with_reducible refine aB ?_ ?_)<;>intro hc<;>(try simp only[List.length_map,ne_eq,dL] at hc)<;>try(exfalso;omega)))
 refine⟨⟨(by first|omega|(simp only[List.length_cons,List.length_nil];omega)),⟨_,h.next (q:=q) hq ({ s.core q with pc:=did.pc,halted:=true }) (L.cZ.getD q 0) (s.mem) (s.bg) (by first|omega|(simp only[List.length_cons,List.length_nil];omega)) (by first|exact .inl rfl|(right;omega)) ⟨_,_,bn,rfl⟩ ⟨_,_,bn,(by simp only[set_set];rfl)⟩ ⟨_,_,bn,rfl⟩ ⟨_,_,bn,rfl⟩ ⟨_,_,bn,rfl⟩ (by intro j hj hne hlt n1 n2 n3 n4 n5;have x5:=(Lay.out hd.out (q:=j) (by rw[h.lens];exact hj)).2.2.2.2;repeat(first|exact rfl|(exact hfr _ (by omega) (by omega))|(refine Eq.trans (bh (by first|omega|(simp only[List.length_cons,List.length_nil];omega))) ?_)))⟩,⟨_,bn⟩,(by intro b' hb' hout hne;obtain⟨o1,o2,o3,o4,o5⟩:=Lay.out hout (q:=q) (by rw[h.lens];exact hq);repeat(first|exact rfl|(exact hfr _ (by omega) (by omega))|(refine Eq.trans (bh (by first|omega|(simp only[List.length_cons,List.length_nil];omega))) ?_)))⟩⟩
end Go.Proofs.YtlonbgdonffcbaaGreatDoor
/- What a turn does: the longer ones. -/
namespace Go.Proofs.YtlonbgdonffcbaaGreatDoor
open Go Go.cU Go.Proofs
set_option linter.unusedSimpArgs false
set_option linter.unusedVariables false
def doPrint (s:bk) (q:Nat) (i:Instr) (did:eA):bk×eA:=({ s.cn q (s.core q) with bg:=s.bg++[cF.mk did.core ((s.core q).de i.a.toNat)] },{ did with kind:=6,word:=(s.core q).de i.a.toNat })
set_option maxHeartbeats 4000000 in
theorem xg {o:Obj} {s:bk} {L:Lay} {H:Hp} {nx:Nat} (h:fh o s L H nx) {q:Nat} (hq:q<s.bd.length) {d:Nat} {did:eA} (hd:jT L H nx d did) (i:Instr) (hA:0≤i.a∧i.a<16) (hpl:(s.bg.length+1) * 16≤140737488355328):
 bw Tryz.prog 84 [fM s L q d i] H nx (gM o L H nx d (doPrint s q i did).1 (doPrint s q i did).2):=by
 refine aO FY rfl ?_
 obtain⟨dm,hm⟩:=h.m
 obtain⟨dc,hc⟩:=h.c
 obtain⟨dmem,hmem⟩:=h.mem
 obtain⟨dpr,hpr⟩:=h.pr
 obtain⟨db,hb⟩:=h.cZ q hq
 obtain⟨dd,hdr⟩:=hd.row
 obtain⟨a1,a2,a3,a4,a5,a6,a7,a8,a9,a10⟩:=h.apart hq
 obtain⟨l1,l2,l3,l4,l5⟩:=h.pE hq
 obtain⟨d1,d2,d3,d4,d5⟩:=Lay.out hd.out (q:=q) (by rw[h.lens];exact hq)
 have hdl:=hd.lt
 have hel:=dG h
 have hei:=eM h hq
 rw[ef] at hdr
 repeat' (first|((with_reducible refine aF ?_);conv=>whnf)|refine aG ?_|exact aC|with_reducible refine aD ?_ ?_|(apply aA;(·(first|exact hei _|exact gU _ _ _ hA|exact bz)))|refine aH ?_|((with_reducible refine aB ?_ ?_)<;>intro hc<;>(try simp only[List.length_map,ne_eq,dL] at hc)<;>try(exfalso;omega)))
 refine⟨⟨(by first|omega|(simp only[List.length_cons,List.length_nil];omega)),⟨_,h.next (q:=q) hq (s.core q) (L.cZ.getD q 0) (s.mem) (s.bg++[cF.mk did.core ((s.core q).de i.a.toNat)]) (by first|omega|(simp only[List.length_cons,List.length_nil];omega)) (by first|exact .inl rfl|(right;omega)) ⟨_,_,bn,(by simp)⟩ ⟨_,_,bn,(nu h hq).symm⟩ ⟨_,_,bn,rfl⟩ ⟨_,_,bn,(by rw[List.map_append];rfl)⟩ ⟨_,_,bn,rfl⟩ (by intro j hj hne hlt n1 n2 n3 n4 n5;have x5:=(Lay.out hd.out (q:=j) (by rw[h.lens];exact hj)).2.2.2.2;repeat(first|exact rfl|(exact hfr _ (by omega) (by omega))|(refine Eq.trans (bh (by first|omega|(simp only[List.length_cons,List.length_nil];omega))) ?_)))⟩,⟨_,bn⟩,(by intro b' hb' hout hne;obtain⟨o1,o2,o3,o4,o5⟩:=Lay.out hout (q:=q) (by rw[h.lens];exact hq);repeat(first|exact rfl|(exact hfr _ (by omega) (by omega))|(refine Eq.trans (bh (by first|omega|(simp only[List.length_cons,List.length_nil];omega))) ?_)))⟩⟩
def lL (s:bk) (q:Nat) (i:Instr) (did:eA):bk×eA:=(s.cn q { s.core q with buf:=(s.core q).buf++[dA.mk did.pc i.addr ((s.core q).de i.a.toNat)] },{ did with kind:=3,addr:=i.addr,word:=(s.core q).de i.a.toNat })
set_option maxHeartbeats 4000000 in
theorem yG {o:Obj} {s:bk} {L:Lay} {H:Hp} {nx:Nat} (h:fh o s L H nx) {q:Nat} (hq:q<s.bd.length) {d:Nat} {did:eA} (hd:jT L H nx d did) (i:Instr) (hA:0≤i.a∧i.a<16) (hbl:(s.bd.getD q default).buf.length<1000):
 bw Tryz.prog 81 [fM s L q d i] H nx (gM o L H nx d (lL s q i did).1 (lL s q i did).2):=by
 refine aO FV rfl ?_
 obtain⟨dm,hm⟩:=h.m
 obtain⟨dc,hc⟩:=h.c
 obtain⟨dmem,hmem⟩:=h.mem
 obtain⟨dpr,hpr⟩:=h.pr
 obtain⟨db,hb⟩:=h.cZ q hq
 obtain⟨dd,hdr⟩:=hd.row
 obtain⟨a1,a2,a3,a4,a5,a6,a7,a8,a9,a10⟩:=h.apart hq
 obtain⟨l1,l2,l3,l4,l5⟩:=h.pE hq
 obtain⟨d1,d2,d3,d4,d5⟩:=Lay.out hd.out (q:=q) (by rw[h.lens];exact hq)
 have hdl:=hd.lt
 have hel:=dG h
 have hei:=eM h hq
 rw[ef] at hdr
 repeat' (first|((with_reducible refine aF ?_);conv=>whnf)|refine aG ?_|exact aC|with_reducible refine aD ?_ ?_|(apply aA;(·(first|exact hei _|exact gU _ _ _ hA|exact bz)))|refine aH ?_|((with_reducible refine aB ?_ ?_)<;>intro hc<;>(try simp only[List.length_map,ne_eq,dL] at hc)<;>try(exfalso;omega)))
 refine⟨⟨(by first|omega|(simp only[List.length_cons,List.length_nil];omega)),⟨_,h.next (q:=q) hq ({ s.core q with buf:=(s.core q).buf++[dA.mk did.pc i.addr ((s.core q).de i.a.toNat)] }) (L.cZ.getD q 0) (s.mem) (s.bg) (by first|omega|(simp only[List.length_cons,List.length_nil];omega)) (by first|exact .inl rfl|(right;omega)) ⟨_,_,bn,rfl⟩ ⟨_,_,bn,(by simp only[bx.av,List.length_append];rfl)⟩ ⟨_,_,bn,rfl⟩ ⟨_,_,bn,rfl⟩ ⟨_,_,bn,(by rw[List.map_append];rfl)⟩ (by intro j hj hne hlt n1 n2 n3 n4 n5;have x5:=(Lay.out hd.out (q:=j) (by rw[h.lens];exact hj)).2.2.2.2;repeat(first|exact rfl|(exact hfr _ (by omega) (by omega))|(refine Eq.trans (bh (by first|omega|(simp only[List.length_cons,List.length_nil];omega))) ?_)))⟩,⟨_,bn⟩,(by intro b' hb' hout hne;obtain⟨o1,o2,o3,o4,o5⟩:=Lay.out hout (q:=q) (by rw[h.lens];exact hq);repeat(first|exact rfl|(exact hfr _ (by omega) (by omega))|(refine Eq.trans (bh (by first|omega|(simp only[List.length_cons,List.length_nil];omega))) ?_)))⟩⟩
def nX (s:bk) (q:Nat) (i:Instr) (did:eA):bk×eA:=({ s.cn q ((s.core q).put i.d (s.mem.getD i.addr.toNat 0)) with mem:=s.mem.set i.addr.toNat ((s.core q).de i.d.toNat) },{ did with kind:=4,addr:=i.addr,word:=s.mem.getD i.addr.toNat 0,put:=(s.core q).de i.d.toNat })
set_option maxHeartbeats 4000000 in
theorem BX {o:Obj} {s:bk} {L:Lay} {H:Hp} {nx:Nat} (h:fh o s L H nx) {q:Nat} (hq:q<s.bd.length) {d:Nat} {did:eA} (hd:jT L H nx d did) (i:Instr) (hD:0≤i.d∧i.d<16) (hM:0≤i.addr∧i.addr<s.mem.length):
 bw Tryz.prog 82 [fM s L q d i] H nx (gM o L H nx d (nX s q i did).1 (nX s q i did).2):=by
 refine aO FW rfl ?_
 obtain⟨dm,hm⟩:=h.m
 obtain⟨dc,hc⟩:=h.c
 obtain⟨dmem,hmem⟩:=h.mem
 obtain⟨dpr,hpr⟩:=h.pr
 obtain⟨db,hb⟩:=h.cZ q hq
 obtain⟨dd,hdr⟩:=hd.row
 obtain⟨a1,a2,a3,a4,a5,a6,a7,a8,a9,a10⟩:=h.apart hq
 obtain⟨l1,l2,l3,l4,l5⟩:=h.pE hq
 obtain⟨d1,d2,d3,d4,d5⟩:=Lay.out hd.out (q:=q) (by rw[h.lens];exact hq)
 have hdl:=hd.lt
 have hel:=dG h
 have hei:=eM h hq
 rw[ef] at hdr
 repeat' (first|((with_reducible refine aF ?_);conv=>whnf)|refine aG ?_|exact aC|with_reducible refine aD ?_ ?_|(apply aA;(·(first|exact hei _|exact gU _ _ _ hD|exact bz)))|refine aH ?_|((with_reducible refine aB ?_ ?_)<;>intro hc<;>(try simp only[List.length_map,ne_eq,dL] at hc)<;>try(exfalso;omega)))
 refine⟨⟨(by first|omega|(simp only[List.length_cons,List.length_nil];omega)),⟨_,h.next (q:=q) hq ((s.core q).put i.d (s.mem.getD i.addr.toNat 0)) (L.cZ.getD q 0) (s.mem.set i.addr.toNat ((s.core q).de i.d.toNat)) (s.bg) (by first|omega|(simp only[List.length_cons,List.length_nil];omega)) (by first|exact .inl rfl|(right;omega)) ⟨_,_,bn,(by simp)⟩ ⟨_,_,bn,(by rw[bx.av,←jb _ _ _ _ hD];rfl)⟩ ⟨_,_,bn,(by simp[List.map_set])⟩ ⟨_,_,bn,rfl⟩ ⟨_,_,bn,rfl⟩ (by intro j hj hne hlt n1 n2 n3 n4 n5;have x5:=(Lay.out hd.out (q:=j) (by rw[h.lens];exact hj)).2.2.2.2;repeat(first|exact rfl|(exact hfr _ (by omega) (by omega))|(refine Eq.trans (bh (by first|omega|(simp only[List.length_cons,List.length_nil];omega))) ?_)))⟩,⟨_,bn⟩,(by intro b' hb' hout hne;obtain⟨o1,o2,o3,o4,o5⟩:=Lay.out hout (q:=q) (by rw[h.lens];exact hq);repeat(first|exact rfl|(exact hfr _ (by omega) (by omega))|(refine Eq.trans (bh (by first|omega|(simp only[List.length_cons,List.length_nil];omega))) ?_)))⟩⟩
end Go.Proofs.YtlonbgdonffcbaaGreatDoor
/- What a load does. -/
namespace Go.Proofs.YtlonbgdonffcbaaGreatDoor
open Go Go.cU Go.Proofs
set_option linter.unusedSimpArgs false
set_option linter.unusedVariables false
def kR (a:Int):List dA→Int×Bool→Int×Bool
 |[],r=>r
 |x::t,r=>kR a t (if x.addr=a then(x.word,true) else r)
def ll (s:bk) (q:Nat) (i:Instr) (did:eA):bk×eA:=
 let r:=kR i.addr (s.core q).buf (s.mem.getD i.addr.toNat 0,did.own)
 (s.cn q ((s.core q).put i.d r.1),{ did with kind:=2,addr:=i.addr,word:=r.1,own:=r.2 })
set_option maxHeartbeats 4000000 in
theorem A0 {o:Obj} {s:bk} {L:Lay} {H:Hp} {nx:Nat} (h:fh o s L H nx) {q:Nat} (hq:q<s.bd.length) {d:Nat} {did:eA} (hd:jT L H nx d did) (i:Instr) (hD:0≤i.d∧i.d<16) (hM:0≤i.addr∧i.addr<s.mem.length) (hbl:(s.bd.getD q default).buf.length<1000):
 bw Tryz.prog 80 [fM s L q d i] H nx (gM o L H nx d (ll s q i did).1 (ll s q i did).2):=by
 refine aO FU rfl ?_
 obtain⟨dm,hm⟩:=h.m
 obtain⟨dc,hc⟩:=h.c
 obtain⟨dmem,hmem⟩:=h.mem
 obtain⟨dpr,hpr⟩:=h.pr
 obtain⟨db,hb⟩:=h.cZ q hq
 obtain⟨dd,hdr⟩:=hd.row
 obtain⟨a1,a2,a3,a4,a5,a6,a7,a8,a9,a10⟩:=h.apart hq
 obtain⟨l1,l2,l3,l4,l5⟩:=h.pE hq
 obtain⟨d1,d2,d3,d4,d5⟩:=Lay.out hd.out (q:=q) (by rw[h.lens];exact hq)
 have hdl:=hd.lt
 have hel:=dG h
 have hei:=eM h hq
 rw[ef] at hdr
 repeat' (first|((with_reducible refine aF ?_);conv=>whnf)|refine aG ?_|exact aC|with_reducible refine aD ?_ ?_|(apply aA;(·(first|exact hei _|exact gU _ _ _ hD|exact bz)))|refine aH ?_|((with_reducible refine aB ?_ ?_)<;>intro hc<;>(try simp only[List.length_map,ne_eq,dL] at hc)<;>try(exfalso;omega)))
 refine aR (fun k:Nat=>[(1, .pt nx 1 0 0),(33, .sl (L.cZ.getD q 0) (s.bd.getD q default).buf.length),(34,i64 (s.bd.getD q default).buf.length),(35,i64 k)]) (fun k H' n=>k≤(s.bd.getD q default).buf.length∧nx+1≤n∧bf H' nx=some (.row 120 12 .any [fM s L q d i])∧(∃w own,bf H' d=some (ef { did with kind:=2,addr:=i.addr,word:=w,own:=own } dd)∧kR i.addr (s.bd.getD q default).buf (s.mem.getD i.addr.toNat 0,did.own)=kR i.addr ((s.bd.getD q default).buf.drop k) (w,own))∧∀b,b<nx→b≠d→bf H' b=bf H b) (fun k=>(s.bd.getD q default).buf.length - k) 0 cG ⟨Nat.zero_le _,by first|omega|(simp only[List.length_cons,List.length_nil];omega),bn,⟨_,_,bn,rfl⟩,(by intro b' hb' hne;repeat(first|exact rfl|(refine Eq.trans (bh (by omega)) ?_)))⟩ ?_
 rintro k H' n ⟨hk,hn,hx,⟨w,own,hdr2,hs⟩,hfr⟩
 rw[ef] at hdr2
 have hm2:=(hfr _ l1 (Ne.symm d1)).trans hm
 have hc2:=(hfr _ l2 (Ne.symm d2)).trans hc
 have hb2:=(hfr _ l5 (Ne.symm d5)).trans hb
 have hmem2:=(hfr _ l3 (Ne.symm d3)).trans hmem
 have hpr2:=(hfr _ l4 (Ne.symm d4)).trans hpr
 clear hm hc hb hdr hmem hpr
 repeat' (first|((with_reducible refine aF ?_);conv=>whnf)|refine aG ?_|exact aC|with_reducible refine aD ?_ ?_|(apply aA;(·(first|exact hei _|exact gU _ _ _ hD|exact bz)))|refine aH ?_|((with_reducible refine aB ?_ ?_)<;>intro hc<;>(try simp only[List.length_map,ne_eq,dL] at hc)<;>try(exfalso;omega)))
 ·refine⟨k+1,by omega,cG,by omega,by omega,bn,⟨((s.bd.getD q default).buf.getD k default).word,true,bn, ?_⟩,(by intro b' hb' hne;repeat(first|exact hfr _ hb' hne|(refine Eq.trans (bh (by omega)) ?_)))⟩
  rw[hs,drop_cons (by omega),kR,if_pos (by first|assumption|simpa using(by assumption))]
 ·refine⟨k+1,by omega,cG,by omega,by omega,bn,⟨w,own,bn, ?_⟩,(by intro b' hb' hne;repeat(first|exact hfr _ hb' hne|(refine Eq.trans (bh (by omega)) ?_)))⟩
  rw[hs,drop_cons (by omega),kR,if_neg (by assumption)]
 ·have he:kR i.addr (s.core q).buf (s.mem.getD i.addr.toNat 0,did.own)=(w,own):=by
   show kR i.addr (s.bd.getD q default).buf _=_
   rw[hs,List.drop_eq_nil_of_le (by omega),kR]
  simp only[ll,he]
  refine⟨⟨(by first|omega|(simp only[List.length_cons,List.length_nil];omega)),⟨_,h.next (q:=q) hq ((s.core q).put i.d w) (L.cZ.getD q 0) (s.mem) (s.bg) (by first|omega|(simp only[List.length_cons,List.length_nil];omega)) (by first|exact .inl rfl|(right;omega)) ⟨_,_,bn,rfl⟩ ⟨_,_,bn,(by rw[bx.av,←jb _ _ _ _ hD];rfl)⟩ ⟨_,_,bn,rfl⟩ ⟨_,_,bn,rfl⟩ ⟨_,_,bn,rfl⟩ (by intro j hj hne hlt n1 n2 n3 n4 n5;have x5:=(Lay.out hd.out (q:=j) (by rw[h.lens];exact hj)).2.2.2.2;repeat(first|exact rfl|(exact hfr _ (by omega) (by omega))|(refine Eq.trans (bh (by first|omega|(simp only[List.length_cons,List.length_nil];omega))) ?_)))⟩,⟨_,bn⟩,(by intro b' hb' hout hne;obtain⟨o1,o2,o3,o4,o5⟩:=Lay.out hout (q:=q) (by rw[h.lens];exact hq);repeat(first|exact rfl|(exact hfr _ (by omega) (by omega))|(refine Eq.trans (bh (by first|omega|(simp only[List.length_cons,List.length_nil];omega))) ?_)))⟩⟩
end Go.Proofs.YtlonbgdonffcbaaGreatDoor
end
