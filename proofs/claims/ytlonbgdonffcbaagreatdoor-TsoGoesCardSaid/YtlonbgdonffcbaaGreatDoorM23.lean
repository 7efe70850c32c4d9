import Derived.Test.YtlonbgdonffcbaaGreatDoorM22
section
/- A machine at its place. -/
namespace Go.Proofs.YtlonbgdonffcbaaGreatDoor
open Go Go.cY Go.Proofs
set_option linter.unusedSimpArgs false
structure cx where
 pc:Int
 addr:Int
 word:Int
 deriving Inhabited,DecidableEq
abbrev cx.av (s:cx):AV:= .agg [i64 s.pc,i64 s.addr,i64 s.word]
structure bx where
 pc:Int
 halted:Bool
 di:Nat→Int
 buf:List cx
 deriving Inhabited
def bx.cells (c:bx) (v:AV):List AV:=[i64 c.pc,bl c.halted,i64 (c.di 0),i64 (c.di 1),i64 (c.di 2),i64 (c.di 3),i64 (c.di 4),i64 (c.di 5),i64 (c.di 6),i64 (c.di 7),i64 (c.di 8),i64 (c.di 9),i64 (c.di 10),i64 (c.di 11),i64 (c.di 12),i64 (c.di 13),i64 (c.di 14),i64 (c.di 15),v]
abbrev bx.av (c:bx) (b:Nat):AV:= .agg (c.cells (.sl b c.buf.length))
def mR (f:Nat→Int) (k:Int) (w:Int):Nat→Int:=fun j=>if j=k.toNat then w else f j
def bx.put (c:bx) (k:Int) (w:Int):bx:={ c with di:=mR c.di k w }
structure eF where
 kind:Int
 core:Int
 pc:Int
 addr:Int
 word:Int
 put:Int
 own:Bool
 deriving Inhabited,DecidableEq
abbrev eF.av (d:eF):AV:= .agg [u8 d.kind,i64 d.core,i64 d.pc,i64 d.addr,i64 d.word,i64 d.put,bl d.own]
structure cH where
 cn:Int
 word:Int
 deriving Inhabited,DecidableEq
abbrev cH.av (p:cH):AV:= .agg [i64 p.cn,i64 p.word]
structure bk where
 bg:List bx
 mem:List Int
 bh:List cH
 deriving Inhabited
structure Lay where
 m:Nat
 c:Nat
 mem:Nat
 pr:Nat
 c9:List Nat
def Lay.ids (L:Lay):List Nat:=L.m::L.c::L.mem::L.pr::L.c9
abbrev kG (o:Obj) (s:bk) (L:Lay):AV:= .agg [.sc (.slice none 0 0),i64 o.shared,i64 o.iG,i64 o.buffer, .im 2 .any (o.bg.map Core.av), .sl L.c s.bg.length, .sl L.mem s.mem.length, .sl L.pr s.bh.length]
def rows (s:bk) (L:Lay):List AV:=List.zipWith bx.av s.bg L.c9
structure fS (o:Obj) (s:bk) (L:Lay) (H:Hp) (nx:Nat):Prop where
 m:∃d,bf H L.m=some (.row 77 8 d [kG o s L])
 c:∃d,bf H L.c=some (.row 93 19 d (rows s L))
 mem:∃d,bf H L.mem=some (.row 2 1 d (s.mem.map i64))
 pr:∃d,bf H L.pr=some (.row 68 2 d (s.bh.map cH.av))
 c9:∀i,i<s.bg.length→∃d,bf H (L.c9.getD i 0)=some (.row 125 3 d ((s.bg.getD i default).buf.map cx.av))
 lens:L.c9.length=s.bg.length
 lt:∀b∈L.ids,b<nx
 nodup:L.ids.Nodup
structure lp (L L':Lay) (nx:Nat):Prop where
 m:L'.m=L.m
 ids:∀b∈L'.ids,b∈L.ids∨nx≤b
theorem lp.refl (L:Lay) (nx:Nat):lp L L nx:=⟨rfl,fun _ h=> .inl h⟩
theorem lp.trans {L L' L'':Lay} {n n':Nat} (h:lp L L' n) (h':lp L' L'' n') (hn:n≤n'):lp L L'' n:=by
 refine⟨h'.m.trans h.m,fun b hb=> ?_⟩
 rcases h'.ids b hb with h1|h1
 ·exact h.ids b h1
 ·exact .inr (by omega)
structure OC (L:Lay) (q:Nat):Prop where
 mc:L.m≠L.c
 Q2:L.m≠L.mem
 mpr:L.m≠L.pr
 QW:L.c≠L.mem
 Q5:L.c≠L.pr
 QN:L.mem≠L.pr
 mb:L.m≠L.c9.getD q 0
 cb:L.c≠L.c9.getD q 0
 QD:L.mem≠L.c9.getD q 0
 Q3:L.pr≠L.c9.getD q 0
theorem Lay.kI {L:Lay} {q:Nat} (h:q<L.c9.length):L.c9.getD q 0∈L.c9:=by
 have:L.c9.getD q 0=L.c9[q]:=by simp[List.getD,h]
 rw[this];exact List.getElem_mem h
theorem fS.apart {o:Obj} {s:bk} {L:Lay} {H:Hp} {nx:Nat} (h:fS o s L H nx) {q:Nat} (hq:q<s.bg.length):OC L q:=by
 have hb:=Lay.kI (L:=L) (q:=q) (by rw[h.lens];exact hq)
 have hn:=h.nodup
 simp only[Lay.ids,List.nodup_cons,List.mem_cons,not_or] at hn
 obtain⟨⟨h1,h2,h3,h4⟩,⟨h5,h6,h7⟩,⟨h8,h9⟩,h10,h11⟩:=hn
 exact⟨h1,h2,h3,h5,h6,h8,fun h=>h4 (h▸hb),fun h=>h7 (h▸hb),fun h=>h9 (h▸hb),fun h=>h10 (h▸hb)⟩
theorem fS.other {o:Obj} {s:bk} {L:Lay} {H:Hp} {nx:Nat} (h:fS o s L H nx) {q j:Nat} (hq:q<s.bg.length) (hj:j<s.bg.length) (hne:j≠q):L.c9.getD j 0≠L.c9.getD q 0:=by
 have hn:=h.nodup
 simp only[Lay.ids,List.nodup_cons] at hn
 have hb:L.c9.Nodup:=hn.2.2.2.2
 have e1:L.c9.getD j 0=L.c9[j]'(by rw[h.lens];exact hj):=by simp[List.getD,h.lens,hj]
 have e2:L.c9.getD q 0=L.c9[q]'(by rw[h.lens];exact hq):=by simp[List.getD,h.lens,hq]
 rw[e1,e2]
 have hp:=List.pairwise_iff_getElem.1 hb
 rcases Nat.lt_or_gt_of_ne hne with h1|h1
 ·exact hp _ _ _ _ h1
 ·exact(hp _ _ _ _ h1).symm
structure QU (L:Lay) (q nx:Nat):Prop where
 m:L.m<nx
 c:L.c<nx
 mem:L.mem<nx
 pr:L.pr<nx
 b:L.c9.getD q 0<nx
theorem fS.pd {o:Obj} {s:bk} {L:Lay} {H:Hp} {nx:Nat} (h:fS o s L H nx) {q:Nat} (hq:q<s.bg.length):QU L q nx:=by
 have hb:=Lay.kI (L:=L) (q:=q) (by rw[h.lens];exact hq)
 constructor<;>refine h.lt _ ?_<;>simp[Lay.ids]
 exact .inr (.inr (.inr (.inr (by simpa using hb))))
@[simp] theorem dK {o:Obj} {s:bk} {L:Lay} {H:Hp} {nx:Nat} (h:fS o s L H nx):(rows s L).length=s.bg.length:=by
  simp[rows,h.lens]
theorem eQ {o:Obj} {s:bk} {L:Lay} {H:Hp} {nx:Nat} (h:fS o s L H nx) {q:Nat} (hq:q<s.bg.length) (d:AV):(rows s L).getD q d=(s.bg.getD q default).av (L.c9.getD q 0):=by
 have h2:q<L.c9.length:=by rw[h.lens];exact hq
 have h3:q<(rows s L).length:=by rw[dK h];exact hq
 rw[List.getD,List.getElem?_eq_getElem h3]
 simp[rows,List.getD,hq,h2]
theorem HV {s:bk} {L:Lay} {q:Nat} (c:bx) (b:Nat) (mem:List Int) (pr:List cH):rows ⟨s.bg.set q c,mem,pr⟩ { L with c9:=L.c9.set q b }=(rows s L).set q (c.av b):=by
 simp only[rows]
 apply List.ext_getElem
 ·simp
 ·intro i h1 h2
  simp only[List.getElem_zipWith,List.getElem_set]
  by_cases h:q=i<;>simp[h]
theorem B3 {l:List Nat} {q b:Nat} (h:l.Nodup) (hb:b∉l):(l.set q b).Nodup:=by
 refine List.pairwise_iff_getElem.2 fun i j hi hj hij=> ?_
 have hp:=List.pairwise_iff_getElem.1 h
 simp only[List.length_set] at hi hj
 simp only[List.getElem_set]
 by_cases e1:q=i
 ·rw[if_pos e1,if_neg (by omega)]
  intro he;exact hb (he▸List.getElem_mem hj)
 ·rw[if_neg e1]
  by_cases e2:q=j
  ·rw[if_pos e2]
   intro he;exact hb (he▸List.getElem_mem hi)
  ·rw[if_neg e2];exact hp _ _ _ _ hij
theorem fS.next {o:Obj} {s:bk} {L:Lay} {H H':Hp} {nx nx':Nat} (h:fS o s L H nx) {q:Nat} (hq:q<s.bg.length) (c:bx) (b:Nat) (mem:List Int) (pr:List cH)
 (hn:nx≤nx') (hb:b=L.c9.getD q 0∨(nx≤b∧b<nx'))
 (h1:∃d es,bf H' L.m=some (.row 77 8 d es)∧es=[.agg [.sc (.slice none 0 0),i64 o.shared,i64 o.iG,i64 o.buffer, .im 2 .any (o.bg.map Core.av), .sl L.c s.bg.length, .sl L.mem mem.length, .sl L.pr pr.length]])
 (h2:∃d es,bf H' L.c=some (.row 93 19 d es)∧es=(rows s L).set q (c.av b))
 (h3:∃d es,bf H' L.mem=some (.row 2 1 d es)∧es=mem.map i64)
 (h4:∃d es,bf H' L.pr=some (.row 68 2 d es)∧es=pr.map cH.av)
 (h5:∃d es,bf H' b=some (.row 125 3 d es)∧es=c.buf.map cx.av)
 (h6:∀j,j<s.bg.length→j≠q→L.c9.getD j 0<nx→L.c9.getD j 0≠L.m→L.c9.getD j 0≠L.c→L.c9.getD j 0≠L.mem→L.c9.getD j 0≠L.pr→L.c9.getD j 0≠L.c9.getD q 0→bf H' (L.c9.getD j 0)=bf H (L.c9.getD j 0)):
 fS o ⟨s.bg.set q c,mem,pr⟩ { L with c9:=L.c9.set q b } H' nx'∧lp L { L with c9:=L.c9.set q b } nx:=by
 have hqb:q<L.c9.length:=by rw[h.lens];exact hq
 obtain⟨e1,_,h1,rfl⟩:=h1
 obtain⟨e2,_,h2,rfl⟩:=h2
 obtain⟨e3,_,h3,rfl⟩:=h3
 obtain⟨e4,_,h4,rfl⟩:=h4
 obtain⟨e5,_,h5,rfl⟩:=h5
 refine⟨⟨⟨e1, ?_⟩,⟨e2, ?_⟩,⟨_,h3⟩,⟨_,h4⟩, ?_, ?_, ?_, ?_⟩,⟨rfl, ?_⟩⟩
 ·rw[h1];simp
 ·rw[HV];exact h2
 ·intro i hi
  simp only[List.length_set] at hi
  by_cases he:i=q
  ·subst he
   simp only[List.getD,List.getElem?_set_self hqb,List.getElem?_set_self hq,Option.getD_some]
   exact⟨_,h5⟩
  ·have e1:(L.c9.set q b).getD i 0=L.c9.getD i 0:=by simp[List.getD,List.getElem?_set_ne (Ne.symm he)]
   have e2:(s.bg.set q c).getD i default=s.bg.getD i default:=by simp[List.getD,List.getElem?_set_ne (Ne.symm he)]
   have ha:=h.apart hi
   simp only[e1,e2]
   rw[h6 i hi he (h.pd hi).b ha.mb.symm ha.cb.symm ha.QD.symm ha.Q3.symm (h.other hq hi he)]
   exact h.c9 i hi
 ·simp[h.lens]
 ·intro x hx
  simp only[Lay.ids,List.mem_cons] at hx
  rcases hx with rfl|rfl|rfl|rfl|hx
  ·have:=(h.pd hq).m;omega
  ·have:=(h.pd hq).c;omega
  ·have:=(h.pd hq).mem;omega
  ·have:=(h.pd hq).pr;omega
  ·rcases List.mem_or_eq_of_mem_set hx with hx|rfl
   ·have:=h.lt x (by simp[Lay.ids,hx]);omega
   ·rcases hb with rfl|hb
    ·have:=(h.pd hq).b;omega
    ·omega
 ·have hn:=h.nodup
  simp only[Lay.ids,List.nodup_cons,List.mem_cons,not_or] at hn ⊢
  obtain⟨⟨n1,n2,n3,n4⟩,⟨n5,n6,n7⟩,⟨n8,n9⟩,n10,n11⟩:=hn
  have hin:∀x,x∉L.c9→x<nx→x∉L.c9.set q b:=by
   intro x hx hlt hm
   rcases List.mem_or_eq_of_mem_set hm with h|rfl
   ·exact hx h
   ·rcases hb with rfl|hb
    ·exact hx (Lay.kI hqb)
    ·omega
  have hl:=h.pd hq
  refine⟨⟨n1,n2,n3,hin _ n4 hl.m⟩,⟨n5,n6,hin _ n7 hl.c⟩,⟨n8,hin _ n9 hl.mem⟩,hin _ n10 hl.pr, ?_⟩
  rcases hb with rfl|hb
  ·have:L.c9.set q (L.c9.getD q 0)=L.c9:=by
    have e:L.c9.getD q 0=L.c9[q]:=by simp[List.getD,hqb]
    rw[e,List.set_getElem_self]
   rw[this];exact n11
  ·exact B3 n11 fun hm=>by
    have:=h.lt b (by simp[Lay.ids,hm])
    omega
 ·intro x hx
  simp only[Lay.ids,List.mem_cons] at hx
  rcases hx with rfl|rfl|rfl|rfl|hx
  ·exact .inl (by simp[Lay.ids])
  ·exact .inl (by simp[Lay.ids])
  ·exact .inl (by simp[Lay.ids])
  ·exact .inl (by simp[Lay.ids])
  ·rcases List.mem_or_eq_of_mem_set hx with hx|rfl
   ·exact .inl (by simp[Lay.ids,hx])
   ·rcases hb with rfl|hb
    ·exact .inl (by simp only[Lay.ids,List.mem_cons];exact .inr (.inr (.inr (.inr (Lay.kI hqb)))))
    ·exact .inr hb.1
theorem oT {o:Obj} {s:bk} {L:Lay} {H:Hp} {nx:Nat} (h:fS o s L H nx) {q:Nat} (hq:q<s.bg.length):(rows s L).set q ((s.bg.getD q default).av (L.c9.getD q 0))=rows s L:=by
 have h3:q<(rows s L).length:=by rw[dK h];exact hq
 have h4:=eQ h hq .any
 rw[←h4]
 have:(rows s L).getD q .any=(rows s L)[q]:=by simp[List.getD,h3]
 rw[this,List.set_getElem_self]
end Go.Proofs.YtlonbgdonffcbaaGreatDoor
/- What a turn does. -/
namespace Go.Proofs.YtlonbgdonffcbaaGreatDoor
open Go Go.cY Go.Proofs
set_option linter.unusedSimpArgs false
set_option linter.unusedVariables false
theorem set_set {α:Type} (l:List α) (i:Nat) (v w:α):(l.set i v).set i w=l.set i w:=by simp
theorem gn (c:bx) (v:AV) (k:Int) (h:0≤k∧k<16):(c.cells v).getD (2+k.toNat * 1) .any=i64 (c.di k.toNat):=by
 have h2:k.toNat=0∨k.toNat=1∨k.toNat=2∨k.toNat=3∨k.toNat=4∨k.toNat=5∨k.toNat=6∨k.toNat=7∨k.toNat=8∨k.toNat=9∨k.toNat=10∨k.toNat=11∨k.toNat=12∨k.toNat=13∨k.toNat=14∨k.toNat=15:=by omega
 generalize k.toNat=j at h2 ⊢
 rcases h2 with rfl|rfl|rfl|rfl|rfl|rfl|rfl|rfl|rfl|rfl|rfl|rfl|rfl|rfl|rfl|rfl<;>rfl
theorem jm (c:bx) (v:AV) (k:Int) (w:Int) (h:0≤k∧k<16):(c.cells v).set (2+k.toNat * 1) (i64 w)=(c.put k w).cells v:=by
 have h2:k.toNat=0∨k.toNat=1∨k.toNat=2∨k.toNat=3∨k.toNat=4∨k.toNat=5∨k.toNat=6∨k.toNat=7∨k.toNat=8∨k.toNat=9∨k.toNat=10∨k.toNat=11∨k.toNat=12∨k.toNat=13∨k.toNat=14∨k.toNat=15:=by omega
 simp only[bx.cells,bx.put,mR]
 generalize k.toNat=j at h2 ⊢
 rcases h2 with rfl|rfl|rfl|rfl|rfl|rfl|rfl|rfl|rfl|rfl|rfl|rfl|rfl|rfl|rfl|rfl<;>rfl
abbrev ep (d:eF) (df:AV):eB:= .row 37 7 df [d.av]
abbrev fR (s:bk) (L:Lay) (q d:Nat) (i:Instr):AV:= .agg [.pt L.m 1 0 0, .pt L.c s.bg.length q 0,u8 i.kind,u8 i.op,i64 i.d,i64 i.a,i64 i.b,i64 i.addr,i64 i.to,i64 i.word,i64 i.fr, .pt d 1 0 0]
abbrev bk.core (s:bk) (q:Nat):bx:=s.bg.getD q default
def bk.cr (s:bk) (q:Nat) (c:bx):bk:={ s with bg:=s.bg.set q c }
def gX (o:Obj) (L:Lay) (H:Hp) (nx d:Nat) (s:bk) (did:eF):AV→Hp→Nat→Prop:=fun _ H' n=>
 nx≤n∧(∃L',fS o s L' H' n∧lp L L' nx)∧(∃df,bf H' d=some (ep did df))∧∀b,b<nx→b∉L.ids→b≠d→bf H' b=bf H b
structure j4 (L:Lay) (H:Hp) (nx d:Nat) (did:eF):Prop where
 lt:d<nx
 out:d∉L.ids
 row:∃df,bf H d=some (ep did df)
theorem Lay.out {L:Lay} {b:Nat} (h:b∉L.ids) {q:Nat} (hq:q<L.c9.length):b≠L.m∧b≠L.c∧b≠L.mem∧b≠L.pr∧b≠L.c9.getD q 0:=by
 simp only[Lay.ids,List.mem_cons,not_or] at h
 exact⟨h.1,h.2.1,h.2.2.1,h.2.2.2.1,fun he=>h.2.2.2.2 (he▸Lay.kI hq)⟩
def sQ (s:bk) (q:Nat) (i:Instr) (did:eF):bk×eF:=(s.cr q ((s.core q).put i.d i.word),{ did with kind:=1 })
theorem H8 {o:Obj} {s:bk} {L:Lay} {H:Hp} {nx:Nat} (h:fS o s L H nx) {q:Nat} (hq:q<s.bg.length) {d:Nat} {did:eF} (hd:j4 L H nx d did) (i:Instr) (hD:0≤i.d∧i.d<16):
 bz Tryz.prog 78 [fR s L q d i] H nx (gX o L H nx d (sQ s q i did).1 (sQ s q i did).2):=by
 refine aO GM rfl ?_
 obtain⟨dm,hm⟩:=h.m
 obtain⟨dc,hc⟩:=h.c
 obtain⟨dmem,hmem⟩:=h.mem
 obtain⟨dpr,hpr⟩:=h.pr
 obtain⟨db,hb⟩:=h.c9 q hq
 obtain⟨dd,hdr⟩:=hd.row
 obtain⟨a1,a2,a3,a4,a5,a6,a7,a8,a9,a10⟩:=h.apart hq
 obtain⟨l1,l2,l3,l4,l5⟩:=h.pd hq
 obtain⟨d1,d2,d3,d4,d5⟩:=Lay.out hd.out (q:=q) (by rw[h.lens];exact hq)
 have hdl:=hd.lt
 have hel:=dK h
 have hei:=eQ h hq
 rw[ep] at hdr
 repeat' (first|((with_reducible refine aF ?_);conv=>whnf)|refine aG ?_|exact aC|with_reducible refine aD ?_ ?_|(apply aA;(·(first|exact hei _|exact gn _ _ _ hD|exact cF)))|refine aH ?_|((with_reducible refine aB ?_ ?_)<;>intro hc<;>(try simp only[List.length_map,ne_eq,dW] at hc)<;>try(exfalso;omega)))
 refine⟨⟨(by first|omega|(simp only[List.length_cons,List.length_nil];omega)),⟨_,h.next (q:=q) hq ((s.core q).put i.d i.word) (L.c9.getD q 0) (s.mem) (s.bh) (by first|omega|(simp only[List.length_cons,List.length_nil];omega)) (by first|exact .inl rfl|(right;omega)) ⟨_,_,bo,rfl⟩ ⟨_,_,bo,(by rw[bx.av,←jm _ _ _ _ hD];rfl)⟩ ⟨_,_,bo,rfl⟩ ⟨_,_,bo,rfl⟩ ⟨_,_,bo,rfl⟩ (by intro j hj hne hlt n1 n2 n3 n4 n5;have x5:=(Lay.out hd.out (q:=j) (by rw[h.lens];exact hj)).2.2.2.2;repeat(first|exact rfl|(exact hfr _ (by omega) (by omega))|(refine Eq.trans (bj (by first|omega|(simp only[List.length_cons,List.length_nil];omega))) ?_)))⟩,⟨_,bo⟩,(by intro b' hb' hout hne;obtain⟨o1,o2,o3,o4,o5⟩:=Lay.out hout (q:=q) (by rw[h.lens];exact hq);repeat(first|exact rfl|(exact hfr _ (by omega) (by omega))|(refine Eq.trans (bj (by first|omega|(simp only[List.length_cons,List.length_nil];omega))) ?_)))⟩⟩
def LM (op a b:Int):Int:=if two op=true then KV op a b else J7 op a
def vB (s:bk) (q:Nat) (i:Instr) (did:eF):bk×eF:=(s.cr q ((s.core q).put i.d (LM i.op ((s.core q).di i.a.toNat) ((s.core q).di i.b.toNat))),{ did with kind:=1 })
theorem NF {o:Obj} {s:bk} {L:Lay} {H:Hp} {nx:Nat} (h:fS o s L H nx) {q:Nat} (hq:q<s.bg.length) {d:Nat} {did:eF} (hd:j4 L H nx d did) (i:Instr) (hD:0≤i.d∧i.d<16) (hA:0≤i.a∧i.a<16) (hB:0≤i.b∧i.b<16) (ht:two i.op=true):
 bz Tryz.prog 79 [fR s L q d i] H nx (gX o L H nx d (vB s q i did).1 (vB s q i did).2):=by
 refine aO BV rfl ?_
 obtain⟨dm,hm⟩:=h.m
 obtain⟨dc,hc⟩:=h.c
 obtain⟨dmem,hmem⟩:=h.mem
 obtain⟨dpr,hpr⟩:=h.pr
 obtain⟨db,hb⟩:=h.c9 q hq
 obtain⟨dd,hdr⟩:=hd.row
 obtain⟨a1,a2,a3,a4,a5,a6,a7,a8,a9,a10⟩:=h.apart hq
 obtain⟨l1,l2,l3,l4,l5⟩:=h.pd hq
 obtain⟨d1,d2,d3,d4,d5⟩:=Lay.out hd.out (q:=q) (by rw[h.lens];exact hq)
 have hdl:=hd.lt
 have hel:=dK h
 have hei:=eQ h hq
 rw[ep] at hdr
 repeat' (first|((with_reducible refine aF ?_);conv=>whnf)|refine aG ?_|exact aC|with_reducible refine aD ?_ ?_|(apply aA;(·(first|exact hei _|exact gn _ _ _ hD|exact gn _ _ _ hA|exact gn _ _ _ hB|exact cF)))|((with_reducible refine aN (tU _ _ _ ht) ?_ ?_);(·exact bn))|((with_reducible refine aM (fun _=>tU _ _ _ ht) ?_ ?_);(·exact bn))|((with_reducible refine aJ (tU _ _ _ ht) ?_ ?_);(·exact bn))|((with_reducible refine aL (fun _=>tU _ _ _ ht) ?_ ?_);(·exact bn))|refine aH ?_|((with_reducible refine aB ?_ ?_)<;>intro hc<;>(try simp only[List.length_map,ne_eq,dW] at hc)<;>try(exfalso;omega)))
 refine⟨⟨(by first|omega|(simp only[List.length_cons,List.length_nil];omega)),⟨_,h.next (q:=q) hq ((s.core q).put i.d (LM i.op ((s.core q).di i.a.toNat) ((s.core q).di i.b.toNat))) (L.c9.getD q 0) (s.mem) (s.bh) (by first|omega|(simp only[List.length_cons,List.length_nil];omega)) (by first|exact .inl rfl|(right;omega)) ⟨_,_,bo,rfl⟩ ⟨_,_,bo,(by rw[LM,if_pos ht,bx.av,←jm _ _ _ _ hD];rfl)⟩ ⟨_,_,bo,rfl⟩ ⟨_,_,bo,rfl⟩ ⟨_,_,bo,rfl⟩ (by intro j hj hne hlt n1 n2 n3 n4 n5;have x5:=(Lay.out hd.out (q:=j) (by rw[h.lens];exact hj)).2.2.2.2;repeat(first|exact rfl|(exact hfr _ (by omega) (by omega))|(refine Eq.trans (bj (by first|omega|(simp only[List.length_cons,List.length_nil];omega))) ?_)))⟩,⟨_,bo⟩,(by intro b' hb' hout hne;obtain⟨o1,o2,o3,o4,o5⟩:=Lay.out hout (q:=q) (by rw[h.lens];exact hq);repeat(first|exact rfl|(exact hfr _ (by omega) (by omega))|(refine Eq.trans (bj (by first|omega|(simp only[List.length_cons,List.length_nil];omega))) ?_)))⟩⟩
theorem ND {o:Obj} {s:bk} {L:Lay} {H:Hp} {nx:Nat} (h:fS o s L H nx) {q:Nat} (hq:q<s.bg.length) {d:Nat} {did:eF} (hd:j4 L H nx d did) (i:Instr) (hD:0≤i.d∧i.d<16) (hA:0≤i.a∧i.a<16) (hB:0≤i.b∧i.b<16) (ht:two i.op=false) (ho:i.op=17∨i.op=18):
 bz Tryz.prog 79 [fR s L q d i] H nx (gX o L H nx d (vB s q i did).1 (vB s q i did).2):=by
 refine aO BV rfl ?_
 obtain⟨dm,hm⟩:=h.m
 obtain⟨dc,hc⟩:=h.c
 obtain⟨dmem,hmem⟩:=h.mem
 obtain⟨dpr,hpr⟩:=h.pr
 obtain⟨db,hb⟩:=h.c9 q hq
 obtain⟨dd,hdr⟩:=hd.row
 obtain⟨a1,a2,a3,a4,a5,a6,a7,a8,a9,a10⟩:=h.apart hq
 obtain⟨l1,l2,l3,l4,l5⟩:=h.pd hq
 obtain⟨d1,d2,d3,d4,d5⟩:=Lay.out hd.out (q:=q) (by rw[h.lens];exact hq)
 have hdl:=hd.lt
 have hel:=dK h
 have hei:=eQ h hq
 rw[ep] at hdr
 repeat' (first|((with_reducible refine aF ?_);conv=>whnf)|refine aG ?_|exact aC|with_reducible refine aD ?_ ?_|(apply aA;(·(first|exact hei _|exact gn _ _ _ hD|exact gn _ _ _ hA|exact gn _ _ _ hB|exact cF)))|((with_reducible refine aN (tT _ _ _ ht) ?_ ?_);(·exact bn))|((with_reducible refine aM (fun _=>tT _ _ _ ht) ?_ ?_);(·exact bn))|((with_reducible refine aJ (tT _ _ _ ht) ?_ ?_);(·exact bn))|((with_reducible refine aL (fun _=>tT _ _ _ ht) ?_ ?_);(·exact bn))|((with_reducible refine aN (pQ _ _ ho) ?_ ?_);(·exact bn))|((with_reducible refine aM (fun _=>pQ _ _ ho) ?_ ?_);(·exact bn))|((with_reducible refine aJ (pQ _ _ ho) ?_ ?_);(·exact bn))|((with_reducible refine aL (fun _=>pQ _ _ ho) ?_ ?_);(·exact bn))|refine aH ?_|((with_reducible refine aB ?_ ?_)<;>intro hc<;>(try simp only[List.length_map,ne_eq,dW] at hc)<;>try(exfalso;omega)))
 refine⟨⟨(by first|omega|(simp only[List.length_cons,List.length_nil];omega)),⟨_,h.next (q:=q) hq ((s.core q).put i.d (LM i.op ((s.core q).di i.a.toNat) ((s.core q).di i.b.toNat))) (L.c9.getD q 0) (s.mem) (s.bh) (by first|omega|(simp only[List.length_cons,List.length_nil];omega)) (by first|exact .inl rfl|(right;omega)) ⟨_,_,bo,rfl⟩ ⟨_,_,bo,(by rw[LM,if_neg (by rw[ht];simp),bx.av,←jm _ _ _ _ hD];rfl)⟩ ⟨_,_,bo,rfl⟩ ⟨_,_,bo,rfl⟩ ⟨_,_,bo,rfl⟩ (by intro j hj hne hlt n1 n2 n3 n4 n5;have x5:=(Lay.out hd.out (q:=j) (by rw[h.lens];exact hj)).2.2.2.2;repeat(first|exact rfl|(exact hfr _ (by omega) (by omega))|(refine Eq.trans (bj (by first|omega|(simp only[List.length_cons,List.length_nil];omega))) ?_)))⟩,⟨_,bo⟩,(by intro b' hb' hout hne;obtain⟨o1,o2,o3,o4,o5⟩:=Lay.out hout (q:=q) (by rw[h.lens];exact hq);repeat(first|exact rfl|(exact hfr _ (by omega) (by omega))|(refine Eq.trans (bj (by first|omega|(simp only[List.length_cons,List.length_nil];omega))) ?_)))⟩⟩
def lQ (s:bk) (q:Nat) (i:Instr) (did:eF):bk×eF:=(s.cr q (s.core q),{ did with kind:=5 })
theorem x8 {o:Obj} {s:bk} {L:Lay} {H:Hp} {nx:Nat} (h:fS o s L H nx) {q:Nat} (hq:q<s.bg.length) {d:Nat} {did:eF} (hd:j4 L H nx d did) (i:Instr):
 bz Tryz.prog 83 [fR s L q d i] H nx (gX o L H nx d (lQ s q i did).1 (lQ s q i did).2):=by
 refine aO GQ rfl ?_
 obtain⟨dm,hm⟩:=h.m
 obtain⟨dc,hc⟩:=h.c
 obtain⟨dmem,hmem⟩:=h.mem
 obtain⟨dpr,hpr⟩:=h.pr
 obtain⟨db,hb⟩:=h.c9 q hq
 obtain⟨dd,hdr⟩:=hd.row
 obtain⟨a1,a2,a3,a4,a5,a6,a7,a8,a9,a10⟩:=h.apart hq
 obtain⟨l1,l2,l3,l4,l5⟩:=h.pd hq
 obtain⟨d1,d2,d3,d4,d5⟩:=Lay.out hd.out (q:=q) (by rw[h.lens];exact hq)
 have hdl:=hd.lt
 have hel:=dK h
 have hei:=eQ h hq
 rw[ep] at hdr
 repeat' (first|((with_reducible refine aF ?_);conv=>whnf)|refine aG ?_|exact aC|with_reducible refine aD ?_ ?_|(apply aA;(·(first|exact hei _|exact cF)))|refine aH ?_|((with_reducible refine aB ?_ ?_)<;>intro hc<;>(try simp only[List.length_map,ne_eq,dW] at hc)<;>try(exfalso;omega)))
 refine⟨⟨(by first|omega|(simp only[List.length_cons,List.length_nil];omega)),⟨_,h.next (q:=q) hq (s.core q) (L.c9.getD q 0) (s.mem) (s.bh) (by first|omega|(simp only[List.length_cons,List.length_nil];omega)) (by first|exact .inl rfl|(right;omega)) ⟨_,_,bo,rfl⟩ ⟨_,_,bo,(oT h hq).symm⟩ ⟨_,_,bo,rfl⟩ ⟨_,_,bo,rfl⟩ ⟨_,_,bo,rfl⟩ (by intro j hj hne hlt n1 n2 n3 n4 n5;have x5:=(Lay.out hd.out (q:=j) (by rw[h.lens];exact hj)).2.2.2.2;repeat(first|exact rfl|(exact hfr _ (by omega) (by omega))|(refine Eq.trans (bj (by first|omega|(simp only[List.length_cons,List.length_nil];omega))) ?_)))⟩,⟨_,bo⟩,(by intro b' hb' hout hne;obtain⟨o1,o2,o3,o4,o5⟩:=Lay.out hout (q:=q) (by rw[h.lens];exact hq);repeat(first|exact rfl|(exact hfr _ (by omega) (by omega))|(refine Eq.trans (bj (by first|omega|(simp only[List.length_cons,List.length_nil];omega))) ?_)))⟩⟩
def oA (s:bk) (q:Nat) (i:Instr) (did:eF):bk×eF:=(s.cr q { s.core q with pc:=i.to },{ did with kind:=1 })
theorem BI {o:Obj} {s:bk} {L:Lay} {H:Hp} {nx:Nat} (h:fS o s L H nx) {q:Nat} (hq:q<s.bg.length) {d:Nat} {did:eF} (hd:j4 L H nx d did) (i:Instr):
 bz Tryz.prog 85 [fR s L q d i] H nx (gX o L H nx d (oA s q i did).1 (oA s q i did).2):=by
 refine aO GS rfl ?_
 obtain⟨dm,hm⟩:=h.m
 obtain⟨dc,hc⟩:=h.c
 obtain⟨dmem,hmem⟩:=h.mem
 obtain⟨dpr,hpr⟩:=h.pr
 obtain⟨db,hb⟩:=h.c9 q hq
 obtain⟨dd,hdr⟩:=hd.row
 obtain⟨a1,a2,a3,a4,a5,a6,a7,a8,a9,a10⟩:=h.apart hq
 obtain⟨l1,l2,l3,l4,l5⟩:=h.pd hq
 obtain⟨d1,d2,d3,d4,d5⟩:=Lay.out hd.out (q:=q) (by rw[h.lens];exact hq)
 have hdl:=hd.lt
 have hel:=dK h
 have hei:=eQ h hq
 rw[ep] at hdr
 repeat' (first|((with_reducible refine aF ?_);conv=>whnf)|refine aG ?_|exact aC|with_reducible refine aD ?_ ?_|(apply aA;(·(first|exact hei _|exact cF)))|refine aH ?_|((with_reducible refine aB ?_ ?_)<;>intro hc<;>(try simp only[List.length_map,ne_eq,dW] at hc)<;>try(exfalso;omega)))
 refine⟨⟨(by first|omega|(simp only[List.length_cons,List.length_nil];omega)),⟨_,h.next (q:=q) hq ({ s.core q with pc:=i.to }) (L.c9.getD q 0) (s.mem) (s.bh) (by first|omega|(simp only[List.length_cons,List.length_nil];omega)) (by first|exact .inl rfl|(right;omega)) ⟨_,_,bo,rfl⟩ ⟨_,_,bo,rfl⟩ ⟨_,_,bo,rfl⟩ ⟨_,_,bo,rfl⟩ ⟨_,_,bo,rfl⟩ (by intro j hj hne hlt n1 n2 n3 n4 n5;have x5:=(Lay.out hd.out (q:=j) (by rw[h.lens];exact hj)).2.2.2.2;repeat(first|exact rfl|(exact hfr _ (by omega) (by omega))|(refine Eq.trans (bj (by first|omega|(simp only[List.length_cons,List.length_nil];omega))) ?_)))⟩,⟨_,bo⟩,(by intro b' hb' hout hne;obtain⟨o1,o2,o3,o4,o5⟩:=Lay.out hout (q:=q) (by rw[h.lens];exact hq);repeat(first|exact rfl|(exact hfr _ (by omega) (by omega))|(refine Eq.trans (bj (by first|omega|(simp only[List.length_cons,List.length_nil];omega))) ?_)))⟩⟩
def oC (s:bk) (q:Nat) (i:Instr) (did:eF):bk×eF:=(s.cr q (if(s.core q).di i.a.toNat=0 then { s.core q with pc:=i.to } else s.core q),{ did with kind:=1 })
theorem C2 {o:Obj} {s:bk} {L:Lay} {H:Hp} {nx:Nat} (h:fS o s L H nx) {q:Nat} (hq:q<s.bg.length) {d:Nat} {did:eF} (hd:j4 L H nx d did) (i:Instr) (hA:0≤i.a∧i.a<16):
 bz Tryz.prog 86 [fR s L q d i] H nx (gX o L H nx d (oC s q i did).1 (oC s q i did).2):=by
 refine aO GU rfl ?_
 obtain⟨dm,hm⟩:=h.m
 obtain⟨dc,hc⟩:=h.c
 obtain⟨dmem,hmem⟩:=h.mem
 obtain⟨dpr,hpr⟩:=h.pr
 obtain⟨db,hb⟩:=h.c9 q hq
 obtain⟨dd,hdr⟩:=hd.row
 obtain⟨a1,a2,a3,a4,a5,a6,a7,a8,a9,a10⟩:=h.apart hq
 obtain⟨l1,l2,l3,l4,l5⟩:=h.pd hq
 obtain⟨d1,d2,d3,d4,d5⟩:=Lay.out hd.out (q:=q) (by rw[h.lens];exact hq)
 have hdl:=hd.lt
 have hel:=dK h
 have hei:=eQ h hq
 rw[ep] at hdr
 repeat' (first|((with_reducible refine aF ?_);conv=>whnf)|refine aG ?_|exact aC|with_reducible refine aD ?_ ?_|(apply aA;(·(first|exact hei _|exact gn _ _ _ hA|exact cF)))|refine aH ?_|((with_reducible refine aB ?_ ?_)<;>intro hc<;>(try simp only[List.length_map,ne_eq,dW] at hc)<;>try(exfalso;omega)))
 ·refine⟨⟨(by first|omega|(simp only[List.length_cons,List.length_nil];omega)),⟨_,h.next (q:=q) hq (if(s.core q).di i.a.toNat=0 then { s.core q with pc:=i.to } else s.core q) (L.c9.getD q 0) (s.mem) (s.bh) (by first|omega|(simp only[List.length_cons,List.length_nil];omega)) (by first|exact .inl rfl|(right;omega)) ⟨_,_,bo,rfl⟩ ⟨_,_,bo,(by rw[if_pos (by assumption)];try rfl)⟩ ⟨_,_,bo,rfl⟩ ⟨_,_,bo,rfl⟩ ⟨_,_,bo,(by rw[if_pos (by assumption)];try rfl)⟩ (by intro j hj hne hlt n1 n2 n3 n4 n5;have x5:=(Lay.out hd.out (q:=j) (by rw[h.lens];exact hj)).2.2.2.2;repeat(first|exact rfl|(exact hfr _ (by omega) (by omega))|(refine Eq.trans (bj (by first|omega|(simp only[List.length_cons,List.length_nil];omega))) ?_)))⟩,⟨_,bo⟩,(by intro b' hb' hout hne;obtain⟨o1,o2,o3,o4,o5⟩:=Lay.out hout (q:=q) (by rw[h.lens];exact hq);repeat(first|exact rfl|(exact hfr _ (by omega) (by omega))|(refine Eq.trans (bj (by first|omega|(simp only[List.length_cons,List.length_nil];omega))) ?_)))⟩⟩
 ·refine⟨⟨(by first|omega|(simp only[List.length_cons,List.length_nil];omega)),⟨_,h.next (q:=q) hq (if(s.core q).di i.a.toNat=0 then { s.core q with pc:=i.to } else s.core q) (L.c9.getD q 0) (s.mem) (s.bh) (by first|omega|(simp only[List.length_cons,List.length_nil];omega)) (by first|exact .inl rfl|(right;omega)) ⟨_,_,bo,rfl⟩ ⟨_,_,bo,(by rw[if_neg (by assumption)];exact(oT h hq).symm)⟩ ⟨_,_,bo,rfl⟩ ⟨_,_,bo,rfl⟩ ⟨_,_,bo,(by rw[if_neg (by assumption)];try rfl)⟩ (by intro j hj hne hlt n1 n2 n3 n4 n5;have x5:=(Lay.out hd.out (q:=j) (by rw[h.lens];exact hj)).2.2.2.2;repeat(first|exact rfl|(exact hfr _ (by omega) (by omega))|(refine Eq.trans (bj (by first|omega|(simp only[List.length_cons,List.length_nil];omega))) ?_)))⟩,⟨_,bo⟩,(by intro b' hb' hout hne;obtain⟨o1,o2,o3,o4,o5⟩:=Lay.out hout (q:=q) (by rw[h.lens];exact hq);repeat(first|exact rfl|(exact hfr _ (by omega) (by omega))|(refine Eq.trans (bj (by first|omega|(simp only[List.length_cons,List.length_nil];omega))) ?_)))⟩⟩
def nz (s:bk) (q:Nat) (i:Instr) (did:eF):bk×eF:=(s.cr q { s.core q with pc:=did.pc,halted:=true },{ did with kind:=7 })
theorem BC {o:Obj} {s:bk} {L:Lay} {H:Hp} {nx:Nat} (h:fS o s L H nx) {q:Nat} (hq:q<s.bg.length) {d:Nat} {did:eF} (hd:j4 L H nx d did) (i:Instr):
 bz Tryz.prog 87 [fR s L q d i] H nx (gX o L H nx d (nz s q i did).1 (nz s q i did).2):=by
 refine aO GV rfl ?_
 obtain⟨dm,hm⟩:=h.m
 obtain⟨dc,hc⟩:=h.c
 obtain⟨dmem,hmem⟩:=h.mem
 obtain⟨dpr,hpr⟩:=h.pr
 obtain⟨db,hb⟩:=h.c9 q hq
 obtain⟨dd,hdr⟩:=hd.row
 obtain⟨a1,a2,a3,a4,a5,a6,a7,a8,a9,a10⟩:=h.apart hq
 obtain⟨l1,l2,l3,l4,l5⟩:=h.pd hq
 obtain⟨d1,d2,d3,d4,d5⟩:=Lay.out hd.out (q:=q) (by rw[h.lens];exact hq)
 have hdl:=hd.lt
 have hel:=dK h
 have hei:=eQ h hq
 rw[ep] at hdr
 repeat' (first|((with_reducible refine aF ?_);conv=>whnf)|refine aG ?_|exact aC|with_reducible refine aD ?_ ?_|(apply aA;(·(first|exact hei _|exact cF)))|refine aH ?_|((with_reducible refine aB ?_ ?_)<;>intro hc<;>(try simp only[List.length_map,ne_eq,dW] at hc)<;>try(exfalso;omega)))
 refine⟨⟨(by first|omega|(simp only[List.length_cons,List.length_nil];omega)),⟨_,h.next (q:=q) hq ({ s.core q with pc:=did.pc,halted:=true }) (L.c9.getD q 0) (s.mem) (s.bh) (by first|omega|(simp only[List.length_cons,List.length_nil];omega)) (by first|exact .inl rfl|(right;omega)) ⟨_,_,bo,rfl⟩ ⟨_,_,bo,(by simp only[set_set];rfl)⟩ ⟨_,_,bo,rfl⟩ ⟨_,_,bo,rfl⟩ ⟨_,_,bo,rfl⟩ (by intro j hj hne hlt n1 n2 n3 n4 n5;have x5:=(Lay.out hd.out (q:=j) (by rw[h.lens];exact hj)).2.2.2.2;repeat(first|exact rfl|(exact hfr _ (by omega) (by omega))|(refine Eq.trans (bj (by first|omega|(simp only[List.length_cons,List.length_nil];omega))) ?_)))⟩,⟨_,bo⟩,(by intro b' hb' hout hne;obtain⟨o1,o2,o3,o4,o5⟩:=Lay.out hout (q:=q) (by rw[h.lens];exact hq);repeat(first|exact rfl|(exact hfr _ (by omega) (by omega))|(refine Eq.trans (bj (by first|omega|(simp only[List.length_cons,List.length_nil];omega))) ?_)))⟩⟩
end Go.Proofs.YtlonbgdonffcbaaGreatDoor
/- What a turn does: the longer ones. -/
namespace Go.Proofs.YtlonbgdonffcbaaGreatDoor
open Go Go.cY Go.Proofs
set_option linter.unusedSimpArgs false
set_option linter.unusedVariables false
def doPrint (s:bk) (q:Nat) (i:Instr) (did:eF):bk×eF:=({ s.cr q (s.core q) with bh:=s.bh++[cH.mk did.core ((s.core q).di i.a.toNat)] },{ did with kind:=6,word:=(s.core q).di i.a.toNat })
set_option maxHeartbeats 4000000 in
theorem yR {o:Obj} {s:bk} {L:Lay} {H:Hp} {nx:Nat} (h:fS o s L H nx) {q:Nat} (hq:q<s.bg.length) {d:Nat} {did:eF} (hd:j4 L H nx d did) (i:Instr) (hA:0≤i.a∧i.a<16) (hpl:(s.bh.length+1) * 16≤140737488355328):
 bz Tryz.prog 84 [fR s L q d i] H nx (gX o L H nx d (doPrint s q i did).1 (doPrint s q i did).2):=by
 refine aO GR rfl ?_
 obtain⟨dm,hm⟩:=h.m
 obtain⟨dc,hc⟩:=h.c
 obtain⟨dmem,hmem⟩:=h.mem
 obtain⟨dpr,hpr⟩:=h.pr
 obtain⟨db,hb⟩:=h.c9 q hq
 obtain⟨dd,hdr⟩:=hd.row
 obtain⟨a1,a2,a3,a4,a5,a6,a7,a8,a9,a10⟩:=h.apart hq
 obtain⟨l1,l2,l3,l4,l5⟩:=h.pd hq
 obtain⟨d1,d2,d3,d4,d5⟩:=Lay.out hd.out (q:=q) (by rw[h.lens];exact hq)
 have hdl:=hd.lt
 have hel:=dK h
 have hei:=eQ h hq
 rw[ep] at hdr
 repeat' (first|((with_reducible refine aF ?_);conv=>whnf)|refine aG ?_|exact aC|with_reducible refine aD ?_ ?_|(apply aA;(·(first|exact hei _|exact gn _ _ _ hA|exact cF)))|refine aH ?_|((with_reducible refine aB ?_ ?_)<;>intro hc<;>(try simp only[List.length_map,ne_eq,dW] at hc)<;>try(exfalso;omega)))
 refine⟨⟨(by first|omega|(simp only[List.length_cons,List.length_nil];omega)),⟨_,h.next (q:=q) hq (s.core q) (L.c9.getD q 0) (s.mem) (s.bh++[cH.mk did.core ((s.core q).di i.a.toNat)]) (by first|omega|(simp only[List.length_cons,List.length_nil];omega)) (by first|exact .inl rfl|(right;omega)) ⟨_,_,bo,(by simp)⟩ ⟨_,_,bo,(oT h hq).symm⟩ ⟨_,_,bo,rfl⟩ ⟨_,_,bo,(by rw[List.map_append];rfl)⟩ ⟨_,_,bo,rfl⟩ (by intro j hj hne hlt n1 n2 n3 n4 n5;have x5:=(Lay.out hd.out (q:=j) (by rw[h.lens];exact hj)).2.2.2.2;repeat(first|exact rfl|(exact hfr _ (by omega) (by omega))|(refine Eq.trans (bj (by first|omega|(simp only[List.length_cons,List.length_nil];omega))) ?_)))⟩,⟨_,bo⟩,(by intro b' hb' hout hne;obtain⟨o1,o2,o3,o4,o5⟩:=Lay.out hout (q:=q) (by rw[h.lens];exact hq);repeat(first|exact rfl|(exact hfr _ (by omega) (by omega))|(refine Eq.trans (bj (by first|omega|(simp only[List.length_cons,List.length_nil];omega))) ?_)))⟩⟩
def lR (s:bk) (q:Nat) (i:Instr) (did:eF):bk×eF:=(s.cr q { s.core q with buf:=(s.core q).buf++[cx.mk did.pc i.addr ((s.core q).di i.a.toNat)] },{ did with kind:=3,addr:=i.addr,word:=(s.core q).di i.a.toNat })
set_option maxHeartbeats 4000000 in
theorem yf {o:Obj} {s:bk} {L:Lay} {H:Hp} {nx:Nat} (h:fS o s L H nx) {q:Nat} (hq:q<s.bg.length) {d:Nat} {did:eF} (hd:j4 L H nx d did) (i:Instr) (hA:0≤i.a∧i.a<16) (hbl:(s.bg.getD q default).buf.length<1000):
 bz Tryz.prog 81 [fR s L q d i] H nx (gX o L H nx d (lR s q i did).1 (lR s q i did).2):=by
 refine aO GO rfl ?_
 obtain⟨dm,hm⟩:=h.m
 obtain⟨dc,hc⟩:=h.c
 obtain⟨dmem,hmem⟩:=h.mem
 obtain⟨dpr,hpr⟩:=h.pr
 obtain⟨db,hb⟩:=h.c9 q hq
 obtain⟨dd,hdr⟩:=hd.row
 obtain⟨a1,a2,a3,a4,a5,a6,a7,a8,a9,a10⟩:=h.apart hq
 obtain⟨l1,l2,l3,l4,l5⟩:=h.pd hq
 obtain⟨d1,d2,d3,d4,d5⟩:=Lay.out hd.out (q:=q) (by rw[h.lens];exact hq)
 have hdl:=hd.lt
 have hel:=dK h
 have hei:=eQ h hq
 rw[ep] at hdr
 repeat' (first|((with_reducible refine aF ?_);conv=>whnf)|refine aG ?_|exact aC|with_reducible refine aD ?_ ?_|(apply aA;(·(first|exact hei _|exact gn _ _ _ hA|exact cF)))|refine aH ?_|((with_reducible refine aB ?_ ?_)<;>intro hc<;>(try simp only[List.length_map,ne_eq,dW] at hc)<;>try(exfalso;omega)))
 refine⟨⟨(by first|omega|(simp only[List.length_cons,List.length_nil];omega)),⟨_,h.next (q:=q) hq ({ s.core q with buf:=(s.core q).buf++[cx.mk did.pc i.addr ((s.core q).di i.a.toNat)] }) (L.c9.getD q 0) (s.mem) (s.bh) (by first|omega|(simp only[List.length_cons,List.length_nil];omega)) (by first|exact .inl rfl|(right;omega)) ⟨_,_,bo,rfl⟩ ⟨_,_,bo,(by simp only[bx.av,List.length_append];rfl)⟩ ⟨_,_,bo,rfl⟩ ⟨_,_,bo,rfl⟩ ⟨_,_,bo,(by rw[List.map_append];rfl)⟩ (by intro j hj hne hlt n1 n2 n3 n4 n5;have x5:=(Lay.out hd.out (q:=j) (by rw[h.lens];exact hj)).2.2.2.2;repeat(first|exact rfl|(exact hfr _ (by omega) (by omega))|(refine Eq.trans (bj (by first|omega|(simp only[List.length_cons,List.length_nil];omega))) ?_)))⟩,⟨_,bo⟩,(by intro b' hb' hout hne;obtain⟨o1,o2,o3,o4,o5⟩:=Lay.out hout (q:=q) (by rw[h.lens];exact hq);repeat(first|exact rfl|(exact hfr _ (by omega) (by omega))|(refine Eq.trans (bj (by first|omega|(simp only[List.length_cons,List.length_nil];omega))) ?_)))⟩⟩
def oB (s:bk) (q:Nat) (i:Instr) (did:eF):bk×eF:=({ s.cr q ((s.core q).put i.d (s.mem.getD i.addr.toNat 0)) with mem:=s.mem.set i.addr.toNat ((s.core q).di i.d.toNat) },{ did with kind:=4,addr:=i.addr,word:=s.mem.getD i.addr.toNat 0,put:=(s.core q).di i.d.toNat })
set_option maxHeartbeats 4000000 in
theorem CS {o:Obj} {s:bk} {L:Lay} {H:Hp} {nx:Nat} (h:fS o s L H nx) {q:Nat} (hq:q<s.bg.length) {d:Nat} {did:eF} (hd:j4 L H nx d did) (i:Instr) (hD:0≤i.d∧i.d<16) (hM:0≤i.addr∧i.addr<s.mem.length):
 bz Tryz.prog 82 [fR s L q d i] H nx (gX o L H nx d (oB s q i did).1 (oB s q i did).2):=by
 refine aO GP rfl ?_
 obtain⟨dm,hm⟩:=h.m
 obtain⟨dc,hc⟩:=h.c
 obtain⟨dmem,hmem⟩:=h.mem
 obtain⟨dpr,hpr⟩:=h.pr
 obtain⟨db,hb⟩:=h.c9 q hq
 obtain⟨dd,hdr⟩:=hd.row
 obtain⟨a1,a2,a3,a4,a5,a6,a7,a8,a9,a10⟩:=h.apart hq
 obtain⟨l1,l2,l3,l4,l5⟩:=h.pd hq
 obtain⟨d1,d2,d3,d4,d5⟩:=Lay.out hd.out (q:=q) (by rw[h.lens];exact hq)
 have hdl:=hd.lt
 have hel:=dK h
 have hei:=eQ h hq
 rw[ep] at hdr
 repeat' (first|((with_reducible refine aF ?_);conv=>whnf)|refine aG ?_|exact aC|with_reducible refine aD ?_ ?_|(apply aA;(·(first|exact hei _|exact gn _ _ _ hD|exact cF)))|refine aH ?_|((with_reducible refine aB ?_ ?_)<;>intro hc<;>(try simp only[List.length_map,ne_eq,dW] at hc)<;>try(exfalso;omega)))
 refine⟨⟨(by first|omega|(simp only[List.length_cons,List.length_nil];omega)),⟨_,h.next (q:=q) hq ((s.core q).put i.d (s.mem.getD i.addr.toNat 0)) (L.c9.getD q 0) (s.mem.set i.addr.toNat ((s.core q).di i.d.toNat)) (s.bh) (by first|omega|(simp only[List.length_cons,List.length_nil];omega)) (by first|exact .inl rfl|(right;omega)) ⟨_,_,bo,(by simp)⟩ ⟨_,_,bo,(by rw[bx.av,←jm _ _ _ _ hD];rfl)⟩ ⟨_,_,bo,(by simp[List.map_set])⟩ ⟨_,_,bo,rfl⟩ ⟨_,_,bo,rfl⟩ (by intro j hj hne hlt n1 n2 n3 n4 n5;have x5:=(Lay.out hd.out (q:=j) (by rw[h.lens];exact hj)).2.2.2.2;repeat(first|exact rfl|(exact hfr _ (by omega) (by omega))|(refine Eq.trans (bj (by first|omega|(simp only[List.length_cons,List.length_nil];omega))) ?_)))⟩,⟨_,bo⟩,(by intro b' hb' hout hne;obtain⟨o1,o2,o3,o4,o5⟩:=Lay.out hout (q:=q) (by rw[h.lens];exact hq);repeat(first|exact rfl|(exact hfr _ (by omega) (by omega))|(refine Eq.trans (bj (by first|omega|(simp only[List.length_cons,List.length_nil];omega))) ?_)))⟩⟩
end Go.Proofs.YtlonbgdonffcbaaGreatDoor
/- What a load does. -/
namespace Go.Proofs.YtlonbgdonffcbaaGreatDoor
open Go Go.cY Go.Proofs
set_option linter.unusedSimpArgs false
set_option linter.unusedVariables false
def jR (a:Int):List cx→Int×Bool→Int×Bool
 |[],r=>r
 |x::t,r=>jR a t (if x.addr=a then(x.word,true) else r)
def mJ (s:bk) (q:Nat) (i:Instr) (did:eF):bk×eF:=
 let r:=jR i.addr (s.core q).buf (s.mem.getD i.addr.toNat 0,did.own)
 (s.cr q ((s.core q).put i.d r.1),{ did with kind:=2,addr:=i.addr,word:=r.1,own:=r.2 })
set_option maxHeartbeats 4000000 in
theorem BW {o:Obj} {s:bk} {L:Lay} {H:Hp} {nx:Nat} (h:fS o s L H nx) {q:Nat} (hq:q<s.bg.length) {d:Nat} {did:eF} (hd:j4 L H nx d did) (i:Instr) (hD:0≤i.d∧i.d<16) (hM:0≤i.addr∧i.addr<s.mem.length) (hbl:(s.bg.getD q default).buf.length<1000):
 bz Tryz.prog 80 [fR s L q d i] H nx (gX o L H nx d (mJ s q i did).1 (mJ s q i did).2):=by
 refine aO GN rfl ?_
 obtain⟨dm,hm⟩:=h.m
 obtain⟨dc,hc⟩:=h.c
 obtain⟨dmem,hmem⟩:=h.mem
 obtain⟨dpr,hpr⟩:=h.pr
 obtain⟨db,hb⟩:=h.c9 q hq
 obtain⟨dd,hdr⟩:=hd.row
 obtain⟨a1,a2,a3,a4,a5,a6,a7,a8,a9,a10⟩:=h.apart hq
 obtain⟨l1,l2,l3,l4,l5⟩:=h.pd hq
 obtain⟨d1,d2,d3,d4,d5⟩:=Lay.out hd.out (q:=q) (by rw[h.lens];exact hq)
 have hdl:=hd.lt
 have hel:=dK h
 have hei:=eQ h hq
 rw[ep] at hdr
 repeat' (first|((with_reducible refine aF ?_);conv=>whnf)|refine aG ?_|exact aC|with_reducible refine aD ?_ ?_|(apply aA;(·(first|exact hei _|exact gn _ _ _ hD|exact cF)))|refine aH ?_|((with_reducible refine aB ?_ ?_)<;>intro hc<;>(try simp only[List.length_map,ne_eq,dW] at hc)<;>try(exfalso;omega)))
 refine aT (fun k:Nat=>[(1, .pt nx 1 0 0),(33, .sl (L.c9.getD q 0) (s.bg.getD q default).buf.length),(34,i64 (s.bg.getD q default).buf.length),(35,i64 k)]) (fun k H' n=>k≤(s.bg.getD q default).buf.length∧nx+1≤n∧bf H' nx=some (.row 120 12 .any [fR s L q d i])∧(∃w own,bf H' d=some (ep { did with kind:=2,addr:=i.addr,word:=w,own:=own } dd)∧jR i.addr (s.bg.getD q default).buf (s.mem.getD i.addr.toNat 0,did.own)=jR i.addr ((s.bg.getD q default).buf.drop k) (w,own))∧∀b,b<nx→b≠d→bf H' b=bf H b) (fun k=>(s.bg.getD q default).buf.length - k) 0 cG ⟨Nat.zero_le _,by first|omega|(simp only[List.length_cons,List.length_nil];omega),bo,⟨_,_,bo,rfl⟩,(by intro b' hb' hne;repeat(first|exact rfl|(refine Eq.trans (bj (by omega)) ?_)))⟩ ?_
 rintro k H' n ⟨hk,hn,hx,⟨w,own,hdr2,hs⟩,hfr⟩
 rw[ep] at hdr2
 have hm2:=(hfr _ l1 (Ne.symm d1)).trans hm
 have hc2:=(hfr _ l2 (Ne.symm d2)).trans hc
 have hb2:=(hfr _ l5 (Ne.symm d5)).trans hb
 have hmem2:=(hfr _ l3 (Ne.symm d3)).trans hmem
 have hpr2:=(hfr _ l4 (Ne.symm d4)).trans hpr
 clear hm hc hb hdr hmem hpr
 repeat' (first|((with_reducible refine aF ?_);conv=>whnf)|refine aG ?_|exact aC|with_reducible refine aD ?_ ?_|(apply aA;(·(first|exact hei _|exact gn _ _ _ hD|exact cF)))|refine aH ?_|((with_reducible refine aB ?_ ?_)<;>intro hc<;>(try simp only[List.length_map,ne_eq,dW] at hc)<;>try(exfalso;omega)))
 ·refine⟨k+1,by omega,cG,by omega,by omega,bo,⟨((s.bg.getD q default).buf.getD k default).word,true,bo, ?_⟩,(by intro b' hb' hne;repeat(first|exact hfr _ hb' hne|(refine Eq.trans (bj (by omega)) ?_)))⟩
  rw[hs,drop_cons (by omega),jR,if_pos (by first|assumption|simpa using(by assumption))]
 ·refine⟨k+1,by omega,cG,by omega,by omega,bo,⟨w,own,bo, ?_⟩,(by intro b' hb' hne;repeat(first|exact hfr _ hb' hne|(refine Eq.trans (bj (by omega)) ?_)))⟩
  rw[hs,drop_cons (by omega),jR,if_neg (by assumption)]
 ·have he:jR i.addr (s.core q).buf (s.mem.getD i.addr.toNat 0,did.own)=(w,own):=by
   show jR i.addr (s.bg.getD q default).buf _=_
   rw[hs,List.drop_eq_nil_of_le (by omega),jR]
  simp only[mJ,he]
  refine⟨⟨(by first|omega|(simp only[List.length_cons,List.length_nil];omega)),⟨_,h.next (q:=q) hq ((s.core q).put i.d w) (L.c9.getD q 0) (s.mem) (s.bh) (by first|omega|(simp only[List.length_cons,List.length_nil];omega)) (by first|exact .inl rfl|(right;omega)) ⟨_,_,bo,rfl⟩ ⟨_,_,bo,(by rw[bx.av,←jm _ _ _ _ hD];rfl)⟩ ⟨_,_,bo,rfl⟩ ⟨_,_,bo,rfl⟩ ⟨_,_,bo,rfl⟩ (by intro j hj hne hlt n1 n2 n3 n4 n5;have x5:=(Lay.out hd.out (q:=j) (by rw[h.lens];exact hj)).2.2.2.2;repeat(first|exact rfl|(exact hfr _ (by omega) (by omega))|(refine Eq.trans (bj (by first|omega|(simp only[List.length_cons,List.length_nil];omega))) ?_)))⟩,⟨_,bo⟩,(by intro b' hb' hout hne;obtain⟨o1,o2,o3,o4,o5⟩:=Lay.out hout (q:=q) (by rw[h.lens];exact hq);repeat(first|exact rfl|(exact hfr _ (by omega) (by omega))|(refine Eq.trans (bj (by first|omega|(simp only[List.length_cons,List.length_nil];omega))) ?_)))⟩⟩
end Go.Proofs.YtlonbgdonffcbaaGreatDoor
end
