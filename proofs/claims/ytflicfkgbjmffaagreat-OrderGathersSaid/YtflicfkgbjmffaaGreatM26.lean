import Derived.Test.YtflicfkgbjmffaaGreatM25
section
/- A machine at its place. -/
namespace Go.Proofs.YtflicfkgbjmffaaGreat.V
open Go Go.Abs Go.Proofs
set_option linter.unusedSimpArgs false
structure StoreS where
 pc:Int
 addr:Int
 word:Int
 deriving Inhabited,DecidableEq
abbrev StoreS.av (s:StoreS):AV:=.agg [i64 s.pc,i64 s.addr,i64 s.word]
structure CoreS where
 pc:Int
 halted:Bool
 reg:Nat→Int
 buf:List StoreS
 deriving Inhabited
def CoreS.cells (c:CoreS) (v:AV):List AV:=[i64 c.pc,bl c.halted,i64 (c.reg 0),i64 (c.reg 1),i64 (c.reg 2),i64 (c.reg 3),i64 (c.reg 4),i64 (c.reg 5),i64 (c.reg 6),i64 (c.reg 7),i64 (c.reg 8),i64 (c.reg 9),i64 (c.reg 10),i64 (c.reg 11),i64 (c.reg 12),i64 (c.reg 13),i64 (c.reg 14),i64 (c.reg 15),v]
abbrev CoreS.av (c:CoreS) (b:Nat):AV:=.agg (c.cells (.sl b c.buf.length))
def setReg (f:Nat→Int) (k:Int) (w:Int):Nat→Int:=fun j => if j = k.toNat then w else f j
def CoreS.put (c:CoreS) (k:Int) (w:Int):CoreS:={ c with reg:=setReg c.reg k w }
structure DidS where
 kind:Int
 core:Int
 pc:Int
 addr:Int
 word:Int
 put:Int
 own:Bool
 deriving Inhabited,DecidableEq
abbrev DidS.av (d:DidS):AV:=.agg [u8 d.kind,i64 d.core,i64 d.pc,i64 d.addr,i64 d.word,i64 d.put,bl d.own]
structure PrintS where
 thread:Int
 word:Int
 deriving Inhabited,DecidableEq
abbrev PrintS.av (p:PrintS):AV:=.agg [i64 p.thread,i64 p.word]
structure Mach where
 cores:List CoreS
 mem:List Int
 prints:List PrintS
 deriving Inhabited
structure Lay where
 m:Nat
 c:Nat
 mem:Nat
 pr:Nat
 bufs:List Nat
def Lay.ids (L:Lay):List Nat:=L.m :: L.c :: L.mem :: L.pr :: L.bufs
abbrev machAv (o:Obj) (s:Mach) (L:Lay):AV:=.agg [.sc (.slice none 0 0),i64 o.shared,i64 o.locks,i64 o.buffer,.im 2 .any (o.cores.map Core.av),.sl L.c s.cores.length,.sl L.mem s.mem.length,.sl L.pr s.prints.length]
def rows (s:Mach) (L:Lay):List AV:=List.zipWith CoreS.av s.cores L.bufs
structure MAt (o:Obj) (s:Mach) (L:Lay) (H:Hp) (nx:Nat):Prop where
 m:∃ d,getH H L.m = some (.row 92 8 d [machAv o s L])
 c:∃ d,getH H L.c = some (.row 164 19 d (rows s L))
 mem:∃ d,getH H L.mem = some (.row 2 1 d (s.mem.map i64))
 pr:∃ d,getH H L.pr = some (.row 137 2 d (s.prints.map PrintS.av))
 bufs:∀ i,i < s.cores.length→∃ d,getH H (L.bufs.getD i 0) = some (.row 135 3 d ((s.cores.getD i default).buf.map StoreS.av))
 lens:L.bufs.length = s.cores.length
 lt:∀ b ∈ L.ids,b < nx
 nodup:L.ids.Nodup
structure Moves (L L':Lay) (nx:Nat):Prop where
 m:L'.m = L.m
 ids:∀ b ∈ L'.ids,b ∈ L.ids ∨ nx ≤ b
theorem Moves.refl (L:Lay) (nx:Nat):Moves L L nx:=⟨rfl,fun _ h => .inl h⟩
theorem Moves.trans {L L' L'':Lay} {n n':Nat} (h:Moves L L' n) (h':Moves L' L'' n') (hn:n ≤ n'):Moves L L'' n:=by
 refine ⟨h'.m.trans h.m,fun b hb => ?_⟩
 rcases h'.ids b hb with h1|h1
 ·exact h.ids b h1
 ·exact .inr (by omega)
structure Apart (L:Lay) (q:Nat):Prop where
 mc:L.m ≠ L.c
 mmem:L.m ≠ L.mem
 mpr:L.m ≠ L.pr
 cmem:L.c ≠ L.mem
 cpr:L.c ≠ L.pr
 mempr:L.mem ≠ L.pr
 mb:L.m ≠ L.bufs.getD q 0
 cb:L.c ≠ L.bufs.getD q 0
 memb:L.mem ≠ L.bufs.getD q 0
 prb:L.pr ≠ L.bufs.getD q 0
theorem Lay.mem_buf {L:Lay} {q:Nat} (h:q < L.bufs.length):L.bufs.getD q 0 ∈ L.bufs:=by
 have:L.bufs.getD q 0 = L.bufs[q]:=by simp [List.getD,h]
 rw [this];exact List.getElem_mem h
theorem MAt.apart {o:Obj} {s:Mach} {L:Lay} {H:Hp} {nx:Nat} (h:MAt o s L H nx) {q:Nat} (hq:q < s.cores.length):Apart L q:=by
 have hb:=Lay.mem_buf (L:=L) (q:=q) (by rw [h.lens];exact hq)
 have hn:=h.nodup
 simp only [Lay.ids,List.nodup_cons,List.mem_cons,not_or] at hn
 obtain ⟨⟨h1,h2,h3,h4⟩,⟨h5,h6,h7⟩,⟨h8,h9⟩,h10,h11⟩:=hn
 exact ⟨h1,h2,h3,h5,h6,h8,fun h => h4 (h ▸ hb),fun h => h7 (h ▸ hb),fun h => h9 (h ▸ hb),fun h => h10 (h ▸ hb)⟩
theorem MAt.other {o:Obj} {s:Mach} {L:Lay} {H:Hp} {nx:Nat} (h:MAt o s L H nx) {q j:Nat} (hq:q < s.cores.length) (hj:j < s.cores.length) (hne:j ≠ q):L.bufs.getD j 0 ≠ L.bufs.getD q 0:=by
 have hn:=h.nodup
 simp only [Lay.ids,List.nodup_cons] at hn
 have hb:L.bufs.Nodup:=hn.2.2.2.2
 have e1:L.bufs.getD j 0 = L.bufs[j]'(by rw [h.lens];exact hj):=by simp [List.getD,h.lens,hj]
 have e2:L.bufs.getD q 0 = L.bufs[q]'(by rw [h.lens];exact hq):=by simp [List.getD,h.lens,hq]
 rw [e1,e2]
 have hp:=List.pairwise_iff_getElem.1 hb
 rcases Nat.lt_or_gt_of_ne hne with h1|h1
 ·exact hp _ _ _ _ h1
 ·exact (hp _ _ _ _ h1).symm
structure Lts (L:Lay) (q nx:Nat):Prop where
 m:L.m < nx
 c:L.c < nx
 mem:L.mem < nx
 pr:L.pr < nx
 b:L.bufs.getD q 0 < nx
theorem MAt.lts {o:Obj} {s:Mach} {L:Lay} {H:Hp} {nx:Nat} (h:MAt o s L H nx) {q:Nat} (hq:q < s.cores.length):Lts L q nx:=by
 have hb:=Lay.mem_buf (L:=L) (q:=q) (by rw [h.lens];exact hq)
 constructor <;> refine h.lt _ ?_ <;> simp [Lay.ids]
 exact .inr (.inr (.inr (.inr (by simpa using hb))))
@[simp] theorem rows_len {o:Obj} {s:Mach} {L:Lay} {H:Hp} {nx:Nat} (h:MAt o s L H nx):(rows s L).length = s.cores.length:=by
 simp [rows,h.lens]
theorem rows_at {o:Obj} {s:Mach} {L:Lay} {H:Hp} {nx:Nat} (h:MAt o s L H nx) {q:Nat} (hq:q < s.cores.length) (d:AV):(rows s L).getD q d = (s.cores.getD q default).av (L.bufs.getD q 0):=by
 have h2:q < L.bufs.length:=by rw [h.lens];exact hq
 have h3:q < (rows s L).length:=by rw [rows_len h];exact hq
 rw [List.getD,List.getElem?_eq_getElem h3]
 simp [rows,List.getD,hq,h2]
theorem rows_set {s:Mach} {L:Lay} {q:Nat} (c:CoreS) (b:Nat) (mem:List Int) (pr:List PrintS):rows ⟨s.cores.set q c,mem,pr⟩ { L with bufs:=L.bufs.set q b } = (rows s L).set q (c.av b):=by
 simp only [rows]
 apply List.ext_getElem
 ·simp
 ·intro i h1 h2
  simp only [List.getElem_zipWith,List.getElem_set]
  by_cases h:q = i <;> simp [h]
theorem nodup_set {l:List Nat} {q b:Nat} (h:l.Nodup) (hb:b ∉ l):(l.set q b).Nodup:=by
 refine List.pairwise_iff_getElem.2 fun i j hi hj hij => ?_
 have hp:=List.pairwise_iff_getElem.1 h
 simp only [List.length_set] at hi hj
 simp only [List.getElem_set]
 by_cases e1:q = i
 ·rw [if_pos e1,if_neg (by omega)]
  intro he;exact hb (he ▸ List.getElem_mem hj)
 ·rw [if_neg e1]
  by_cases e2:q = j
  ·rw [if_pos e2]
   intro he;exact hb (he ▸ List.getElem_mem hi)
  ·rw [if_neg e2];exact hp _ _ _ _ hij
theorem MAt.next {o:Obj} {s:Mach} {L:Lay} {H H':Hp} {nx nx':Nat} (h:MAt o s L H nx) {q:Nat} (hq:q < s.cores.length) (c:CoreS) (b:Nat) (mem:List Int) (pr:List PrintS)
  (hn:nx ≤ nx') (hb:b = L.bufs.getD q 0 ∨ (nx ≤ b∧b < nx'))
  (h1:∃ d es,getH H' L.m = some (.row 92 8 d es)∧es = [.agg [.sc (.slice none 0 0),i64 o.shared,i64 o.locks,i64 o.buffer,.im 2 .any (o.cores.map Core.av),.sl L.c s.cores.length,.sl L.mem mem.length,.sl L.pr pr.length]])
  (h2:∃ d es,getH H' L.c = some (.row 164 19 d es)∧es = (rows s L).set q (c.av b))
  (h3:∃ d es,getH H' L.mem = some (.row 2 1 d es)∧es = mem.map i64)
  (h4:∃ d es,getH H' L.pr = some (.row 137 2 d es)∧es = pr.map PrintS.av)
  (h5:∃ d es,getH H' b = some (.row 135 3 d es)∧es = c.buf.map StoreS.av)
  (h6:∀ j,j < s.cores.length→j ≠ q→L.bufs.getD j 0 < nx→L.bufs.getD j 0 ≠ L.m→L.bufs.getD j 0 ≠ L.c→L.bufs.getD j 0 ≠ L.mem→L.bufs.getD j 0 ≠ L.pr→L.bufs.getD j 0 ≠ L.bufs.getD q 0→getH H' (L.bufs.getD j 0) = getH H (L.bufs.getD j 0)) :
  MAt o ⟨s.cores.set q c,mem,pr⟩ { L with bufs:=L.bufs.set q b } H' nx'∧Moves L { L with bufs:=L.bufs.set q b } nx:=by
 have hqb:q < L.bufs.length:=by rw [h.lens];exact hq
 obtain ⟨e1,_,h1,rfl⟩:=h1
 obtain ⟨e2,_,h2,rfl⟩:=h2
 obtain ⟨e3,_,h3,rfl⟩:=h3
 obtain ⟨e4,_,h4,rfl⟩:=h4
 obtain ⟨e5,_,h5,rfl⟩:=h5
 refine ⟨⟨⟨e1,?_⟩,⟨e2,?_⟩,⟨_,h3⟩,⟨_,h4⟩,?_,?_,?_,?_⟩,⟨rfl,?_⟩⟩
 ·rw [h1];simp
 ·rw [rows_set];exact h2
 ·intro i hi
  simp only [List.length_set] at hi
  by_cases he:i = q
  ·subst he
   simp only [List.getD,List.getElem?_set_self hqb,List.getElem?_set_self hq,Option.getD_some]
   exact ⟨_,h5⟩
  ·have e1:(L.bufs.set q b).getD i 0 = L.bufs.getD i 0:=by simp [List.getD,List.getElem?_set_ne (Ne.symm he)]
   have e2:(s.cores.set q c).getD i default = s.cores.getD i default:=by simp [List.getD,List.getElem?_set_ne (Ne.symm he)]
   have ha:=h.apart hi
   simp only [e1,e2]
   rw [h6 i hi he (h.lts hi).b ha.mb.symm ha.cb.symm ha.memb.symm ha.prb.symm (h.other hq hi he)]
   exact h.bufs i hi
 ·simp [h.lens]
 ·intro x hx
  simp only [Lay.ids,List.mem_cons] at hx
  rcases hx with rfl|rfl|rfl|rfl|hx
  ·have:=(h.lts hq).m;omega
  ·have:=(h.lts hq).c;omega
  ·have:=(h.lts hq).mem;omega
  ·have:=(h.lts hq).pr;omega
  ·rcases List.mem_or_eq_of_mem_set hx with hx|rfl
   ·have:=h.lt x (by simp [Lay.ids,hx]);omega
   ·rcases hb with rfl|hb
    ·have:=(h.lts hq).b;omega
    ·omega
 ·have hn:=h.nodup
  simp only [Lay.ids,List.nodup_cons,List.mem_cons,not_or] at hn ⊢
  obtain ⟨⟨n1,n2,n3,n4⟩,⟨n5,n6,n7⟩,⟨n8,n9⟩,n10,n11⟩:=hn
  have hin:∀ x,x ∉ L.bufs→x < nx→x ∉ L.bufs.set q b:=by
   intro x hx hlt hm
   rcases List.mem_or_eq_of_mem_set hm with h|rfl
   ·exact hx h
   ·rcases hb with rfl|hb
    ·exact hx (Lay.mem_buf hqb)
    ·omega
  have hl:=h.lts hq
  refine ⟨⟨n1,n2,n3,hin _ n4 hl.m⟩,⟨n5,n6,hin _ n7 hl.c⟩,⟨n8,hin _ n9 hl.mem⟩,hin _ n10 hl.pr,?_⟩
  rcases hb with rfl|hb
  ·have:L.bufs.set q (L.bufs.getD q 0) = L.bufs:=by
    have e:L.bufs.getD q 0 = L.bufs[q]:=by simp [List.getD,hqb]
    rw [e,List.set_getElem_self]
   rw [this];exact n11
  ·exact nodup_set n11 fun hm => by
    have:=h.lt b (by simp [Lay.ids,hm])
    omega
 ·intro x hx
  simp only [Lay.ids,List.mem_cons] at hx
  rcases hx with rfl|rfl|rfl|rfl|hx
  ·exact .inl (by simp [Lay.ids])
  ·exact .inl (by simp [Lay.ids])
  ·exact .inl (by simp [Lay.ids])
  ·exact .inl (by simp [Lay.ids])
  ·rcases List.mem_or_eq_of_mem_set hx with hx|rfl
   ·exact .inl (by simp [Lay.ids,hx])
   ·rcases hb with rfl|hb
    ·exact .inl (by simp only [Lay.ids,List.mem_cons];exact .inr (.inr (.inr (.inr (Lay.mem_buf hqb)))))
    ·exact .inr hb.1
theorem rows_same {o:Obj} {s:Mach} {L:Lay} {H:Hp} {nx:Nat} (h:MAt o s L H nx) {q:Nat} (hq:q < s.cores.length):(rows s L).set q ((s.cores.getD q default).av (L.bufs.getD q 0)) = rows s L:=by
 have h3:q < (rows s L).length:=by rw [rows_len h];exact hq
 have h4:=rows_at h hq .any
 rw [← h4]
 have:(rows s L).getD q .any = (rows s L)[q]:=by simp [List.getD,h3]
 rw [this,List.set_getElem_self]
end Go.Proofs.YtflicfkgbjmffaaGreat.V
/- What a turn does. -/
namespace Go.Proofs.YtflicfkgbjmffaaGreat.V
open Go Go.Abs Go.Proofs
set_option linter.unusedSimpArgs false
set_option linter.unusedVariables false
theorem set_set {α:Type} (l:List α) (i:Nat) (v w:α):(l.set i v).set i w = l.set i w:=by simp
theorem reg_at (c:CoreS) (v:AV) (k:Int) (h:0 ≤ k∧k < 16):(c.cells v).getD (2 + k.toNat * 1) .any = i64 (c.reg k.toNat):=by
 have h2:k.toNat = 0 ∨ k.toNat = 1 ∨ k.toNat = 2 ∨ k.toNat = 3 ∨ k.toNat = 4 ∨ k.toNat = 5 ∨ k.toNat = 6 ∨ k.toNat = 7 ∨ k.toNat = 8 ∨ k.toNat = 9 ∨ k.toNat = 10 ∨ k.toNat = 11 ∨ k.toNat = 12 ∨ k.toNat = 13 ∨ k.toNat = 14 ∨ k.toNat = 15:=by omega
 generalize k.toNat = j at h2 ⊢
 rcases h2 with rfl|rfl|rfl|rfl|rfl|rfl|rfl|rfl|rfl|rfl|rfl|rfl|rfl|rfl|rfl|rfl <;> rfl
theorem put_cells (c:CoreS) (v:AV) (k:Int) (w:Int) (h:0 ≤ k∧k < 16):(c.cells v).set (2 + k.toNat * 1) (i64 w) = (c.put k w).cells v:=by
 have h2:k.toNat = 0 ∨ k.toNat = 1 ∨ k.toNat = 2 ∨ k.toNat = 3 ∨ k.toNat = 4 ∨ k.toNat = 5 ∨ k.toNat = 6 ∨ k.toNat = 7 ∨ k.toNat = 8 ∨ k.toNat = 9 ∨ k.toNat = 10 ∨ k.toNat = 11 ∨ k.toNat = 12 ∨ k.toNat = 13 ∨ k.toNat = 14 ∨ k.toNat = 15:=by omega
 simp only [CoreS.cells,CoreS.put,setReg]
 generalize k.toNat = j at h2 ⊢
 rcases h2 with rfl|rfl|rfl|rfl|rfl|rfl|rfl|rfl|rfl|rfl|rfl|rfl|rfl|rfl|rfl|rfl <;> rfl
abbrev didRow (d:DidS) (df:AV):Blk:=.row 62 7 df [d.av]
abbrev turnAv (s:Mach) (L:Lay) (q d:Nat) (i:Instr):AV:=.agg [.pt L.m 1 0 0,.pt L.c s.cores.length q 0,u8 i.kind,u8 i.op,i64 i.d,i64 i.a,i64 i.b,i64 i.addr,i64 i.to,i64 i.word,i64 i.fr,.pt d 1 0 0]
abbrev Mach.core (s:Mach) (q:Nat):CoreS:=s.cores.getD q default
def Mach.setCore (s:Mach) (q:Nat) (c:CoreS):Mach:={ s with cores:=s.cores.set q c }
def Turned (o:Obj) (L:Lay) (H:Hp) (nx d:Nat) (s:Mach) (did:DidS):AV→Hp→Nat→Prop:=fun _ H' n =>
 nx ≤ n∧(∃ L',MAt o s L' H' n∧Moves L L' nx)∧(∃ df,getH H' d = some (didRow did df))∧∀ b,b < nx→b ∉ L.ids→b ≠ d→getH H' b = getH H b
structure DidAt (L:Lay) (H:Hp) (nx d:Nat) (did:DidS):Prop where
 lt:d < nx
 out:d ∉ L.ids
 row:∃ df,getH H d = some (didRow did df)
theorem Lay.out {L:Lay} {b:Nat} (h:b ∉ L.ids) {q:Nat} (hq:q < L.bufs.length):b ≠ L.m∧b ≠ L.c∧b ≠ L.mem∧b ≠ L.pr∧b ≠ L.bufs.getD q 0:=by
 simp only [Lay.ids,List.mem_cons,not_or] at h
 exact ⟨h.1,h.2.1,h.2.2.1,h.2.2.2.1,fun he => h.2.2.2.2 (he ▸ Lay.mem_buf hq)⟩
def doSet (s:Mach) (q:Nat) (i:Instr) (did:DidS):Mach × DidS:=(s.setCore q ((s.core q).put i.d i.word),{ did with kind:=1 })
theorem set_call {o:Obj} {s:Mach} {L:Lay} {H:Hp} {nx:Nat} (h:MAt o s L H nx) {q:Nat} (hq:q < s.cores.length) {d:Nat} {did:DidS} (hd:DidAt L H nx d did) (i:Instr) (hD:0 ≤ i.d∧i.d < 16) :
  CallN Tryz.prog 87 [turnAv s L q d i] H nx (Turned o L H nx d (doSet s q i did).1 (doSet s q i did).2):=by
 refine Go.fnL lf87 rfl ?_
 obtain ⟨dm,hm⟩:=h.m
 obtain ⟨dc,hc⟩:=h.c
 obtain ⟨dmem,hmem⟩:=h.mem
 obtain ⟨dpr,hpr⟩:=h.pr
 obtain ⟨db,hb⟩:=h.bufs q hq
 obtain ⟨dd,hdr⟩:=hd.row
 obtain ⟨a1,a2,a3,a4,a5,a6,a7,a8,a9,a10⟩:=h.apart hq
 obtain ⟨l1,l2,l3,l4,l5⟩:=h.lts hq
 obtain ⟨d1,d2,d3,d4,d5⟩:=Lay.out hd.out (q:=q) (by rw [h.lens];exact hq)
 have hdl:=hd.lt
 have hel:=rows_len h
 have hei:=rows_at h hq
 rw [didRow] at hdr
 repeat' (first|((with_reducible refine Go.red ?_);conv => whnf)|refine aG ?_|exact aC|with_reducible refine Go.and ?_ ?_|(apply Go.elem;(·(first|exact hei _|exact reg_at _ _ _ hD|exact aElem)))|refine aH ?_|((with_reducible refine Go.bool ?_ ?_) <;> intro hc <;> (try simp only [List.length_map,ne_eq,hcs] at hc) <;> try (exfalso;omega)))
 refine ⟨⟨(by first|omega|(simp only [List.length_cons,List.length_nil];omega)),⟨_,h.next (q:=q) hq ((s.core q).put i.d i.word) (L.bufs.getD q 0) (s.mem) (s.prints) (by first|omega|(simp only [List.length_cons,List.length_nil];omega)) (by first|exact .inl rfl|(right;omega)) ⟨_,_,aRow,rfl⟩ ⟨_,_,aRow,(by rw [CoreS.av,← put_cells _ _ _ _ hD];rfl)⟩ ⟨_,_,aRow,rfl⟩ ⟨_,_,aRow,rfl⟩ ⟨_,_,aRow,rfl⟩ (by intro j hj hne hlt n1 n2 n3 n4 n5;have x5:=(Lay.out hd.out (q:=j) (by rw [h.lens];exact hj)).2.2.2.2;repeat (first|exact rfl|(exact hfr _ (by omega) (by omega))|(refine Eq.trans (getH_skipEq (by first|omega|(simp only [List.length_cons,List.length_nil];omega))) ?_)))⟩,⟨_,aRow⟩,(by intro b' hb' hout hne;obtain ⟨o1,o2,o3,o4,o5⟩:=Lay.out hout (q:=q) (by rw [h.lens];exact hq);repeat (first|exact rfl|(exact hfr _ (by omega) (by omega))|(refine Eq.trans (getH_skipEq (by first|omega|(simp only [List.length_cons,List.length_nil];omega))) ?_)))⟩⟩
def opW (op a b:Int):Int:=if two op = true then twoW op a b else oneW op a
def doOp (s:Mach) (q:Nat) (i:Instr) (did:DidS):Mach × DidS:=(s.setCore q ((s.core q).put i.d (opW i.op ((s.core q).reg i.a.toNat) ((s.core q).reg i.b.toNat))),{ did with kind:=1 })
theorem op_two {o:Obj} {s:Mach} {L:Lay} {H:Hp} {nx:Nat} (h:MAt o s L H nx) {q:Nat} (hq:q < s.cores.length) {d:Nat} {did:DidS} (hd:DidAt L H nx d did) (i:Instr) (hD:0 ≤ i.d∧i.d < 16) (hA:0 ≤ i.a∧i.a < 16) (hB:0 ≤ i.b∧i.b < 16) (ht:two i.op = true) :
  CallN Tryz.prog 88 [turnAv s L q d i] H nx (Turned o L H nx d (doOp s q i did).1 (doOp s q i did).2):=by
 refine Go.fnL lf88 rfl ?_
 obtain ⟨dm,hm⟩:=h.m
 obtain ⟨dc,hc⟩:=h.c
 obtain ⟨dmem,hmem⟩:=h.mem
 obtain ⟨dpr,hpr⟩:=h.pr
 obtain ⟨db,hb⟩:=h.bufs q hq
 obtain ⟨dd,hdr⟩:=hd.row
 obtain ⟨a1,a2,a3,a4,a5,a6,a7,a8,a9,a10⟩:=h.apart hq
 obtain ⟨l1,l2,l3,l4,l5⟩:=h.lts hq
 obtain ⟨d1,d2,d3,d4,d5⟩:=Lay.out hd.out (q:=q) (by rw [h.lens];exact hq)
 have hdl:=hd.lt
 have hel:=rows_len h
 have hei:=rows_at h hq
 rw [didRow] at hdr
 repeat' (first|((with_reducible refine Go.red ?_);conv => whnf)|refine aG ?_|exact aC|with_reducible refine Go.and ?_ ?_|(apply Go.elem;(·(first|exact hei _|exact reg_at _ _ _ hD|exact reg_at _ _ _ hA|exact reg_at _ _ _ hB|exact aElem)))|((with_reducible refine Go.callW (Do_two _ _ _ ht) ?_ ?_);(·exact aFit))|((with_reducible refine Go.callJ (fun _ => Do_two _ _ _ ht) ?_ ?_);(·exact aFit))|((with_reducible refine Go.callE (Do_two _ _ _ ht) ?_ ?_);(·exact aFit))|((with_reducible refine Go.callF (fun _ => Do_two _ _ _ ht) ?_ ?_);(·exact aFit))|refine aH ?_|((with_reducible refine Go.bool ?_ ?_) <;> intro hc <;> (try simp only [List.length_map,ne_eq,hcs] at hc) <;> try (exfalso;omega)))
 refine ⟨⟨(by first|omega|(simp only [List.length_cons,List.length_nil];omega)),⟨_,h.next (q:=q) hq ((s.core q).put i.d (opW i.op ((s.core q).reg i.a.toNat) ((s.core q).reg i.b.toNat))) (L.bufs.getD q 0) (s.mem) (s.prints) (by first|omega|(simp only [List.length_cons,List.length_nil];omega)) (by first|exact .inl rfl|(right;omega)) ⟨_,_,aRow,rfl⟩ ⟨_,_,aRow,(by rw [opW,if_pos ht,CoreS.av,← put_cells _ _ _ _ hD];rfl)⟩ ⟨_,_,aRow,rfl⟩ ⟨_,_,aRow,rfl⟩ ⟨_,_,aRow,rfl⟩ (by intro j hj hne hlt n1 n2 n3 n4 n5;have x5:=(Lay.out hd.out (q:=j) (by rw [h.lens];exact hj)).2.2.2.2;repeat (first|exact rfl|(exact hfr _ (by omega) (by omega))|(refine Eq.trans (getH_skipEq (by first|omega|(simp only [List.length_cons,List.length_nil];omega))) ?_)))⟩,⟨_,aRow⟩,(by intro b' hb' hout hne;obtain ⟨o1,o2,o3,o4,o5⟩:=Lay.out hout (q:=q) (by rw [h.lens];exact hq);repeat (first|exact rfl|(exact hfr _ (by omega) (by omega))|(refine Eq.trans (getH_skipEq (by first|omega|(simp only [List.length_cons,List.length_nil];omega))) ?_)))⟩⟩
theorem op_one {o:Obj} {s:Mach} {L:Lay} {H:Hp} {nx:Nat} (h:MAt o s L H nx) {q:Nat} (hq:q < s.cores.length) {d:Nat} {did:DidS} (hd:DidAt L H nx d did) (i:Instr) (hD:0 ≤ i.d∧i.d < 16) (hA:0 ≤ i.a∧i.a < 16) (hB:0 ≤ i.b∧i.b < 16) (ht:two i.op = false) (ho:i.op = 17 ∨ i.op = 18) :
  CallN Tryz.prog 88 [turnAv s L q d i] H nx (Turned o L H nx d (doOp s q i did).1 (doOp s q i did).2):=by
 refine Go.fnL lf88 rfl ?_
 obtain ⟨dm,hm⟩:=h.m
 obtain ⟨dc,hc⟩:=h.c
 obtain ⟨dmem,hmem⟩:=h.mem
 obtain ⟨dpr,hpr⟩:=h.pr
 obtain ⟨db,hb⟩:=h.bufs q hq
 obtain ⟨dd,hdr⟩:=hd.row
 obtain ⟨a1,a2,a3,a4,a5,a6,a7,a8,a9,a10⟩:=h.apart hq
 obtain ⟨l1,l2,l3,l4,l5⟩:=h.lts hq
 obtain ⟨d1,d2,d3,d4,d5⟩:=Lay.out hd.out (q:=q) (by rw [h.lens];exact hq)
 have hdl:=hd.lt
 have hel:=rows_len h
 have hei:=rows_at h hq
 rw [didRow] at hdr
 repeat' (first|((with_reducible refine Go.red ?_);conv => whnf)|refine aG ?_|exact aC|with_reducible refine Go.and ?_ ?_|(apply Go.elem;(·(first|exact hei _|exact reg_at _ _ _ hD|exact reg_at _ _ _ hA|exact reg_at _ _ _ hB|exact aElem)))|((with_reducible refine Go.callW (Do_not _ _ _ ht) ?_ ?_);(·exact aFit))|((with_reducible refine Go.callJ (fun _ => Do_not _ _ _ ht) ?_ ?_);(·exact aFit))|((with_reducible refine Go.callE (Do_not _ _ _ ht) ?_ ?_);(·exact aFit))|((with_reducible refine Go.callF (fun _ => Do_not _ _ _ ht) ?_ ?_);(·exact aFit))|((with_reducible refine Go.callW (One_one _ _ ho) ?_ ?_);(·exact aFit))|((with_reducible refine Go.callJ (fun _ => One_one _ _ ho) ?_ ?_);(·exact aFit))|((with_reducible refine Go.callE (One_one _ _ ho) ?_ ?_);(·exact aFit))|((with_reducible refine Go.callF (fun _ => One_one _ _ ho) ?_ ?_);(·exact aFit))|refine aH ?_|((with_reducible refine Go.bool ?_ ?_) <;> intro hc <;> (try simp only [List.length_map,ne_eq,hcs] at hc) <;> try (exfalso;omega)))
 refine ⟨⟨(by first|omega|(simp only [List.length_cons,List.length_nil];omega)),⟨_,h.next (q:=q) hq ((s.core q).put i.d (opW i.op ((s.core q).reg i.a.toNat) ((s.core q).reg i.b.toNat))) (L.bufs.getD q 0) (s.mem) (s.prints) (by first|omega|(simp only [List.length_cons,List.length_nil];omega)) (by first|exact .inl rfl|(right;omega)) ⟨_,_,aRow,rfl⟩ ⟨_,_,aRow,(by rw [opW,if_neg (by rw [ht];simp),CoreS.av,← put_cells _ _ _ _ hD];rfl)⟩ ⟨_,_,aRow,rfl⟩ ⟨_,_,aRow,rfl⟩ ⟨_,_,aRow,rfl⟩ (by intro j hj hne hlt n1 n2 n3 n4 n5;have x5:=(Lay.out hd.out (q:=j) (by rw [h.lens];exact hj)).2.2.2.2;repeat (first|exact rfl|(exact hfr _ (by omega) (by omega))|(refine Eq.trans (getH_skipEq (by first|omega|(simp only [List.length_cons,List.length_nil];omega))) ?_)))⟩,⟨_,aRow⟩,(by intro b' hb' hout hne;obtain ⟨o1,o2,o3,o4,o5⟩:=Lay.out hout (q:=q) (by rw [h.lens];exact hq);repeat (first|exact rfl|(exact hfr _ (by omega) (by omega))|(refine Eq.trans (getH_skipEq (by first|omega|(simp only [List.length_cons,List.length_nil];omega))) ?_)))⟩⟩
def doFence (s:Mach) (q:Nat) (i:Instr) (did:DidS):Mach × DidS:=(s.setCore q (s.core q),{ did with kind:=5 })
theorem fence_call {o:Obj} {s:Mach} {L:Lay} {H:Hp} {nx:Nat} (h:MAt o s L H nx) {q:Nat} (hq:q < s.cores.length) {d:Nat} {did:DidS} (hd:DidAt L H nx d did) (i:Instr)  :
  CallN Tryz.prog 92 [turnAv s L q d i] H nx (Turned o L H nx d (doFence s q i did).1 (doFence s q i did).2):=by
 refine Go.fnL lf92 rfl ?_
 obtain ⟨dm,hm⟩:=h.m
 obtain ⟨dc,hc⟩:=h.c
 obtain ⟨dmem,hmem⟩:=h.mem
 obtain ⟨dpr,hpr⟩:=h.pr
 obtain ⟨db,hb⟩:=h.bufs q hq
 obtain ⟨dd,hdr⟩:=hd.row
 obtain ⟨a1,a2,a3,a4,a5,a6,a7,a8,a9,a10⟩:=h.apart hq
 obtain ⟨l1,l2,l3,l4,l5⟩:=h.lts hq
 obtain ⟨d1,d2,d3,d4,d5⟩:=Lay.out hd.out (q:=q) (by rw [h.lens];exact hq)
 have hdl:=hd.lt
 have hel:=rows_len h
 have hei:=rows_at h hq
 rw [didRow] at hdr
 repeat' (first|((with_reducible refine Go.red ?_);conv => whnf)|refine aG ?_|exact aC|with_reducible refine Go.and ?_ ?_|(apply Go.elem;(·(first|exact hei _|exact aElem)))|refine aH ?_|((with_reducible refine Go.bool ?_ ?_) <;> intro hc <;> (try simp only [List.length_map,ne_eq,hcs] at hc) <;> try (exfalso;omega)))
 refine ⟨⟨(by first|omega|(simp only [List.length_cons,List.length_nil];omega)),⟨_,h.next (q:=q) hq (s.core q) (L.bufs.getD q 0) (s.mem) (s.prints) (by first|omega|(simp only [List.length_cons,List.length_nil];omega)) (by first|exact .inl rfl|(right;omega)) ⟨_,_,aRow,rfl⟩ ⟨_,_,aRow,(rows_same h hq).symm⟩ ⟨_,_,aRow,rfl⟩ ⟨_,_,aRow,rfl⟩ ⟨_,_,aRow,rfl⟩ (by intro j hj hne hlt n1 n2 n3 n4 n5;have x5:=(Lay.out hd.out (q:=j) (by rw [h.lens];exact hj)).2.2.2.2;repeat (first|exact rfl|(exact hfr _ (by omega) (by omega))|(refine Eq.trans (getH_skipEq (by first|omega|(simp only [List.length_cons,List.length_nil];omega))) ?_)))⟩,⟨_,aRow⟩,(by intro b' hb' hout hne;obtain ⟨o1,o2,o3,o4,o5⟩:=Lay.out hout (q:=q) (by rw [h.lens];exact hq);repeat (first|exact rfl|(exact hfr _ (by omega) (by omega))|(refine Eq.trans (getH_skipEq (by first|omega|(simp only [List.length_cons,List.length_nil];omega))) ?_)))⟩⟩
def doJump (s:Mach) (q:Nat) (i:Instr) (did:DidS):Mach × DidS:=(s.setCore q { s.core q with pc:=i.to },{ did with kind:=1 })
theorem jump_call {o:Obj} {s:Mach} {L:Lay} {H:Hp} {nx:Nat} (h:MAt o s L H nx) {q:Nat} (hq:q < s.cores.length) {d:Nat} {did:DidS} (hd:DidAt L H nx d did) (i:Instr)  :
  CallN Tryz.prog 94 [turnAv s L q d i] H nx (Turned o L H nx d (doJump s q i did).1 (doJump s q i did).2):=by
 refine Go.fnL lf94 rfl ?_
 obtain ⟨dm,hm⟩:=h.m
 obtain ⟨dc,hc⟩:=h.c
 obtain ⟨dmem,hmem⟩:=h.mem
 obtain ⟨dpr,hpr⟩:=h.pr
 obtain ⟨db,hb⟩:=h.bufs q hq
 obtain ⟨dd,hdr⟩:=hd.row
 obtain ⟨a1,a2,a3,a4,a5,a6,a7,a8,a9,a10⟩:=h.apart hq
 obtain ⟨l1,l2,l3,l4,l5⟩:=h.lts hq
 obtain ⟨d1,d2,d3,d4,d5⟩:=Lay.out hd.out (q:=q) (by rw [h.lens];exact hq)
 have hdl:=hd.lt
 have hel:=rows_len h
 have hei:=rows_at h hq
 rw [didRow] at hdr
 repeat' (first|((with_reducible refine Go.red ?_);conv => whnf)|refine aG ?_|exact aC|with_reducible refine Go.and ?_ ?_|(apply Go.elem;(·(first|exact hei _|exact aElem)))|refine aH ?_|((with_reducible refine Go.bool ?_ ?_) <;> intro hc <;> (try simp only [List.length_map,ne_eq,hcs] at hc) <;> try (exfalso;omega)))
 refine ⟨⟨(by first|omega|(simp only [List.length_cons,List.length_nil];omega)),⟨_,h.next (q:=q) hq ({ s.core q with pc:=i.to }) (L.bufs.getD q 0) (s.mem) (s.prints) (by first|omega|(simp only [List.length_cons,List.length_nil];omega)) (by first|exact .inl rfl|(right;omega)) ⟨_,_,aRow,rfl⟩ ⟨_,_,aRow,rfl⟩ ⟨_,_,aRow,rfl⟩ ⟨_,_,aRow,rfl⟩ ⟨_,_,aRow,rfl⟩ (by intro j hj hne hlt n1 n2 n3 n4 n5;have x5:=(Lay.out hd.out (q:=j) (by rw [h.lens];exact hj)).2.2.2.2;repeat (first|exact rfl|(exact hfr _ (by omega) (by omega))|(refine Eq.trans (getH_skipEq (by first|omega|(simp only [List.length_cons,List.length_nil];omega))) ?_)))⟩,⟨_,aRow⟩,(by intro b' hb' hout hne;obtain ⟨o1,o2,o3,o4,o5⟩:=Lay.out hout (q:=q) (by rw [h.lens];exact hq);repeat (first|exact rfl|(exact hfr _ (by omega) (by omega))|(refine Eq.trans (getH_skipEq (by first|omega|(simp only [List.length_cons,List.length_nil];omega))) ?_)))⟩⟩
def doZero (s:Mach) (q:Nat) (i:Instr) (did:DidS):Mach × DidS:=(s.setCore q (if (s.core q).reg i.a.toNat = 0 then { s.core q with pc:=i.to } else s.core q),{ did with kind:=1 })
theorem zero_call {o:Obj} {s:Mach} {L:Lay} {H:Hp} {nx:Nat} (h:MAt o s L H nx) {q:Nat} (hq:q < s.cores.length) {d:Nat} {did:DidS} (hd:DidAt L H nx d did) (i:Instr) (hA:0 ≤ i.a∧i.a < 16) :
  CallN Tryz.prog 95 [turnAv s L q d i] H nx (Turned o L H nx d (doZero s q i did).1 (doZero s q i did).2):=by
 refine Go.fnL lf95 rfl ?_
 obtain ⟨dm,hm⟩:=h.m
 obtain ⟨dc,hc⟩:=h.c
 obtain ⟨dmem,hmem⟩:=h.mem
 obtain ⟨dpr,hpr⟩:=h.pr
 obtain ⟨db,hb⟩:=h.bufs q hq
 obtain ⟨dd,hdr⟩:=hd.row
 obtain ⟨a1,a2,a3,a4,a5,a6,a7,a8,a9,a10⟩:=h.apart hq
 obtain ⟨l1,l2,l3,l4,l5⟩:=h.lts hq
 obtain ⟨d1,d2,d3,d4,d5⟩:=Lay.out hd.out (q:=q) (by rw [h.lens];exact hq)
 have hdl:=hd.lt
 have hel:=rows_len h
 have hei:=rows_at h hq
 rw [didRow] at hdr
 repeat' (first|((with_reducible refine Go.red ?_);conv => whnf)|refine aG ?_|exact aC|with_reducible refine Go.and ?_ ?_|(apply Go.elem;(·(first|exact hei _|exact reg_at _ _ _ hA|exact aElem)))|refine aH ?_|((with_reducible refine Go.bool ?_ ?_) <;> intro hc <;> (try simp only [List.length_map,ne_eq,hcs] at hc) <;> try (exfalso;omega)))
 ·refine ⟨⟨(by first|omega|(simp only [List.length_cons,List.length_nil];omega)),⟨_,h.next (q:=q) hq (if (s.core q).reg i.a.toNat = 0 then { s.core q with pc:=i.to } else s.core q) (L.bufs.getD q 0) (s.mem) (s.prints) (by first|omega|(simp only [List.length_cons,List.length_nil];omega)) (by first|exact .inl rfl|(right;omega)) ⟨_,_,aRow,rfl⟩ ⟨_,_,aRow,(by rw [if_pos (by assumption)];try rfl)⟩ ⟨_,_,aRow,rfl⟩ ⟨_,_,aRow,rfl⟩ ⟨_,_,aRow,(by rw [if_pos (by assumption)];try rfl)⟩ (by intro j hj hne hlt n1 n2 n3 n4 n5;have x5:=(Lay.out hd.out (q:=j) (by rw [h.lens];exact hj)).2.2.2.2;repeat (first|exact rfl|(exact hfr _ (by omega) (by omega))|(refine Eq.trans (getH_skipEq (by first|omega|(simp only [List.length_cons,List.length_nil];omega))) ?_)))⟩,⟨_,aRow⟩,(by intro b' hb' hout hne;obtain ⟨o1,o2,o3,o4,o5⟩:=Lay.out hout (q:=q) (by rw [h.lens];exact hq);repeat (first|exact rfl|(exact hfr _ (by omega) (by omega))|(refine Eq.trans (getH_skipEq (by first|omega|(simp only [List.length_cons,List.length_nil];omega))) ?_)))⟩⟩
 ·refine ⟨⟨(by first|omega|(simp only [List.length_cons,List.length_nil];omega)),⟨_,h.next (q:=q) hq (if (s.core q).reg i.a.toNat = 0 then { s.core q with pc:=i.to } else s.core q) (L.bufs.getD q 0) (s.mem) (s.prints) (by first|omega|(simp only [List.length_cons,List.length_nil];omega)) (by first|exact .inl rfl|(right;omega)) ⟨_,_,aRow,rfl⟩ ⟨_,_,aRow,(by rw [if_neg (by assumption)];exact (rows_same h hq).symm)⟩ ⟨_,_,aRow,rfl⟩ ⟨_,_,aRow,rfl⟩ ⟨_,_,aRow,(by rw [if_neg (by assumption)];try rfl)⟩ (by intro j hj hne hlt n1 n2 n3 n4 n5;have x5:=(Lay.out hd.out (q:=j) (by rw [h.lens];exact hj)).2.2.2.2;repeat (first|exact rfl|(exact hfr _ (by omega) (by omega))|(refine Eq.trans (getH_skipEq (by first|omega|(simp only [List.length_cons,List.length_nil];omega))) ?_)))⟩,⟨_,aRow⟩,(by intro b' hb' hout hne;obtain ⟨o1,o2,o3,o4,o5⟩:=Lay.out hout (q:=q) (by rw [h.lens];exact hq);repeat (first|exact rfl|(exact hfr _ (by omega) (by omega))|(refine Eq.trans (getH_skipEq (by first|omega|(simp only [List.length_cons,List.length_nil];omega))) ?_)))⟩⟩
def doHalt (s:Mach) (q:Nat) (i:Instr) (did:DidS):Mach × DidS:=(s.setCore q { s.core q with pc:=did.pc,halted:=true },{ did with kind:=7 })
theorem halt_call {o:Obj} {s:Mach} {L:Lay} {H:Hp} {nx:Nat} (h:MAt o s L H nx) {q:Nat} (hq:q < s.cores.length) {d:Nat} {did:DidS} (hd:DidAt L H nx d did) (i:Instr)  :
  CallN Tryz.prog 96 [turnAv s L q d i] H nx (Turned o L H nx d (doHalt s q i did).1 (doHalt s q i did).2):=by
 refine Go.fnL lf96 rfl ?_
 obtain ⟨dm,hm⟩:=h.m
 obtain ⟨dc,hc⟩:=h.c
 obtain ⟨dmem,hmem⟩:=h.mem
 obtain ⟨dpr,hpr⟩:=h.pr
 obtain ⟨db,hb⟩:=h.bufs q hq
 obtain ⟨dd,hdr⟩:=hd.row
 obtain ⟨a1,a2,a3,a4,a5,a6,a7,a8,a9,a10⟩:=h.apart hq
 obtain ⟨l1,l2,l3,l4,l5⟩:=h.lts hq
 obtain ⟨d1,d2,d3,d4,d5⟩:=Lay.out hd.out (q:=q) (by rw [h.lens];exact hq)
 have hdl:=hd.lt
 have hel:=rows_len h
 have hei:=rows_at h hq
 rw [didRow] at hdr
 repeat' (first|((with_reducible refine Go.red ?_);conv => whnf)|refine aG ?_|exact aC|with_reducible refine Go.and ?_ ?_|(apply Go.elem;(·(first|exact hei _|exact aElem)))|refine aH ?_|((with_reducible refine Go.bool ?_ ?_) <;> intro hc <;> (try simp only [List.length_map,ne_eq,hcs] at hc) <;> try (exfalso;omega)))
 refine ⟨⟨(by first|omega|(simp only [List.length_cons,List.length_nil];omega)),⟨_,h.next (q:=q) hq ({ s.core q with pc:=did.pc,halted:=true }) (L.bufs.getD q 0) (s.mem) (s.prints) (by first|omega|(simp only [List.length_cons,List.length_nil];omega)) (by first|exact .inl rfl|(right;omega)) ⟨_,_,aRow,rfl⟩ ⟨_,_,aRow,(by simp only [set_set];rfl)⟩ ⟨_,_,aRow,rfl⟩ ⟨_,_,aRow,rfl⟩ ⟨_,_,aRow,rfl⟩ (by intro j hj hne hlt n1 n2 n3 n4 n5;have x5:=(Lay.out hd.out (q:=j) (by rw [h.lens];exact hj)).2.2.2.2;repeat (first|exact rfl|(exact hfr _ (by omega) (by omega))|(refine Eq.trans (getH_skipEq (by first|omega|(simp only [List.length_cons,List.length_nil];omega))) ?_)))⟩,⟨_,aRow⟩,(by intro b' hb' hout hne;obtain ⟨o1,o2,o3,o4,o5⟩:=Lay.out hout (q:=q) (by rw [h.lens];exact hq);repeat (first|exact rfl|(exact hfr _ (by omega) (by omega))|(refine Eq.trans (getH_skipEq (by first|omega|(simp only [List.length_cons,List.length_nil];omega))) ?_)))⟩⟩
end Go.Proofs.YtflicfkgbjmffaaGreat.V
/- What a turn does: the longer ones. -/
namespace Go.Proofs.YtflicfkgbjmffaaGreat.V
open Go Go.Abs Go.Proofs
set_option linter.unusedSimpArgs false
set_option linter.unusedVariables false
def doPrint (s:Mach) (q:Nat) (i:Instr) (did:DidS):Mach × DidS:=({ s.setCore q (s.core q) with prints:=s.prints ++ [PrintS.mk did.core ((s.core q).reg i.a.toNat)] },{ did with kind:=6,word:=(s.core q).reg i.a.toNat })
set_option maxHeartbeats 4000000 in
theorem print_call {o:Obj} {s:Mach} {L:Lay} {H:Hp} {nx:Nat} (h:MAt o s L H nx) {q:Nat} (hq:q < s.cores.length) {d:Nat} {did:DidS} (hd:DidAt L H nx d did) (i:Instr) (hA:0 ≤ i.a∧i.a < 16) (hpl:(s.prints.length + 1) * 16 ≤ 140737488355328) :
  CallN Tryz.prog 93 [turnAv s L q d i] H nx (Turned o L H nx d (doPrint s q i did).1 (doPrint s q i did).2):=by
 refine Go.fnL lf93 rfl ?_
 obtain ⟨dm,hm⟩:=h.m
 obtain ⟨dc,hc⟩:=h.c
 obtain ⟨dmem,hmem⟩:=h.mem
 obtain ⟨dpr,hpr⟩:=h.pr
 obtain ⟨db,hb⟩:=h.bufs q hq
 obtain ⟨dd,hdr⟩:=hd.row
 obtain ⟨a1,a2,a3,a4,a5,a6,a7,a8,a9,a10⟩:=h.apart hq
 obtain ⟨l1,l2,l3,l4,l5⟩:=h.lts hq
 obtain ⟨d1,d2,d3,d4,d5⟩:=Lay.out hd.out (q:=q) (by rw [h.lens];exact hq)
 have hdl:=hd.lt
 have hel:=rows_len h
 have hei:=rows_at h hq
 rw [didRow] at hdr
 repeat' (first|((with_reducible refine Go.red ?_);conv => whnf)|refine aG ?_|exact aC|with_reducible refine Go.and ?_ ?_|(apply Go.elem;(·(first|exact hei _|exact reg_at _ _ _ hA|exact aElem)))|refine aH ?_|((with_reducible refine Go.bool ?_ ?_) <;> intro hc <;> (try simp only [List.length_map,ne_eq,hcs] at hc) <;> try (exfalso;omega)))
 refine ⟨⟨(by first|omega|(simp only [List.length_cons,List.length_nil];omega)),⟨_,h.next (q:=q) hq (s.core q) (L.bufs.getD q 0) (s.mem) (s.prints ++ [PrintS.mk did.core ((s.core q).reg i.a.toNat)]) (by first|omega|(simp only [List.length_cons,List.length_nil];omega)) (by first|exact .inl rfl|(right;omega)) ⟨_,_,aRow,(by simp)⟩ ⟨_,_,aRow,(rows_same h hq).symm⟩ ⟨_,_,aRow,rfl⟩ ⟨_,_,aRow,(by rw [List.map_append];rfl)⟩ ⟨_,_,aRow,rfl⟩ (by intro j hj hne hlt n1 n2 n3 n4 n5;have x5:=(Lay.out hd.out (q:=j) (by rw [h.lens];exact hj)).2.2.2.2;repeat (first|exact rfl|(exact hfr _ (by omega) (by omega))|(refine Eq.trans (getH_skipEq (by first|omega|(simp only [List.length_cons,List.length_nil];omega))) ?_)))⟩,⟨_,aRow⟩,(by intro b' hb' hout hne;obtain ⟨o1,o2,o3,o4,o5⟩:=Lay.out hout (q:=q) (by rw [h.lens];exact hq);repeat (first|exact rfl|(exact hfr _ (by omega) (by omega))|(refine Eq.trans (getH_skipEq (by first|omega|(simp only [List.length_cons,List.length_nil];omega))) ?_)))⟩⟩
def doStore (s:Mach) (q:Nat) (i:Instr) (did:DidS):Mach × DidS:=(s.setCore q { s.core q with buf:=(s.core q).buf ++ [StoreS.mk did.pc i.addr ((s.core q).reg i.a.toNat)] },{ did with kind:=3,addr:=i.addr,word:=(s.core q).reg i.a.toNat })
set_option maxHeartbeats 4000000 in
theorem store_call {o:Obj} {s:Mach} {L:Lay} {H:Hp} {nx:Nat} (h:MAt o s L H nx) {q:Nat} (hq:q < s.cores.length) {d:Nat} {did:DidS} (hd:DidAt L H nx d did) (i:Instr) (hA:0 ≤ i.a∧i.a < 16) (hbl:(s.cores.getD q default).buf.length < 1000) :
  CallN Tryz.prog 90 [turnAv s L q d i] H nx (Turned o L H nx d (doStore s q i did).1 (doStore s q i did).2):=by
 refine Go.fnL lf90 rfl ?_
 obtain ⟨dm,hm⟩:=h.m
 obtain ⟨dc,hc⟩:=h.c
 obtain ⟨dmem,hmem⟩:=h.mem
 obtain ⟨dpr,hpr⟩:=h.pr
 obtain ⟨db,hb⟩:=h.bufs q hq
 obtain ⟨dd,hdr⟩:=hd.row
 obtain ⟨a1,a2,a3,a4,a5,a6,a7,a8,a9,a10⟩:=h.apart hq
 obtain ⟨l1,l2,l3,l4,l5⟩:=h.lts hq
 obtain ⟨d1,d2,d3,d4,d5⟩:=Lay.out hd.out (q:=q) (by rw [h.lens];exact hq)
 have hdl:=hd.lt
 have hel:=rows_len h
 have hei:=rows_at h hq
 rw [didRow] at hdr
 repeat' (first|((with_reducible refine Go.red ?_);conv => whnf)|refine aG ?_|exact aC|with_reducible refine Go.and ?_ ?_|(apply Go.elem;(·(first|exact hei _|exact reg_at _ _ _ hA|exact aElem)))|refine aH ?_|((with_reducible refine Go.bool ?_ ?_) <;> intro hc <;> (try simp only [List.length_map,ne_eq,hcs] at hc) <;> try (exfalso;omega)))
 refine ⟨⟨(by first|omega|(simp only [List.length_cons,List.length_nil];omega)),⟨_,h.next (q:=q) hq ({ s.core q with buf:=(s.core q).buf ++ [StoreS.mk did.pc i.addr ((s.core q).reg i.a.toNat)] }) (L.bufs.getD q 0) (s.mem) (s.prints) (by first|omega|(simp only [List.length_cons,List.length_nil];omega)) (by first|exact .inl rfl|(right;omega)) ⟨_,_,aRow,rfl⟩ ⟨_,_,aRow,(by simp only [CoreS.av,List.length_append];rfl)⟩ ⟨_,_,aRow,rfl⟩ ⟨_,_,aRow,rfl⟩ ⟨_,_,aRow,(by rw [List.map_append];rfl)⟩ (by intro j hj hne hlt n1 n2 n3 n4 n5;have x5:=(Lay.out hd.out (q:=j) (by rw [h.lens];exact hj)).2.2.2.2;repeat (first|exact rfl|(exact hfr _ (by omega) (by omega))|(refine Eq.trans (getH_skipEq (by first|omega|(simp only [List.length_cons,List.length_nil];omega))) ?_)))⟩,⟨_,aRow⟩,(by intro b' hb' hout hne;obtain ⟨o1,o2,o3,o4,o5⟩:=Lay.out hout (q:=q) (by rw [h.lens];exact hq);repeat (first|exact rfl|(exact hfr _ (by omega) (by omega))|(refine Eq.trans (getH_skipEq (by first|omega|(simp only [List.length_cons,List.length_nil];omega))) ?_)))⟩⟩
def doSwap (s:Mach) (q:Nat) (i:Instr) (did:DidS):Mach × DidS:=({ s.setCore q ((s.core q).put i.d (s.mem.getD i.addr.toNat 0)) with mem:=s.mem.set i.addr.toNat ((s.core q).reg i.d.toNat) },{ did with kind:=4,addr:=i.addr,word:=s.mem.getD i.addr.toNat 0,put:=(s.core q).reg i.d.toNat })
set_option maxHeartbeats 4000000 in
theorem swap_call {o:Obj} {s:Mach} {L:Lay} {H:Hp} {nx:Nat} (h:MAt o s L H nx) {q:Nat} (hq:q < s.cores.length) {d:Nat} {did:DidS} (hd:DidAt L H nx d did) (i:Instr) (hD:0 ≤ i.d∧i.d < 16) (hM:0 ≤ i.addr∧i.addr < s.mem.length) :
  CallN Tryz.prog 91 [turnAv s L q d i] H nx (Turned o L H nx d (doSwap s q i did).1 (doSwap s q i did).2):=by
 refine Go.fnL lf91 rfl ?_
 obtain ⟨dm,hm⟩:=h.m
 obtain ⟨dc,hc⟩:=h.c
 obtain ⟨dmem,hmem⟩:=h.mem
 obtain ⟨dpr,hpr⟩:=h.pr
 obtain ⟨db,hb⟩:=h.bufs q hq
 obtain ⟨dd,hdr⟩:=hd.row
 obtain ⟨a1,a2,a3,a4,a5,a6,a7,a8,a9,a10⟩:=h.apart hq
 obtain ⟨l1,l2,l3,l4,l5⟩:=h.lts hq
 obtain ⟨d1,d2,d3,d4,d5⟩:=Lay.out hd.out (q:=q) (by rw [h.lens];exact hq)
 have hdl:=hd.lt
 have hel:=rows_len h
 have hei:=rows_at h hq
 rw [didRow] at hdr
 repeat' (first|((with_reducible refine Go.red ?_);conv => whnf)|refine aG ?_|exact aC|with_reducible refine Go.and ?_ ?_|(apply Go.elem;(·(first|exact hei _|exact reg_at _ _ _ hD|exact aElem)))|refine aH ?_|((with_reducible refine Go.bool ?_ ?_) <;> intro hc <;> (try simp only [List.length_map,ne_eq,hcs] at hc) <;> try (exfalso;omega)))
 refine ⟨⟨(by first|omega|(simp only [List.length_cons,List.length_nil];omega)),⟨_,h.next (q:=q) hq ((s.core q).put i.d (s.mem.getD i.addr.toNat 0)) (L.bufs.getD q 0) (s.mem.set i.addr.toNat ((s.core q).reg i.d.toNat)) (s.prints) (by first|omega|(simp only [List.length_cons,List.length_nil];omega)) (by first|exact .inl rfl|(right;omega)) ⟨_,_,aRow,(by simp)⟩ ⟨_,_,aRow,(by rw [CoreS.av,← put_cells _ _ _ _ hD];rfl)⟩ ⟨_,_,aRow,(by simp [List.map_set])⟩ ⟨_,_,aRow,rfl⟩ ⟨_,_,aRow,rfl⟩ (by intro j hj hne hlt n1 n2 n3 n4 n5;have x5:=(Lay.out hd.out (q:=j) (by rw [h.lens];exact hj)).2.2.2.2;repeat (first|exact rfl|(exact hfr _ (by omega) (by omega))|(refine Eq.trans (getH_skipEq (by first|omega|(simp only [List.length_cons,List.length_nil];omega))) ?_)))⟩,⟨_,aRow⟩,(by intro b' hb' hout hne;obtain ⟨o1,o2,o3,o4,o5⟩:=Lay.out hout (q:=q) (by rw [h.lens];exact hq);repeat (first|exact rfl|(exact hfr _ (by omega) (by omega))|(refine Eq.trans (getH_skipEq (by first|omega|(simp only [List.length_cons,List.length_nil];omega))) ?_)))⟩⟩
end Go.Proofs.YtflicfkgbjmffaaGreat.V
/- What a load does. -/
namespace Go.Proofs.YtflicfkgbjmffaaGreat.V
open Go Go.Abs Go.Proofs
set_option linter.unusedSimpArgs false
set_option linter.unusedVariables false
def seenF (a:Int):List StoreS→Int × Bool→Int × Bool
 | [],r => r
 | x :: t,r => seenF a t (if x.addr = a then (x.word,true) else r)
def doLoad (s:Mach) (q:Nat) (i:Instr) (did:DidS):Mach × DidS :=
 let r:=seenF i.addr (s.core q).buf (s.mem.getD i.addr.toNat 0,did.own)
 (s.setCore q ((s.core q).put i.d r.1),{ did with kind:=2,addr:=i.addr,word:=r.1,own:=r.2 })
set_option maxHeartbeats 4000000 in
theorem load_call {o:Obj} {s:Mach} {L:Lay} {H:Hp} {nx:Nat} (h:MAt o s L H nx) {q:Nat} (hq:q < s.cores.length) {d:Nat} {did:DidS} (hd:DidAt L H nx d did) (i:Instr) (hD:0 ≤ i.d∧i.d < 16) (hM:0 ≤ i.addr∧i.addr < s.mem.length) (hbl:(s.cores.getD q default).buf.length < 1000) :
  CallN Tryz.prog 89 [turnAv s L q d i] H nx (Turned o L H nx d (doLoad s q i did).1 (doLoad s q i did).2):=by
 refine Go.fnL lf89 rfl ?_
 obtain ⟨dm,hm⟩:=h.m
 obtain ⟨dc,hc⟩:=h.c
 obtain ⟨dmem,hmem⟩:=h.mem
 obtain ⟨dpr,hpr⟩:=h.pr
 obtain ⟨db,hb⟩:=h.bufs q hq
 obtain ⟨dd,hdr⟩:=hd.row
 obtain ⟨a1,a2,a3,a4,a5,a6,a7,a8,a9,a10⟩:=h.apart hq
 obtain ⟨l1,l2,l3,l4,l5⟩:=h.lts hq
 obtain ⟨d1,d2,d3,d4,d5⟩:=Lay.out hd.out (q:=q) (by rw [h.lens];exact hq)
 have hdl:=hd.lt
 have hel:=rows_len h
 have hei:=rows_at h hq
 rw [didRow] at hdr
 repeat' (first|((with_reducible refine Go.red ?_);conv => whnf)|refine aG ?_|exact aC|with_reducible refine Go.and ?_ ?_|(apply Go.elem;(·(first|exact hei _|exact reg_at _ _ _ hD|exact aElem)))|refine aH ?_|((with_reducible refine Go.bool ?_ ?_) <;> intro hc <;> (try simp only [List.length_map,ne_eq,hcs] at hc) <;> try (exfalso;omega)))
 refine Go.loop (fun k:Nat => [(1,.pt nx 1 0 0),(33,.sl (L.bufs.getD q 0) (s.cores.getD q default).buf.length),(34,i64 (s.cores.getD q default).buf.length),(35,i64 k)]) (fun k H' n => k ≤ (s.cores.getD q default).buf.length∧nx + 1 ≤ n∧getH H' nx = some (.row 161 12 .any [turnAv s L q d i])∧(∃ w own,getH H' d = some (didRow { did with kind:=2,addr:=i.addr,word:=w,own:=own } dd)∧seenF i.addr (s.cores.getD q default).buf (s.mem.getD i.addr.toNat 0,did.own) = seenF i.addr ((s.cores.getD q default).buf.drop k) (w,own))∧∀ b,b < nx→b ≠ d→getH H' b = getH H b) (fun k => (s.cores.getD q default).buf.length - k) 0 aLess ⟨Nat.zero_le _,by first|omega|(simp only [List.length_cons,List.length_nil];omega),aRow,⟨_,_,aRow,rfl⟩,(by intro b' hb' hne;repeat (first|exact rfl|(refine Eq.trans (getH_skipEq (by omega)) ?_)))⟩ ?_
 rintro k H' n ⟨hk,hn,hx,⟨w,own,hdr2,hs⟩,hfr⟩
 rw [didRow] at hdr2
 have hm2:=(hfr _ l1 (Ne.symm d1)).trans hm
 have hc2:=(hfr _ l2 (Ne.symm d2)).trans hc
 have hb2:=(hfr _ l5 (Ne.symm d5)).trans hb
 have hmem2:=(hfr _ l3 (Ne.symm d3)).trans hmem
 have hpr2:=(hfr _ l4 (Ne.symm d4)).trans hpr
 clear hm hc hb hdr hmem hpr
 repeat' (first|((with_reducible refine Go.red ?_);conv => whnf)|refine aG ?_|exact aC|with_reducible refine Go.and ?_ ?_|(apply Go.elem;(·(first|exact hei _|exact reg_at _ _ _ hD|exact aElem)))|refine aH ?_|((with_reducible refine Go.bool ?_ ?_) <;> intro hc <;> (try simp only [List.length_map,ne_eq,hcs] at hc) <;> try (exfalso;omega)))
 ·refine ⟨k + 1,by omega,aLess,by omega,by omega,aRow,⟨((s.cores.getD q default).buf.getD k default).word,true,aRow,?_⟩,(by intro b' hb' hne;repeat (first|exact hfr _ hb' hne|(refine Eq.trans (getH_skipEq (by omega)) ?_)))⟩
  rw [hs,drop_cons (by omega),seenF,if_pos (by first|assumption|simpa using (by assumption))]
 ·refine ⟨k + 1,by omega,aLess,by omega,by omega,aRow,⟨w,own,aRow,?_⟩,(by intro b' hb' hne;repeat (first|exact hfr _ hb' hne|(refine Eq.trans (getH_skipEq (by omega)) ?_)))⟩
  rw [hs,drop_cons (by omega),seenF,if_neg (by assumption)]
 ·have he:seenF i.addr (s.core q).buf (s.mem.getD i.addr.toNat 0,did.own) = (w,own):=by
   show seenF i.addr (s.cores.getD q default).buf _ = _
   rw [hs,List.drop_eq_nil_of_le (by omega),seenF]
  simp only [doLoad,he]
  refine ⟨⟨(by first|omega|(simp only [List.length_cons,List.length_nil];omega)),⟨_,h.next (q:=q) hq ((s.core q).put i.d w) (L.bufs.getD q 0) (s.mem) (s.prints) (by first|omega|(simp only [List.length_cons,List.length_nil];omega)) (by first|exact .inl rfl|(right;omega)) ⟨_,_,aRow,rfl⟩ ⟨_,_,aRow,(by rw [CoreS.av,← put_cells _ _ _ _ hD];rfl)⟩ ⟨_,_,aRow,rfl⟩ ⟨_,_,aRow,rfl⟩ ⟨_,_,aRow,rfl⟩ (by intro j hj hne hlt n1 n2 n3 n4 n5;have x5:=(Lay.out hd.out (q:=j) (by rw [h.lens];exact hj)).2.2.2.2;repeat (first|exact rfl|(exact hfr _ (by omega) (by omega))|(refine Eq.trans (getH_skipEq (by first|omega|(simp only [List.length_cons,List.length_nil];omega))) ?_)))⟩,⟨_,aRow⟩,(by intro b' hb' hout hne;obtain ⟨o1,o2,o3,o4,o5⟩:=Lay.out hout (q:=q) (by rw [h.lens];exact hq);repeat (first|exact rfl|(exact hfr _ (by omega) (by omega))|(refine Eq.trans (getH_skipEq (by first|omega|(simp only [List.length_cons,List.length_nil];omega))) ?_)))⟩⟩
end Go.Proofs.YtflicfkgbjmffaaGreat.V
end
