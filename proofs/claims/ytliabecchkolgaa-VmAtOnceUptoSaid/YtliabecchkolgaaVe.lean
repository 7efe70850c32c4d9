/- A machine at its place. -/
import Derived.Test.YtliabecchkolgaaVd
namespace Go.Proofs.Ytliabecchkolgaa
open Go Go.Abs Go.Proofs
set_option linter.unusedSimpArgs false
structure StoreS where
  pc : Int
  addr : Int
  word : Int
  deriving Inhabited, DecidableEq
abbrev StoreS.av (s : StoreS) : AV := .agg [i64 s.pc, i64 s.addr, i64 s.word]
structure CoreS where
  pc : Int
  halted : Bool
  reg : Nat → Int
  buf : List StoreS
  deriving Inhabited
def CoreS.cells (c : CoreS) (v : AV) : List AV := [i64 c.pc, bl c.halted, i64 (c.reg 0), i64 (c.reg 1), i64 (c.reg 2), i64 (c.reg 3), i64 (c.reg 4), i64 (c.reg 5), i64 (c.reg 6), i64 (c.reg 7), i64 (c.reg 8), i64 (c.reg 9), i64 (c.reg 10), i64 (c.reg 11), i64 (c.reg 12), i64 (c.reg 13), i64 (c.reg 14), i64 (c.reg 15), v]
abbrev CoreS.av (c : CoreS) (b : Nat) : AV := .agg (c.cells (.sl b c.buf.length))
def setReg (f : Nat → Int) (k : Int) (w : Int) : Nat → Int := fun j => if j = k.toNat then w else f j
def CoreS.put (c : CoreS) (k : Int) (w : Int) : CoreS := { c with reg := setReg c.reg k w }
structure DidS where
  kind : Int
  core : Int
  pc : Int
  addr : Int
  word : Int
  put : Int
  own : Bool
  deriving Inhabited, DecidableEq
abbrev DidS.av (d : DidS) : AV := .agg [u8 d.kind, i64 d.core, i64 d.pc, i64 d.addr, i64 d.word, i64 d.put, bl d.own]
structure PrintS where
  thread : Int
  word : Int
  deriving Inhabited, DecidableEq
abbrev PrintS.av (p : PrintS) : AV := .agg [i64 p.thread, i64 p.word]
structure Mach where
  cores : List CoreS
  mem : List Int
  prints : List PrintS
  deriving Inhabited
structure Lay where
  m : Nat
  c : Nat
  mem : Nat
  pr : Nat
  bufs : List Nat
def Lay.ids (L : Lay) : List Nat := L.m :: L.c :: L.mem :: L.pr :: L.bufs
abbrev machAv (o : Obj) (s : Mach) (L : Lay) : AV := .agg [.sc (.slice none 0 0), i64 o.shared, i64 o.locks, i64 o.buffer, .im 2 .any (o.cores.map Core.av), .sl L.c s.cores.length, .sl L.mem s.mem.length, .sl L.pr s.prints.length]
def rows (s : Mach) (L : Lay) : List AV := List.zipWith CoreS.av s.cores L.bufs
structure MAt (o : Obj) (s : Mach) (L : Lay) (H : Hp) (nx : Nat) : Prop where
  m : ∃ d, getH H L.m = some (.row 103 8 d [machAv o s L])
  c : ∃ d, getH H L.c = some (.row 98 19 d (rows s L))
  mem : ∃ d, getH H L.mem = some (.row 2 1 d (s.mem.map i64))
  pr : ∃ d, getH H L.pr = some (.row 75 2 d (s.prints.map PrintS.av))
  bufs : ∀ i, i < s.cores.length → ∃ d, getH H (L.bufs.getD i 0) = some (.row 51 3 d ((s.cores.getD i default).buf.map StoreS.av))
  lens : L.bufs.length = s.cores.length
  lt : ∀ b ∈ L.ids, b < nx
  nodup : L.ids.Nodup
/-- From this layout to that one: what is new is new. -/
structure Moves (L L' : Lay) (nx : Nat) : Prop where
  m : L'.m = L.m
  ids : ∀ b ∈ L'.ids, b ∈ L.ids ∨ nx ≤ b
theorem Moves.refl (L : Lay) (nx : Nat) : Moves L L nx := ⟨rfl, fun _ h => .inl h⟩
theorem Moves.trans {L L' L'' : Lay} {n n' : Nat} (h : Moves L L' n) (h' : Moves L' L'' n') (hn : n ≤ n') : Moves L L'' n := by
  refine ⟨h'.m.trans h.m, fun b hb => ?_⟩
  rcases h'.ids b hb with h1 | h1
  · exact h.ids b h1
  · exact .inr (by omega)
structure Apart (L : Lay) (q : Nat) : Prop where
  mc : L.m ≠ L.c
  mmem : L.m ≠ L.mem
  mpr : L.m ≠ L.pr
  cmem : L.c ≠ L.mem
  cpr : L.c ≠ L.pr
  mempr : L.mem ≠ L.pr
  mb : L.m ≠ L.bufs.getD q 0
  cb : L.c ≠ L.bufs.getD q 0
  memb : L.mem ≠ L.bufs.getD q 0
  prb : L.pr ≠ L.bufs.getD q 0
theorem Lay.mem_buf {L : Lay} {q : Nat} (h : q < L.bufs.length) : L.bufs.getD q 0 ∈ L.bufs := by
  have : L.bufs.getD q 0 = L.bufs[q] := by simp [List.getD, h]
  rw [this]; exact List.getElem_mem h
theorem MAt.apart {o : Obj} {s : Mach} {L : Lay} {H : Hp} {nx : Nat} (h : MAt o s L H nx) {q : Nat} (hq : q < s.cores.length) : Apart L q := by
  have hb := Lay.mem_buf (L := L) (q := q) (by rw [h.lens]; exact hq)
  have hn := h.nodup
  simp only [Lay.ids, List.nodup_cons, List.mem_cons, not_or] at hn
  obtain ⟨⟨h1, h2, h3, h4⟩, ⟨h5, h6, h7⟩, ⟨h8, h9⟩, h10, h11⟩ := hn
  exact ⟨h1, h2, h3, h5, h6, h8, fun h => h4 (h ▸ hb), fun h => h7 (h ▸ hb), fun h => h9 (h ▸ hb), fun h => h10 (h ▸ hb)⟩
theorem MAt.other {o : Obj} {s : Mach} {L : Lay} {H : Hp} {nx : Nat} (h : MAt o s L H nx) {q j : Nat} (hq : q < s.cores.length) (hj : j < s.cores.length) (hne : j ≠ q) : L.bufs.getD j 0 ≠ L.bufs.getD q 0 := by
  have hn := h.nodup
  simp only [Lay.ids, List.nodup_cons] at hn
  have hb : L.bufs.Nodup := hn.2.2.2.2
  have e1 : L.bufs.getD j 0 = L.bufs[j]'(by rw [h.lens]; exact hj) := by simp [List.getD, h.lens, hj]
  have e2 : L.bufs.getD q 0 = L.bufs[q]'(by rw [h.lens]; exact hq) := by simp [List.getD, h.lens, hq]
  rw [e1, e2]
  have hp := List.pairwise_iff_getElem.1 hb
  rcases Nat.lt_or_gt_of_ne hne with h1 | h1
  · exact hp _ _ _ _ h1
  · exact (hp _ _ _ _ h1).symm
structure Lts (L : Lay) (q nx : Nat) : Prop where
  m : L.m < nx
  c : L.c < nx
  mem : L.mem < nx
  pr : L.pr < nx
  b : L.bufs.getD q 0 < nx
theorem MAt.lts {o : Obj} {s : Mach} {L : Lay} {H : Hp} {nx : Nat} (h : MAt o s L H nx) {q : Nat} (hq : q < s.cores.length) : Lts L q nx := by
  have hb := Lay.mem_buf (L := L) (q := q) (by rw [h.lens]; exact hq)
  constructor <;> refine h.lt _ ?_ <;> simp [Lay.ids]
  exact .inr (.inr (.inr (.inr (by simpa using hb))))
@[simp] theorem rows_len {o : Obj} {s : Mach} {L : Lay} {H : Hp} {nx : Nat} (h : MAt o s L H nx) : (rows s L).length = s.cores.length := by
  simp [rows, h.lens]
theorem rows_at {o : Obj} {s : Mach} {L : Lay} {H : Hp} {nx : Nat} (h : MAt o s L H nx) {q : Nat} (hq : q < s.cores.length) (d : AV) : (rows s L).getD q d = (s.cores.getD q default).av (L.bufs.getD q 0) := by
  have h2 : q < L.bufs.length := by rw [h.lens]; exact hq
  have h3 : q < (rows s L).length := by rw [rows_len h]; exact hq
  rw [List.getD, List.getElem?_eq_getElem h3]
  simp [rows, List.getD, hq, h2]
theorem rows_set {s : Mach} {L : Lay} {q : Nat} (c : CoreS) (b : Nat) (mem : List Int) (pr : List PrintS) : rows ⟨s.cores.set q c, mem, pr⟩ { L with bufs := L.bufs.set q b } = (rows s L).set q (c.av b) := by
  simp only [rows]
  apply List.ext_getElem
  · simp
  · intro i h1 h2
    simp only [List.getElem_zipWith, List.getElem_set]
    by_cases h : q = i <;> simp [h]
theorem nodup_set {l : List Nat} {q b : Nat} (h : l.Nodup) (hb : b ∉ l) : (l.set q b).Nodup := by
  refine List.pairwise_iff_getElem.2 fun i j hi hj hij => ?_
  have hp := List.pairwise_iff_getElem.1 h
  simp only [List.length_set] at hi hj
  simp only [List.getElem_set]
  by_cases e1 : q = i
  · rw [if_pos e1, if_neg (by omega)]
    intro he; exact hb (he ▸ List.getElem_mem hj)
  · rw [if_neg e1]
    by_cases e2 : q = j
    · rw [if_pos e2]
      intro he; exact hb (he ▸ List.getElem_mem hi)
    · rw [if_neg e2]; exact hp _ _ _ _ hij
/-- One core's part has turned. -/
theorem MAt.next {o : Obj} {s : Mach} {L : Lay} {H H' : Hp} {nx nx' : Nat} (h : MAt o s L H nx) {q : Nat} (hq : q < s.cores.length) (c : CoreS) (b : Nat) (mem : List Int) (pr : List PrintS)
    (hn : nx ≤ nx') (hb : b = L.bufs.getD q 0 ∨ (nx ≤ b ∧ b < nx'))
    (h1 : ∃ d es, getH H' L.m = some (.row 103 8 d es) ∧ es = [.agg [.sc (.slice none 0 0), i64 o.shared, i64 o.locks, i64 o.buffer, .im 2 .any (o.cores.map Core.av), .sl L.c s.cores.length, .sl L.mem mem.length, .sl L.pr pr.length]])
    (h2 : ∃ d es, getH H' L.c = some (.row 98 19 d es) ∧ es = (rows s L).set q (c.av b))
    (h3 : ∃ d es, getH H' L.mem = some (.row 2 1 d es) ∧ es = mem.map i64)
    (h4 : ∃ d es, getH H' L.pr = some (.row 75 2 d es) ∧ es = pr.map PrintS.av)
    (h5 : ∃ d es, getH H' b = some (.row 51 3 d es) ∧ es = c.buf.map StoreS.av)
    (h6 : ∀ j, j < s.cores.length → j ≠ q → L.bufs.getD j 0 < nx → L.bufs.getD j 0 ≠ L.m → L.bufs.getD j 0 ≠ L.c → L.bufs.getD j 0 ≠ L.mem → L.bufs.getD j 0 ≠ L.pr → L.bufs.getD j 0 ≠ L.bufs.getD q 0 → getH H' (L.bufs.getD j 0) = getH H (L.bufs.getD j 0)) :
    MAt o ⟨s.cores.set q c, mem, pr⟩ { L with bufs := L.bufs.set q b } H' nx' ∧ Moves L { L with bufs := L.bufs.set q b } nx := by
  have hqb : q < L.bufs.length := by rw [h.lens]; exact hq
  obtain ⟨e1, _, h1, rfl⟩ := h1
  obtain ⟨e2, _, h2, rfl⟩ := h2
  obtain ⟨e3, _, h3, rfl⟩ := h3
  obtain ⟨e4, _, h4, rfl⟩ := h4
  obtain ⟨e5, _, h5, rfl⟩ := h5
  refine ⟨⟨⟨e1, ?_⟩, ⟨e2, ?_⟩, ⟨_, h3⟩, ⟨_, h4⟩, ?_, ?_, ?_, ?_⟩, ⟨rfl, ?_⟩⟩
  · rw [h1]; simp
  · rw [rows_set]; exact h2
  · intro i hi
    simp only [List.length_set] at hi
    by_cases he : i = q
    · subst he
      simp only [List.getD, List.getElem?_set_self hqb, List.getElem?_set_self hq, Option.getD_some]
      exact ⟨_, h5⟩
    · have e1 : (L.bufs.set q b).getD i 0 = L.bufs.getD i 0 := by simp [List.getD, List.getElem?_set_ne (Ne.symm he)]
      have e2 : (s.cores.set q c).getD i default = s.cores.getD i default := by simp [List.getD, List.getElem?_set_ne (Ne.symm he)]
      have ha := h.apart hi
      simp only [e1, e2]
      rw [h6 i hi he (h.lts hi).b ha.mb.symm ha.cb.symm ha.memb.symm ha.prb.symm (h.other hq hi he)]
      exact h.bufs i hi
  · simp [h.lens]
  · intro x hx
    simp only [Lay.ids, List.mem_cons] at hx
    rcases hx with rfl | rfl | rfl | rfl | hx
    · have := (h.lts hq).m; omega
    · have := (h.lts hq).c; omega
    · have := (h.lts hq).mem; omega
    · have := (h.lts hq).pr; omega
    · rcases List.mem_or_eq_of_mem_set hx with hx | rfl
      · have := h.lt x (by simp [Lay.ids, hx]); omega
      · rcases hb with rfl | hb
        · have := (h.lts hq).b; omega
        · omega
  · have hn := h.nodup
    simp only [Lay.ids, List.nodup_cons, List.mem_cons, not_or] at hn ⊢
    obtain ⟨⟨n1, n2, n3, n4⟩, ⟨n5, n6, n7⟩, ⟨n8, n9⟩, n10, n11⟩ := hn
    have hin : ∀ x, x ∉ L.bufs → x < nx → x ∉ L.bufs.set q b := by
      intro x hx hlt hm
      rcases List.mem_or_eq_of_mem_set hm with h | rfl
      · exact hx h
      · rcases hb with rfl | hb
        · exact hx (Lay.mem_buf hqb)
        · omega
    have hl := h.lts hq
    refine ⟨⟨n1, n2, n3, hin _ n4 hl.m⟩, ⟨n5, n6, hin _ n7 hl.c⟩, ⟨n8, hin _ n9 hl.mem⟩, hin _ n10 hl.pr, ?_⟩
    rcases hb with rfl | hb
    · have : L.bufs.set q (L.bufs.getD q 0) = L.bufs := by
        have e : L.bufs.getD q 0 = L.bufs[q] := by simp [List.getD, hqb]
        rw [e, List.set_getElem_self]
      rw [this]; exact n11
    · exact nodup_set n11 fun hm => by
        have := h.lt b (by simp [Lay.ids, hm])
        omega
  · intro x hx
    simp only [Lay.ids, List.mem_cons] at hx
    rcases hx with rfl | rfl | rfl | rfl | hx
    · exact .inl (by simp [Lay.ids])
    · exact .inl (by simp [Lay.ids])
    · exact .inl (by simp [Lay.ids])
    · exact .inl (by simp [Lay.ids])
    · rcases List.mem_or_eq_of_mem_set hx with hx | rfl
      · exact .inl (by simp [Lay.ids, hx])
      · rcases hb with rfl | hb
        · exact .inl (by simp only [Lay.ids, List.mem_cons]; exact .inr (.inr (.inr (.inr (Lay.mem_buf hqb)))))
        · exact .inr hb.1
theorem rows_same {o : Obj} {s : Mach} {L : Lay} {H : Hp} {nx : Nat} (h : MAt o s L H nx) {q : Nat} (hq : q < s.cores.length) : (rows s L).set q ((s.cores.getD q default).av (L.bufs.getD q 0)) = rows s L := by
  have h3 : q < (rows s L).length := by rw [rows_len h]; exact hq
  have h4 := rows_at h hq .any
  rw [← h4]
  have : (rows s L).getD q .any = (rows s L)[q] := by simp [List.getD, h3]
  rw [this, List.set_getElem_self]
end Go.Proofs.Ytliabecchkolgaa
