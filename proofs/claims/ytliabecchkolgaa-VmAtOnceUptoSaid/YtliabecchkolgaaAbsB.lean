/- What an abstract value says of a value in a world; what stays when the world turns. -/
import Derived.Test.YtliabecchkolgaaAbsA
import Derived.Laws.AppendOwn
namespace Go.Abs
open Go.RowKit

structure Cx where
  ρ : Nat → Option (Nat × Nat × Nat)
  H : Nat → Option Blk
  U : Nat → Prop
  w : World
  M0 : Nat → Prop

/-- The blocks that may still be written. -/
def Cx.M (c : Cx) (blk : Nat) : Prop := c.M0 blk ∨ ∃ b k o z, c.H b = some k ∧ c.ρ b = some (blk, o, z)

/-- A value lies in a row of cells. -/
def At (w : World) (blk o sz : Nat) (v : Value) : Prop :=
  v.cells.size = sz ∧ (∀ j, j < sz → w.cell? ⟨blk, o + j, none⟩ = v.cells[j]?) ∧ (∀ (j : Nat) (u : Value), v.cells[j]? = some u → u.oneCell' = true)

mutual
def VR (c : Cx) : AV → Value → Prop
  | .sc u, v => v = u
  | .any, _ => True
  | .im sz _ es, v => ∃ a cap, v = .slice a es.length cap ∧ es.length ≤ cap ∧ (es = [] ∨ ∃ blk o, a = some ⟨blk, o, none⟩ ∧ 0 < sz ∧ ¬ c.M blk ∧ VRow c sz es blk o)
  | .ip sz _ es i off, v => i < es.length ∧ off < sz ∧ ∃ blk o, v = .pointer (some ⟨blk, o + i * sz + off, none⟩) ∧ ¬ c.M blk ∧ VRow c sz es blk o
  | .sl b len, v => c.U b ∧ ∃ a cap, v = .slice a len cap ∧ ∀ e sz d es, c.H b = some (.row e sz d es) → len ≤ es.length ∧
      (es.length = len → (c.ρ b = none ∧ a = none ∧ cap = 0) ∨ ∃ blk o z, c.ρ b = some (blk, o, z) ∧ a = some ⟨blk, o, none⟩ ∧ len ≤ cap ∧ cap * sz ≤ z ∧ cap ≤ maxLen)
  | .pt b len i off, v => c.U b ∧ i < len ∧ ∃ a, v = .pointer (some a) ∧ ∀ e sz d es, c.H b = some (.row e sz d es) → len ≤ es.length ∧
      (es.length = len → off < sz ∧ ∃ blk o z, c.ρ b = some (blk, o, z) ∧ a = ⟨blk, o + i * sz + off, none⟩)
  | .zc, v => ∃ a, v = .slice a 0 0
  | .agg cs, v => ∃ vs, v = .agg vs ∧ VRs c cs vs.toList
  | .tup cs, v => ∃ vs, v = .tuple vs ∧ VRs c cs vs.toList
  | .fn f p q, v => ∃ ps qs, v = .func f ps qs ∧ VRs c p ps.toList ∧ VRs c q qs.toList
  | .ifc t x, v => ∃ u, v = .iface t u ∧ VR c x u
  | .mp _, _ => False
  | .ab, v => ∃ t, v = .bool t
  | .sv b len lo n, v => c.U b ∧ lo + n ≤ len ∧ ∃ a cap, v = .slice a n cap ∧ n ≤ cap ∧ ∀ e sz d es, c.H b = some (.row e sz d es) → len ≤ es.length ∧
      (es.length = len → n = 0 ∨ ∃ blk o z, c.ρ b = some (blk, o, z) ∧ a = some ⟨blk, o + lo * sz, none⟩)
def VRow (c : Cx) (sz : Nat) : List AV → Nat → Nat → Prop
  | [], _, _ => True
  | e :: es, blk, o => (∃ v, At c.w blk o sz v ∧ VR c e v) ∧ VRow c sz es blk (o + sz)
def VRs (c : Cx) : List AV → List Value → Prop
  | [], vs => vs = []
  | a :: as, vs => ∃ v vs', vs = v :: vs' ∧ VR c a v ∧ VRs c as vs'
end

theorem VRow_get {c : Cx} {sz : Nat} : ∀ {es : List AV} {blk o : Nat}, VRow c sz es blk o → ∀ i, i < es.length → ∃ v, At c.w blk (o + i * sz) sz v ∧ VR c (es.getD i .any) v
  | [], _, _, _, i, hi => absurd hi (by simp)
  | e :: es, blk, o, h, i, hi => by
    rw [VRow] at h
    cases i with
    | zero => simpa using h.1
    | succ i =>
      obtain ⟨v, hv, hr⟩ := VRow_get h.2 i (by simpa using hi)
      exact ⟨v, by rw [show o + (i + 1) * sz = o + sz + i * sz by rw [Nat.add_mul]; omega]; exact hv, by simpa using hr⟩
theorem VRow_mk {c : Cx} {sz : Nat} : ∀ {es : List AV} {blk o : Nat}, (∀ i, i < es.length → ∃ v, At c.w blk (o + i * sz) sz v ∧ VR c (es.getD i .any) v) → VRow c sz es blk o
  | [], _, _, _ => by rw [VRow]; trivial
  | e :: es, blk, o, h => by
    rw [VRow]
    refine ⟨by simpa using h 0 (by simp), VRow_mk fun i hi => ?_⟩
    obtain ⟨v, hv, hr⟩ := h (i + 1) (by simpa using hi)
    exact ⟨v, by rw [show o + sz + i * sz = o + (i + 1) * sz by rw [Nat.add_mul]; omega]; exact hv, by simpa using hr⟩
theorem getD_any {es : List AV} {i : Nat} (d : AV) (h : i < es.length) : es.getD i d = es.getD i .any := by
  simp [List.getD, List.getElem?_eq_getElem h]

/-- What must hold between two contexts for all that is known to stay known. -/
structure Cx.le (c c' : Cx) : Prop where
  U : ∀ b, c.U b → c'.U b
  sz : c.w.heap.size ≤ c'.w.heap.size
  blk : ∀ b, ¬ c.M b → b < c.w.heap.size → c'.w.heap[b]? = c.w.heap[b]? ∧ ¬ c'.M b
  row : ∀ b, c.U b → ∀ e sz d es, c'.H b = some (.row e sz d es) → ∃ e0 d0 es0, c.H b = some (.row e0 sz d0 es0) ∧ ((es0.length = es.length ∧ c'.ρ b = c.ρ b) ∨ es0.length < es.length)

theorem At.lt {w : World} {blk o sz : Nat} {v : Value} (h : At w blk o sz v) (hs : 0 < sz) : blk < w.heap.size := by
  obtain ⟨h1, h2, _⟩ := h
  have := h2 0 hs
  rw [Array.getElem?_eq_getElem (by omega)] at this
  exact World.block_lt_of_cell? w ⟨blk, o + 0, none⟩ this

theorem At.keep {w w' : World} {blk o sz : Nat} {v : Value} (h : At w blk o sz v) (hb : w'.heap[blk]? = w.heap[blk]?) : At w' blk o sz v :=
  ⟨h.1, fun j hj => by rw [← h.2.1 j hj]; exact World.cell?_of_block (a := ⟨blk, o + j, none⟩) hb, h.2.2⟩

/-- A block of which nothing is read need not be there: a row of elements without cells. -/
theorem VRow_lt {c : Cx} {sz : Nat} {es : List AV} {blk o : Nat} (hs : 0 < sz) (hne : es ≠ []) (h : VRow c sz es blk o) : blk < c.w.heap.size := by
  cases es with
  | nil => exact absurd rfl hne
  | cons e es =>
    rw [VRow] at h
    obtain ⟨⟨v, hv, _⟩, _⟩ := h
    exact hv.lt hs

mutual
theorem VR.keep {c c' : Cx} (h : c.le c') : ∀ {a : AV} {v : Value}, VR c a v → VR c' a v
  | .sc u, v, hv => by rw [VR] at hv ⊢; exact hv
  | .any, _, _ => by rw [VR]; trivial
  | .im sz d es, v, hv => by
    rw [VR] at hv ⊢
    obtain ⟨a, cap, rfl, hc, hr⟩ := hv
    refine ⟨a, cap, rfl, hc, ?_⟩
    rcases hr with h0 | ⟨blk, o, rfl, hz, hm, hr⟩
    · exact .inl h0
    · by_cases h0 : es = []
      · exact .inl h0
      · obtain ⟨h1, h2⟩ := h.blk blk hm (VRow_lt hz h0 hr)
        exact .inr ⟨blk, o, rfl, hz, h2, VRow.keep h h1 hr⟩
  | .ip sz d es i off, v, hv => by
    rw [VR] at hv ⊢
    obtain ⟨hi, ho, blk, o, rfl, hm, hr⟩ := hv
    obtain ⟨h1, h2⟩ := h.blk blk hm (VRow_lt (by omega) (by intro e; rw [e] at hi; simp at hi) hr)
    exact ⟨hi, ho, blk, o, rfl, h2, VRow.keep h h1 hr⟩
  | .sl b len, v, hv => by
    rw [VR] at hv ⊢
    obtain ⟨hb, a, cap, rfl, hr⟩ := hv
    refine ⟨h.U _ hb, a, cap, rfl, fun e sz d es he => ?_⟩
    obtain ⟨e0, d0, es0, h0, hor⟩ := h.row b hb e sz d es he
    obtain ⟨h1, h2⟩ := hr _ _ _ _ h0
    rcases hor with ⟨hl, hρ⟩ | hl
    · rw [hl] at h1 h2
      rw [hρ]
      exact ⟨h1, h2⟩
    · exact ⟨by omega, fun he => by omega⟩
  | .pt b len i off, v, hv => by
    rw [VR] at hv ⊢
    obtain ⟨hb, hi, a, rfl, hr⟩ := hv
    refine ⟨h.U _ hb, hi, a, rfl, fun e sz d es he => ?_⟩
    obtain ⟨e0, d0, es0, h0, hor⟩ := h.row b hb e sz d es he
    obtain ⟨h1, h2⟩ := hr _ _ _ _ h0
    rcases hor with ⟨hl, hρ⟩ | hl
    · rw [hl] at h1 h2
      rw [hρ]
      exact ⟨h1, h2⟩
    · exact ⟨by omega, fun he => by omega⟩
  | .zc, v, hv => by rw [VR] at hv ⊢; exact hv
  | .agg cs, v, hv => by
    rw [VR] at hv ⊢
    obtain ⟨vs, rfl, hr⟩ := hv
    exact ⟨vs, rfl, VRs.keep h hr⟩
  | .tup cs, v, hv => by
    rw [VR] at hv ⊢
    obtain ⟨vs, rfl, hr⟩ := hv
    exact ⟨vs, rfl, VRs.keep h hr⟩
  | .fn f p q, v, hv => by
    rw [VR] at hv ⊢
    obtain ⟨ps, qs, rfl, h1, h2⟩ := hv
    exact ⟨ps, qs, rfl, VRs.keep h h1, VRs.keep h h2⟩
  | .ifc t x, v, hv => by
    rw [VR] at hv ⊢
    obtain ⟨u, rfl, h1⟩ := hv
    exact ⟨u, rfl, VR.keep h h1⟩
  | .mp b, v, hv => by rw [VR] at hv; exact hv.elim
  | .ab, v, hv => by rw [VR] at hv ⊢; exact hv
  | .sv b len lo n, v, hv => by
    rw [VR] at hv ⊢
    obtain ⟨hb, hi, a, cap, rfl, hc, hr⟩ := hv
    refine ⟨h.U _ hb, hi, a, cap, rfl, hc, fun e sz d es he => ?_⟩
    obtain ⟨e0, d0, es0, h0, hor⟩ := h.row b hb e sz d es he
    obtain ⟨h1, h2⟩ := hr _ _ _ _ h0
    rcases hor with ⟨hl, hρ⟩ | hl
    · rw [hl] at h1 h2
      rw [hρ]
      exact ⟨h1, h2⟩
    · exact ⟨by omega, fun he => by omega⟩
theorem VRow.keep {c c' : Cx} (h : c.le c') {sz : Nat} {blk : Nat} (hb : c'.w.heap[blk]? = c.w.heap[blk]?) : ∀ {es : List AV} {o : Nat}, VRow c sz es blk o → VRow c' sz es blk o
  | [], _, _ => by rw [VRow]; trivial
  | e :: es, o, hr => by
    rw [VRow] at hr ⊢
    obtain ⟨⟨v, h1, h2⟩, h3⟩ := hr
    exact ⟨⟨v, h1.keep hb, VR.keep h h2⟩, VRow.keep h hb h3⟩
theorem VRs.keep {c c' : Cx} (h : c.le c') : ∀ {as : List AV} {vs : List Value}, VRs c as vs → VRs c' as vs
  | [], vs, hv => by rw [VRs] at hv ⊢; exact hv
  | a :: as, vs, hv => by
    rw [VRs] at hv ⊢
    obtain ⟨v, vs', rfl, h1, h2⟩ := hv
    exact ⟨v, vs', rfl, VR.keep h h1, VRs.keep h h2⟩
end


def upd {α : Type} (f : Nat → α) (b : Nat) (v : α) : Nat → α := fun x => if x = b then v else f x
@[simp] theorem upd_same {α : Type} (f : Nat → α) (b : Nat) (v : α) : upd f b v b = v := by simp [upd]
theorem upd_ne {α : Type} (f : Nat → α) {b x : Nat} (v : α) (h : x ≠ b) : upd f b v x = f x := by simp [upd, h]

theorem Cx.le.refl (c : Cx) : c.le c :=
  ⟨fun _ h => h, Nat.le_refl _, fun _ h _ => ⟨rfl, h⟩, fun _ _ _ _ _ _ he => ⟨_, _, _, he, .inl ⟨rfl, rfl⟩⟩⟩
theorem Cx.le.trans {a b c : Cx} (h : a.le b) (k : b.le c) : a.le c :=
  ⟨fun x hx => k.U x (h.U x hx), Nat.le_trans h.sz k.sz, fun x hx hl => by
    obtain ⟨h1, h2⟩ := h.blk x hx hl
    obtain ⟨k1, k2⟩ := k.blk x h2 (Nat.lt_of_lt_of_le hl h.sz)
    exact ⟨k1.trans h1, k2⟩, fun x hx e sz d es he => by
    obtain ⟨e1, d1, es1, h1, hor⟩ := k.row x (h.U x hx) e sz d es he
    obtain ⟨e2, d2, es2, h2, hor2⟩ := h.row x hx _ _ _ _ h1
    refine ⟨e2, d2, es2, h2, ?_⟩
    rcases hor with ⟨l1, r1⟩ | l1
    · rcases hor2 with ⟨l2, r2⟩ | l2
      · exact .inl ⟨l2.trans l1, r1.trans r2⟩
      · exact .inr (by omega)
    · rcases hor2 with ⟨l2, r2⟩ | l2
      · exact .inr (by omega)
      · exact .inr (by omega)⟩

/-- The world holds what the context says; below 'w0' nothing has turned. -/
structure Sim (w0 : World) (c : Cx) : Prop where
  below : Below w0.heap.size w0 c.w
  m0 : ∀ b, c.M0 b → b < w0.heap.size
  row : ∀ b e sz d es, c.H b = some (.row e sz d es) → c.U b ∧ 0 < sz ∧ ((c.ρ b = none ∧ es = []) ∨
    ∃ blk o z, c.ρ b = some (blk, o, z) ∧ w0.heap.size ≤ blk ∧ (∃ arr, c.w.heap[blk]? = some (.cells arr e (0, 0)) ∧ o + z ≤ arr.size) ∧ es.length * sz ≤ z ∧ VRow c sz es blk o)
  inj : ∀ b b' k k' blk o z o' z', c.H b = some k → c.H b' = some k' → c.ρ b = some (blk, o, z) → c.ρ b' = some (blk, o', z') → b = b'

theorem Sim.ρlt {w0 : World} {c : Cx} (h : Sim w0 c) {b blk o z : Nat} {k : Blk} (hk : c.H b = some k) (hρ : c.ρ b = some (blk, o, z)) : w0.heap.size ≤ blk ∧ blk < c.w.heap.size := by
  obtain ⟨e, sz, d, es⟩ := k
  obtain ⟨_, _, hr⟩ := h.row b e sz d es hk
  rcases hr with ⟨h0, _⟩ | ⟨blk', o', z', hρ', hb, ⟨arr, ha, _⟩, _⟩
  · rw [hρ] at h0; cases h0
  · rw [hρ] at hρ'
    cases hρ'
    exact ⟨hb, (Array.getElem?_eq_some_iff.1 ha).1⟩
theorem Sim.Mlt {w0 : World} {c : Cx} (h : Sim w0 c) {b : Nat} (hb : c.M b) : b < c.w.heap.size := by
  rcases hb with hb | ⟨x, k, o, z, hk, hρ⟩
  · exact Nat.lt_of_lt_of_le (h.m0 b hb) h.below.size
  · exact (h.ρlt hk hρ).2

/-- The world has moved on, and nothing that was there has turned. -/
theorem Sim.world {w0 : World} {c : Cx} (h : Sim w0 c) {w' : World} (hb : Below c.w.heap.size c.w w') : Sim w0 { c with w := w' } ∧ c.le { c with w := w' } := by
  have hle : c.le { c with w := w' } := ⟨fun _ h => h, hb.size, fun b hm hl => ⟨hb.block b hl, hm⟩, fun _ _ _ _ _ _ he => ⟨_, _, _, he, .inl ⟨rfl, rfl⟩⟩⟩
  refine ⟨⟨h.below.trans (hb.mono h.below.size), h.m0, fun b e sz d es he => ?_, h.inj⟩, hle⟩
  obtain ⟨h1, h2, hr⟩ := h.row b e sz d es he
  refine ⟨h1, h2, ?_⟩
  rcases hr with h0 | ⟨blk, o, z, hρ, hbl, ⟨arr, ha, hsz⟩, hlen, hv⟩
  · exact .inl h0
  · have hlt : blk < c.w.heap.size := (Array.getElem?_eq_some_iff.1 ha).1
    exact .inr ⟨blk, o, z, hρ, hbl, ⟨arr, (hb.block blk hlt).trans ha, hsz⟩, hlen, VRow.keep hle (hb.block blk hlt) hv⟩

/-- More names are used. -/
theorem Sim.used {w0 : World} {c : Cx} (h : Sim w0 c) {U : Nat → Prop} (hU : ∀ b, c.U b → U b) : Sim w0 { c with U := U } ∧ c.le { c with U := U } := by
  have hle : c.le { c with U := U } := ⟨hU, Nat.le_refl _, fun b hm _ => ⟨rfl, hm⟩, fun _ _ _ _ _ _ he => ⟨_, _, _, he, .inl ⟨rfl, rfl⟩⟩⟩
  refine ⟨⟨h.below, h.m0, fun b e sz d es he => ?_, h.inj⟩, hle⟩
  obtain ⟨h1, h2, hr⟩ := h.row b e sz d es he
  refine ⟨hU _ h1, h2, ?_⟩
  rcases hr with h0 | ⟨blk, o, z, hρ, hbl, ha, hlen, hv⟩
  · exact .inl h0
  · exact .inr ⟨blk, o, z, hρ, hbl, ha, hlen, VRow.keep hle rfl hv⟩

/-- A row of the call's own is laid, written, or laid anew; it may have come up on the way. -/
theorem Sim.putG {w0 : World} {c : Cx} (h : Sim w0 c) {b : Nat} {e : TypeId} {sz : Nat} (d : AV) {es : List AV} {w' : World} {blk o z : Nat} {arr : Array Value} (hz : 0 < sz)
    (hold : ¬ c.U b ∨ ∃ e0 d0 es0, c.H b = some (.row e0 sz d0 es0) ∧ ((es0.length = es.length ∧ c.ρ b = some (blk, o, z)) ∨ es0.length < es.length))
    (hown : c.w.heap.size ≤ blk ∨ ∃ k o0 z0, c.H b = some k ∧ c.ρ b = some (blk, o0, z0))
    (hos : w'.os = c.w.os) (htp : w'.tape = c.w.tape) (hout : w'.output = c.w.output) (hsz : c.w.heap.size ≤ w'.heap.size)
    (hkeep : ∀ k, k < c.w.heap.size → k ≠ blk → w'.heap[k]? = c.w.heap[k]?)
    (hb : w'.heap[blk]? = some (.cells arr e (0, 0))) (harr : o + z ≤ arr.size) (hlen : es.length * sz ≤ z)
    (hel : c.le { c with ρ := upd c.ρ b (some (blk, o, z)), H := upd c.H b (some (.row e sz d es)), U := fun x => c.U x ∨ x = b, w := w' } → ∀ i, i < es.length → ∃ v, At w' blk (o + i * sz) sz v ∧ VR { c with ρ := upd c.ρ b (some (blk, o, z)), H := upd c.H b (some (.row e sz d es)), U := fun x => c.U x ∨ x = b, w := w' } (es.getD i .any) v) :
    Sim w0 { c with ρ := upd c.ρ b (some (blk, o, z)), H := upd c.H b (some (.row e sz d es)), U := fun x => c.U x ∨ x = b, w := w' } ∧
    c.le { c with ρ := upd c.ρ b (some (blk, o, z)), H := upd c.H b (some (.row e sz d es)), U := fun x => c.U x ∨ x = b, w := w' } := by
  have hlow : w0.heap.size ≤ blk := by
    rcases hown with hge | ⟨k, o0, z0, hk, hρ⟩
    · have := h.below.size; omega
    · exact (h.ρlt hk hρ).1
  have hne : ∀ x, ¬ c.M x → x < c.w.heap.size → x ≠ blk := by
    intro x hm hl e
    subst e
    rcases hown with e | ⟨k, o0, z0, hk, hρ⟩
    · omega
    · exact hm (.inr ⟨b, k, o0, z0, hk, hρ⟩)
  have hother : ∀ x k o' z' blk', x ≠ b → c.H x = some k → c.ρ x = some (blk', o', z') → blk' ≠ blk := by
    intro x k o' z' blk' hx hk hρ e
    subst e
    rcases hown with e | ⟨k', o0, z0, hk', hρ'⟩
    · have := (h.ρlt hk hρ).2; omega
    · exact hx (h.inj x b k k' _ _ _ _ _ hk hk' hρ hρ')
  have hle : c.le { c with ρ := upd c.ρ b (some (blk, o, z)), H := upd c.H b (some (.row e sz d es)), U := fun x => c.U x ∨ x = b, w := w' } := by
    refine ⟨fun _ h => .inl h, hsz, fun x hm hl => ⟨hkeep x hl (hne x hm hl), ?_⟩, fun x hx e' sz' d' es' he => ?_⟩
    · rintro (h0 | ⟨y, k, o', z', hk, hρ⟩)
      · exact hm (.inl h0)
      · by_cases hy : y = b
        · subst hy
          simp only [upd_same] at hρ
          cases hρ
          exact hne _ hm hl rfl
        · simp only [upd_ne _ _ hy] at hk hρ
          exact hm (.inr ⟨y, k, o', z', hk, hρ⟩)
    · by_cases hxb : x = b
      · subst hxb
        simp only [upd_same, Option.some.injEq, Blk.row.injEq] at he
        obtain ⟨rfl, rfl, rfl, rfl⟩ := he
        rcases hold with h0 | ⟨e0, d0, es0, h0, hor⟩
        · exact absurd hx h0
        · refine ⟨e0, d0, es0, h0, ?_⟩
          rcases hor with ⟨l, r⟩ | l
          · exact .inl ⟨l, by simp only [upd_same]; exact r.symm⟩
          · exact .inr l
      · simp only [upd_ne _ _ hxb] at he
        exact ⟨_, _, _, he, .inl ⟨rfl, upd_ne _ _ hxb⟩⟩
  refine ⟨⟨?_, h.m0, fun x e' sz' d' es' he => ?_, ?_⟩, hle⟩
  · refine h.below.trans ⟨hos, htp, hout, hsz, fun k hk => hkeep k ?_ ?_⟩
    · have := h.below.size; omega
    · omega
  · by_cases hxb : x = b
    · subst hxb
      simp only [upd_same, Option.some.injEq, Blk.row.injEq] at he
      obtain ⟨rfl, rfl, rfl, rfl⟩ := he
      refine ⟨.inr rfl, hz, .inr ⟨blk, o, z, by simp only [upd_same], hlow, ⟨arr, hb, harr⟩, hlen, ?_⟩⟩
      refine VRow_mk fun i hi => ?_
      exact hel hle i hi
    · simp only [upd_ne _ _ hxb] at he ⊢
      obtain ⟨h1, h2, hr⟩ := h.row x _ _ _ _ he
      refine ⟨.inl h1, h2, ?_⟩
      rcases hr with h0 | ⟨blk', o', z', hρ, hbl, ⟨arr', ha, hs'⟩, hlen', hv⟩
      · exact .inl h0
      · have hlt : blk' < c.w.heap.size := (Array.getElem?_eq_some_iff.1 ha).1
        have hk := hkeep blk' hlt (hother x _ _ _ _ hxb he hρ)
        exact .inr ⟨blk', o', z', hρ, hbl, ⟨arr', hk.trans ha, hs'⟩, hlen', VRow.keep hle hk hv⟩
  · intro x y k k' bl o1 z1 o2 z2 hx hy hρx hρy
    by_cases hxb : x = b
    · by_cases hyb : y = b
      · rw [hxb, hyb]
      · subst hxb
        simp only [upd_same, upd_ne _ _ hyb] at hρx hρy hy
        cases hρx
        exact absurd rfl (hother y _ _ _ _ hyb hy hρy)
    · by_cases hyb : y = b
      · subst hyb
        simp only [upd_same, upd_ne _ _ hxb] at hρx hρy hx
        cases hρy
        exact absurd rfl (hother x _ _ _ _ hxb hx hρx)
      · simp only [upd_ne _ _ hxb, upd_ne _ _ hyb] at hx hy hρx hρy
        exact h.inj x y k k' _ _ _ _ _ hx hy hρx hρy

/-- A row of the call's own is laid, written, or laid anew. -/
theorem Sim.put {w0 : World} {c : Cx} (h : Sim w0 c) {b : Nat} {e : TypeId} {sz : Nat} (d : AV) {es : List AV} {w' : World} {blk o z : Nat} {arr : Array Value} (hz : 0 < sz)
    (hold : ¬ c.U b ∨ ∃ e0 d0 es0, c.H b = some (.row e0 sz d0 es0) ∧ ((es0.length = es.length ∧ c.ρ b = some (blk, o, z)) ∨ es0.length < es.length))
    (hown : blk = c.w.heap.size ∨ ∃ k o0 z0, c.H b = some k ∧ c.ρ b = some (blk, o0, z0))
    (hos : w'.os = c.w.os) (htp : w'.tape = c.w.tape) (hout : w'.output = c.w.output) (hsz : c.w.heap.size ≤ w'.heap.size)
    (hkeep : ∀ k, k < c.w.heap.size → k ≠ blk → w'.heap[k]? = c.w.heap[k]?)
    (hb : w'.heap[blk]? = some (.cells arr e (0, 0))) (harr : o + z ≤ arr.size) (hlen : es.length * sz ≤ z)
    (hel : ∀ i, i < es.length → ∃ v, At w' blk (o + i * sz) sz v ∧ VR c (es.getD i .any) v) :
    Sim w0 { c with ρ := upd c.ρ b (some (blk, o, z)), H := upd c.H b (some (.row e sz d es)), U := fun x => c.U x ∨ x = b, w := w' } ∧
    c.le { c with ρ := upd c.ρ b (some (blk, o, z)), H := upd c.H b (some (.row e sz d es)), U := fun x => c.U x ∨ x = b, w := w' } :=
  h.putG d hz hold (hown.imp (fun e => by omega) id) hos htp hout hsz hkeep hb harr hlen fun hle i hi => by
    obtain ⟨v, h1, h2⟩ := hel i hi
    exact ⟨v, h1, VR.keep hle h2⟩

/-- The empty row without memory. -/
theorem Sim.put0 {w0 : World} {c : Cx} (h : Sim w0 c) {b : Nat} {e : TypeId} {sz : Nat} (d : AV) (hz : 0 < sz) (hold : ¬ c.U b) :
    Sim w0 { c with ρ := upd c.ρ b none, H := upd c.H b (some (.row e sz d [])), U := fun x => c.U x ∨ x = b } ∧
    c.le { c with ρ := upd c.ρ b none, H := upd c.H b (some (.row e sz d [])), U := fun x => c.U x ∨ x = b } := by
  have hle : c.le { c with ρ := upd c.ρ b none, H := upd c.H b (some (.row e sz d [])), U := fun x => c.U x ∨ x = b } := by
    refine ⟨fun _ h => .inl h, Nat.le_refl _, fun x hm _ => ⟨rfl, ?_⟩, fun x hx e' sz' d' es' he => ?_⟩
    · rintro (h0 | ⟨y, k, o', z', hk, hρ⟩)
      · exact hm (.inl h0)
      · by_cases hy : y = b
        · subst hy
          simp only [upd_same] at hρ
          cases hρ
        · simp only [upd_ne _ _ hy] at hk hρ
          exact hm (.inr ⟨y, k, o', z', hk, hρ⟩)
    · by_cases hxb : x = b
      · subst hxb; exact absurd hx hold
      · simp only [upd_ne _ _ hxb] at he
        exact ⟨_, _, _, he, .inl ⟨rfl, upd_ne _ _ hxb⟩⟩
  refine ⟨⟨h.below, h.m0, fun x e' sz' d' es' he => ?_, ?_⟩, hle⟩
  · by_cases hxb : x = b
    · subst hxb
      simp only [upd_same, Option.some.injEq, Blk.row.injEq] at he
      obtain ⟨rfl, rfl, rfl, rfl⟩ := he
      exact ⟨.inr rfl, hz, .inl ⟨by simp only [upd_same], rfl⟩⟩
    · simp only [upd_ne _ _ hxb] at he ⊢
      obtain ⟨h1, h2, hr⟩ := h.row x _ _ _ _ he
      refine ⟨.inl h1, h2, ?_⟩
      rcases hr with h0 | ⟨blk', o', z', hρ, hbl, ha, hlen', hv⟩
      · exact .inl h0
      · exact .inr ⟨blk', o', z', hρ, hbl, ha, hlen', VRow.keep hle rfl hv⟩
  · intro x y k k' bl o1 z1 o2 z2 hx hy hρx hρy
    by_cases hxb : x = b
    · subst hxb; simp only [upd_same] at hρx; cases hρx
    · by_cases hyb : y = b
      · subst hyb; simp only [upd_same] at hρy; cases hρy
      · simp only [upd_ne _ _ hxb, upd_ne _ _ hyb] at hx hy hρx hρy
        exact h.inj x y k k' _ _ _ _ _ hx hy hρx hρy
end Go.Abs
