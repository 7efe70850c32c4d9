/- Whatever the order in which events are done: what they see then is plain. -/
import Derived.Test.YtncllkpekbapjaaQb
namespace Go.Proofs.Ytncllkpekbapjaa
open Go Go.Abs Go.Proofs
set_option linter.unusedSimpArgs false
set_option linter.unusedVariables false
def thrM (x : Exec) : Mat := fun a b => decide (a < b) && decide (b < x.events.length) && decide ((x.ev a).thread = (x.ev b).thread)
def gotF (x : Exec) (l : List Int) (i : Nat) : Int := (seeS x l).2 i
def sawF (x : Exec) (l : List Int) (i : Nat) : Int := if gotF x l i < 0 then x.fst (x.ev i).thing.toNat else (x.ev (gotF x l i).toNat).put
def evF (x : Exec) (l : List Int) (i : Nat) : Deed := if (x.ev i).rd = true then { x.ev i with saw := sawF x l i } else x.ev i
def wrTo (x : Exec) (t : Nat) (k : Int) : Bool := (x.ev k.toNat).wr && decide ((x.ev k.toNat).thing = t)
def doneX (x : Exec) (l : List Int) : Exec := ⟨x.first, (List.range x.events.length).map (evF x l), (List.range x.events.length).map (gotF x l), (List.range x.first.length).map fun t => l.filter (wrTo x t)⟩
theorem evF_same (x : Exec) (l : List Int) (i : Nat) : (evF x l i).kind = (x.ev i).kind ∧ (evF x l i).thread = (x.ev i).thread ∧ (evF x l i).thing = (x.ev i).thing ∧ (evF x l i).put = (x.ev i).put ∧ (evF x l i).rd = (x.ev i).rd ∧ (evF x l i).wr = (x.ev i).wr := by
  unfold evF
  split <;> exact ⟨rfl, rfl, rfl, rfl, rfl, rfl⟩
section
variable {x : Exec} {l : List Int}
theorem doneX_ev {i : Nat} (hi : i < x.events.length) : (doneX x l).ev i = evF x l i := by simp [doneX, Exec.ev, List.getD, hi]
theorem doneX_fr {i : Nat} (hi : i < x.events.length) : (doneX x l).fr i = gotF x l i := by simp [doneX, Exec.fr, List.getD, hi]
theorem doneX_len : (doneX x l).events.length = x.events.length := by simp [doneX]
theorem doneX_af {t : Nat} (ht : t < x.first.length) : (doneX x l).after.getD t [] = l.filter (wrTo x t) := by simp [doneX, List.getD, ht]
theorem got_at (hl : IsL x.events.length l) {b i : Nat} (hb : b < x.events.length) (hi : i < x.events.length) (hib : l.getD i 0 = (b : Int)) : gotF x l b = if (x.ev b).rd = true then (seeS x (l.take i)).1 (x.ev b).thing else -1 := by
  have hs := see_rd hl hi
  rw [hib, Int.toNat_natCast] at hs
  exact hs
theorem line_pair (hl : IsL x.events.length l) : l.Pairwise fun a b => Ahead l a.toNat b.toNat := by
  rw [List.pairwise_iff_getElem]
  intro i j hi hj hij
  have hlen := hl.len
  have h1 := hl.ran i (by omega)
  have h2 := hl.ran j (by omega)
  rw [getD_lt hi] at h1
  rw [getD_lt hj] at h2
  exact ⟨i, j, hij, hj, by rw [getD_lt hi]; omega, by rw [getD_lt hj]; omega⟩
theorem filt_ahead (hl : IsL x.events.length l) {p : Int → Bool} {a b : Nat} (ha : (a : Int) ∈ l.filter p) (hb : (b : Int) ∈ l.filter p) (h : posI (l.filter p) a 0 < posI (l.filter p) b 0) : Ahead l a b := by
  obtain ⟨j, h1, h2, h3⟩ := posI_mem 0 ha
  obtain ⟨k, h4, h5, h6⟩ := posI_mem 0 hb
  have hp := List.pairwise_iff_getElem.1 ((line_pair hl).filter p) j k h1 h4 (by omega)
  rw [← getD_lt h1, ← getD_lt h4, h3, h6] at hp
  simpa using hp
theorem ahead_no (hl : IsL x.events.length l) {a b : Nat} (ha : a < x.events.length) (hb : b < x.events.length) (h1 : Ahead l a b) (h2 : Ahead l b a) : False := by
  have e1 := ahead_pos hl h1
  have e2 := ahead_pos hl h2
  omega
theorem ahead_filt (hl : IsL x.events.length l) {p : Int → Bool} {a b : Nat} (ha : a < x.events.length) (hb : b < x.events.length) (ma : (a : Int) ∈ l.filter p) (mb : (b : Int) ∈ l.filter p) (h : Ahead l a b) : posI (l.filter p) a 0 < posI (l.filter p) b 0 := by
  rcases Int.lt_trichotomy (posI (l.filter p) a 0) (posI (l.filter p) b 0) with h1 | h1 | h1
  · exact h1
  · have := posI_inj ma mb h1
    have e : a = b := by omega
    subst e
    have := ahead_pos hl h
    omega
  · exact (ahead_no hl ha hb h (filt_ahead hl mb ma h1)).elim
theorem ahead_tot (hl : IsL x.events.length l) {a b : Nat} (ha : a < x.events.length) (hb : b < x.events.length) (hne : a ≠ b) : Ahead l a b ∨ Ahead l b a := by
  obtain ⟨j, hj, e1⟩ := hl.all a ha
  obtain ⟨k, hk, e2⟩ := hl.all b hb
  have hlen := hl.len
  rcases Nat.lt_trichotomy j k with h | h | h
  · exact .inl ⟨j, k, h, by omega, e1, e2⟩
  · subst h; rw [e1] at e2; omega
  · exact .inr ⟨k, j, h, by omega, e2, e1⟩
theorem mem_line (hl : IsL x.events.length l) {a : Nat} (ha : a < x.events.length) : (a : Int) ∈ l := by
  obtain ⟨j, hj, e⟩ := hl.all a ha
  rw [← e]; exact getD_mem' 0 (by rw [hl.len]; exact hj)
theorem line_ran (hl : IsL x.events.length l) {k : Int} (hk : k ∈ l) : 0 ≤ k ∧ k < x.events.length := by
  obtain ⟨j, hj, e⟩ := mem_getD hk
  rw [← e]; exact hl.ran j (by rw [← hl.len]; exact hj)
theorem line_nodup (hl : IsL x.events.length l) : l.Nodup := by
  unfold List.Nodup
  rw [List.pairwise_iff_getElem]
  intro i j hi hj hij e
  have hlen := hl.len
  have := hl.inj i j (by omega) (by omega) (by rw [getD_lt hi, getD_lt hj, e])
  omega
theorem got_spec (h : Fine x) (hl : IsL x.events.length l) {b : Nat} (hb : b < x.events.length) (hr : (x.ev b).rd = true) :
    (gotF x l b = -1 ∧ ∀ w, w < x.events.length → (x.ev w).wr = true → (x.ev w).thing = (x.ev b).thing → ¬ Ahead l w b) ∨
    ∃ w : Nat, gotF x l b = (w : Int) ∧ w < x.events.length ∧ Ahead l w b ∧ (x.ev w).wr = true ∧ (x.ev w).thing = (x.ev b).thing ∧ ∀ v, v < x.events.length → (x.ev v).wr = true → (x.ev v).thing = (x.ev b).thing → v ≠ w → Ahead l v b → Ahead l v w := by
  obtain ⟨i, hi, hib⟩ := hl.all b hb
  have hlen := hl.len
  rw [got_at hl hb hi hib, if_pos hr]
  rcases see_last hl i (by omega) (x.ev b).thing with ⟨h1, h2⟩ | ⟨j, h1, h2, h3, h4, h5⟩
  · refine .inl ⟨h1, fun w hw ww wt ha => ?_⟩
    obtain ⟨k, hk, ek⟩ := hl.all w hw
    have := hl.idx ha hk hi ek hib
    have := h2 k this (by rw [ek, Int.toNat_natCast]; exact ww)
    rw [ek, Int.toNat_natCast] at this
    exact this wt
  · have hrj := hl.ran j (by omega)
    obtain ⟨w, hw⟩ : ∃ w : Nat, l.getD j 0 = (w : Int) := ⟨(l.getD j 0).toNat, by omega⟩
    rw [hw] at h2 h3 h4 hrj
    rw [Int.toNat_natCast] at h3 h4
    refine .inr ⟨w, h2, by omega, ⟨j, i, h1, by omega, hw, hib⟩, h3, h4, fun v hv vw vt hne ha => ?_⟩
    obtain ⟨k, hk, ek⟩ := hl.all v hv
    have hki := hl.idx ha hk hi ek hib
    have hkj : k < j := by
      rcases Nat.lt_trichotomy k j with hh | hh | hh
      · exact hh
      · subst hh; rw [hw] at ek; exact absurd (by omega) hne
      · have := h5 k hh hki (by rw [ek, Int.toNat_natCast]; exact vw)
        rw [ek, Int.toNat_natCast] at this
        exact absurd vt this
    exact ⟨k, j, hkj, by omega, ek, hw⟩
theorem wrTo_mem (hl : IsL x.events.length l) {a : Nat} (ha : a < x.events.length) {t : Nat} (hw : (x.ev a).wr = true) (ht : (x.ev a).thing = t) : (a : Int) ∈ l.filter (wrTo x t) := by
  rw [List.mem_filter]
  refine ⟨mem_line hl ha, ?_⟩
  simp only [wrTo, Int.toNat_natCast, hw, Bool.true_and, decide_eq_true_eq]
  exact ht
theorem done_place (h : Fine x) (hl : IsL x.events.length l) {a : Nat} (ha : a < x.events.length) (hw : (x.ev a).wr = true) : place (doneX x l) a = posI (l.filter (wrTo x (x.ev a).thing.toNat)) a 0 := by
  have ht := h.thingW ha hw
  rw [h.afl] at ht
  unfold place
  rw [doneX_ev ha, (evF_same x l a).2.2.1, doneX_af (by omega)]
theorem way_rank {M : Mat} {r : Nat → Int} (hM : ∀ a b, M a b = true → r a < r b) {a b : Nat} (h : Way M a b) : r a < r b := by
  induction h with
  | one h => exact hM _ _ h
  | more h _ ih => exact Int.lt_trans (hM _ _ h) ih
theorem done_free (h : Fine x) (hl : IsL x.events.length l) (ho : Ord (thrM x) l) : ringB (doneX x l).events.length (arrM (doneX x l) allF) = false := by
  refine (ring_no arr_lt).2 fun k w => ?_
  refine Int.lt_irrefl _ (way_rank (r := posS l x.events.length) (fun a b hab => ahead_pos hl ?_) w)
  obtain ⟨⟨ha, hb⟩, hne, j, hj, hi, _⟩ := arr_iff.1 hab
  rw [doneX_len] at ha hb
  obtain ⟨a1, a2, a3, a4, a5, a6⟩ := evF_same x l a
  obtain ⟨b1, b2, b3, b4, b5, b6⟩ := evF_same x l b
  obtain rfl | rfl | rfl | rfl : j = 0 ∨ j = 1 ∨ j = 2 ∨ j = 3 := by omega
  · have := isB0.1 hi
    rw [doneX_ev ha, doneX_ev hb, a2, b2] at this
    exact ho.ahead hl hb (by simp only [thrM, Bool.and_eq_true, decide_eq_true_eq]; exact ⟨⟨this.2, hb⟩, this.1⟩)
  · have := isB1.1 hi
    rw [doneX_ev hb, b5, doneX_fr hb] at this
    rcases got_spec h hl hb this.1 with ⟨h1, _⟩ | ⟨w, h1, _, h3, _⟩
    · omega
    · have : w = a := by omega
      rw [← this]; exact h3
  · have := isB2.1 hi
    rw [doneX_ev ha, doneX_ev hb, a6, b6, a3, b3] at this
    obtain ⟨⟨⟨wa, wb⟩, ht⟩, hp⟩ := this
    have ta := h.thingW ha wa
    rw [done_place h hl ha wa, done_place h hl hb wb, ← ht] at hp
    exact filt_ahead hl (wrTo_mem hl ha wa (by omega)) (wrTo_mem hl hb wb (by omega)) hp
  · have := isB3.1 hi
    rw [doneX_ev ha, doneX_ev hb, a5, b6, a3, b3, doneX_fr ha] at this
    obtain ⟨⟨⟨⟨ra, wb⟩, ht⟩, _⟩, hp⟩ := this
    rcases ahead_tot hl ha hb hne with h1 | h1
    · exact h1
    · exfalso
      rcases got_spec h hl ha ra with ⟨_, g2⟩ | ⟨w, g1, g2, g3, g4, g5, g6⟩
      · exact g2 b hb wb ht.symm h1
      · rw [g1, Int.toNat_natCast] at hp
        have hp2 : place (doneX x l) w < place (doneX x l) b := hp.elim (fun h => by omega) id
        have tb := h.thingW hb wb
        rw [done_place h hl g2 g4, done_place h hl hb wb, g5, ht] at hp2
        by_cases hbw : b = w
        · subst hbw; omega
        · have := ahead_filt hl hb g2 (wrTo_mem hl hb wb (by omega)) (wrTo_mem (t := (x.ev b).thing.toNat) hl g2 g4 (by omega)) (g6 b hb wb ht.symm hbw h1)
          omega
theorem badFrom_of {y : Exec} : ∀ {m i : Nat}, (∀ j, i ≤ j → j < i + m → goodAt y j = true) → badFrom y m i = none
  | 0, i, _ => rfl
  | m + 1, i, h => by
    rw [badFrom, if_pos (h i (Nat.le_refl _) (by omega))]
    exact badFrom_of fun j h1 h2 => h j (by omega) (by omega)
theorem evOk_same (n i : Nat) : evOk n (evF x l i) = evOk n (x.ev i) := by
  cases hr : (x.ev i).rd with
  | false =>
    have e : evF x l i = x.ev i := by unfold evF; rw [hr]; rfl
    rw [e]
  | true =>
    obtain ⟨a1, a2, a3, a4, a5, a6⟩ := evF_same x l i
    simp only [evOk, a1, a2, a3, a4, a5, a6, hr, true_or, decide_true]
theorem ahead_irr (hl : IsL x.events.length l) {a : Nat} (h : Ahead l a a) : False := by
  have := ahead_pos hl h; omega
theorem frOk_done (h : Fine x) (hl : IsL x.events.length l) {i : Nat} (hi : i < x.events.length) : frOk (doneX x l) i = true := by
  obtain ⟨a1, a2, a3, a4, a5, a6⟩ := evF_same x l i
  have hlen := hl.len
  unfold frOk
  rw [doneX_ev hi, doneX_fr hi, a5, a3, doneX_len]
  cases hr : (x.ev i).rd with
  | false =>
    rw [if_neg (by decide), decide_eq_true_eq]
    obtain ⟨j, hj, e⟩ := hl.all i hi
    rw [got_at hl hi hj e, hr]; rfl
  | true =>
    rw [if_pos rfl]
    have es : (evF x l i).saw = sawF x l i := by unfold evF; rw [hr]; rfl
    rcases got_spec h hl hi hr with ⟨g1, _⟩ | ⟨w, g1, g2, g3, g4, g5, _⟩
    · rw [if_pos g1, decide_eq_true_eq, es, sawF, if_pos (by omega)]
      rfl
    · rw [if_neg (by omega), g1, Int.toNat_natCast, doneX_ev g2, es, sawF, if_neg (by omega), g1, Int.toNat_natCast]
      obtain ⟨b1, b2, b3, b4, b5, b6⟩ := evF_same x l w
      rw [b6, b3, b4]
      simp only [Bool.and_eq_true, decide_eq_true_eq]
      refine ⟨⟨⟨⟨⟨by omega, by omega⟩, fun e => ?_⟩, g4⟩, g5⟩, trivial⟩
      have : w = i := by omega
      rw [this] at g3
      exact ahead_irr hl g3
theorem done_aft (h : Fine x) (hl : IsL x.events.length l) : aftOk (doneX x l) := by
  have hmem : ∀ k t, t < x.first.length → (k ∈ l.filter (wrTo x t) ↔ k ∈ l ∧ (x.ev k.toNat).wr = true ∧ (x.ev k.toNat).thing = t) := fun k t _ => by
    rw [List.mem_filter]
    simp only [wrTo, Bool.and_eq_true, decide_eq_true_eq]
  have hflat : ∀ k, k ∈ (doneX x l).after.flatten ↔ ∃ t, t < x.first.length ∧ k ∈ l.filter (wrTo x t) := fun k => by
    simp only [doneX, List.mem_flatten, List.mem_map, List.mem_range]
    constructor
    · rintro ⟨m, ⟨t, ht, rfl⟩, hk⟩; exact ⟨t, ht, hk⟩
    · rintro ⟨t, ht, hk⟩; exact ⟨_, ⟨t, ht, rfl⟩, hk⟩
  have hnd : (doneX x l).after.flatten.Nodup := by
    unfold List.Nodup
    rw [List.pairwise_flatten]
    refine ⟨fun m hm => ?_, ?_⟩
    · simp only [doneX, List.mem_map, List.mem_range] at hm
      obtain ⟨t, _, rfl⟩ := hm
      exact (line_nodup hl).filter _
    · simp only [doneX]
      rw [List.pairwise_map]
      refine (List.pairwise_lt_range (n := x.first.length)).imp_of_mem fun {t u} ht hu htu a ha b hb e => ?_
      have h1 := ((hmem a t (by simpa using ht)).1 ha).2.2
      have h2 := ((hmem b u (by simpa using hu)).1 hb).2.2
      rw [← e, h1] at h2; omega
  refine ⟨fun t ht k hk => ?_, hnd, ?_⟩
  · have ht : t < x.first.length := by simpa [doneX] using ht
    rw [doneX_af ht] at hk
    obtain ⟨h1, h2, h3⟩ := (hmem k t ht).1 hk
    have hr := line_ran hl h1
    simp only [afOk, Bool.and_eq_true, decide_eq_true_eq, doneX_len]
    rw [doneX_ev (by omega)]
    obtain ⟨a1, a2, a3, a4, a5, a6⟩ := evF_same x l k.toNat
    rw [a6, a3]
    exact ⟨⟨⟨hr.1, hr.2⟩, h2⟩, h3⟩
  · rw [countP_filter, doneX_len]
    have hw : ∀ k ∈ iota x.events.length, ((doneX x l).ev k.toNat).wr = (x.ev k.toNat).wr := fun k hk => by
      have := iota_mem.1 hk
      rw [doneX_ev (by omega)]
      exact (evF_same x l k.toNat).2.2.2.2.2
    refine Nat.le_antisymm (nodup_sub hnd fun k hk => ?_) (nodup_sub ((iota_nodup _).filter _) fun k hk => ?_)
    · obtain ⟨t, ht, hk⟩ := (hflat k).1 hk
      obtain ⟨h1, h2, h3⟩ := (hmem k t ht).1 hk
      have hi := iota_mem.2 (line_ran hl h1)
      rw [List.mem_filter]
      exact ⟨hi, by rw [hw k hi]; exact h2⟩
    · rw [List.mem_filter] at hk
      obtain ⟨hi, h2⟩ := hk
      rw [hw k hi] at h2
      have hr := iota_mem.1 hi
      have ht := h.thingW (i := k.toNat) (by omega) h2
      rw [h.afl] at ht
      refine (hflat k).2 ⟨(x.ev k.toNat).thing.toNat, by omega, (hmem k _ (by omega)).2 ⟨?_, h2, by omega⟩⟩
      have := mem_line hl (a := k.toNat) (by omega)
      rwa [show ((k.toNat : Nat) : Int) = k by omega] at this
theorem done_ok (h : Fine x) (hl : IsL x.events.length l) : okB (doneX x l) = true := by
  have hfew := h.few
  have hs : shapeB (doneX x l) = true := by
    simp only [shapeB, Bool.and_eq_true, decide_eq_true_eq]
    exact ⟨⟨by rw [doneX_len]; exact hfew, by simp [doneX]⟩, by simp [doneX]⟩
  have hb : badFrom (doneX x l) (doneX x l).events.length 0 = none := badFrom_of fun i _ hi => by
    rw [doneX_len] at hi
    have hi : i < x.events.length := by omega
    simp only [goodAt, Bool.and_eq_true]
    refine ⟨?_, frOk_done h hl hi⟩
    rw [doneX_ev hi, show (doneX x l).first = x.first from rfl, evOk_same]
    exact h.ev i hi
  unfold okB checkS
  rw [if_pos hs, hb]
  simp only [done_aft h hl, if_true, decide_true]
theorem done_plain (h : Fine x) (hl : IsL x.events.length l) (ho : Ord (thrM x) l) : plainB (doneX x l) = true := by
  unfold plainB
  rw [done_ok h hl]
  have := done_free h hl ho
  rw [show (fun _ _ _ => true) = allF from rfl, this]
  rfl
theorem done_wf (hx : x.Wf) (h : Fine x) (hl : IsL x.events.length l) : (doneX x l).Wf := by
  have hfew := h.few
  have hlen := hl.len
  have hgot : ∀ i, i < x.events.length → -1 ≤ gotF x l i ∧ gotF x l i < x.events.length := fun i hi => by
    cases hr : (x.ev i).rd with
    | false =>
      obtain ⟨j, hj, e⟩ := hl.all i hi
      rw [got_at hl hi hj e, hr, if_neg (by decide)]; omega
    | true =>
      rcases got_spec h hl hi hr with ⟨g1, _⟩ | ⟨w, g1, g2, _⟩ <;> rw [g1] <;> omega
  refine ⟨hx.first, hx.firstlen, fun d hd => ?_, by rw [doneX_len]; omega, fun v hv => ?_, by simp [doneX]; omega, fun m hm => ?_, by have := hx.afterlen; rw [h.afl] at this; simpa [doneX] using this⟩
  · simp only [doneX, List.mem_map, List.mem_range] at hd
    obtain ⟨i, hi, rfl⟩ := hd
    have hw := hx.events _ (getD_mem' default hi)
    unfold evF
    split
    · refine ⟨hw.kind, hw.thread, hw.thing, ?_, hw.put⟩
      show wf64 (sawF x l i)
      unfold sawF
      split
      · by_cases ht : (x.ev i).thing.toNat < x.first.length
        · exact hx.first _ (getD_mem' 0 ht)
        · have : x.fst (x.ev i).thing.toNat = 0 := by
            unfold Exec.fst List.getD
            rw [List.getElem?_eq_none (by omega)]; rfl
          rw [this]; unfold wf64; omega
      · have := hgot i hi
        exact (hx.events _ (getD_mem' default (by omega : (gotF x l i).toNat < x.events.length))).put
    · exact hw
  · simp only [doneX, List.mem_map, List.mem_range] at hv
    obtain ⟨i, hi, rfl⟩ := hv
    have := hgot i hi
    unfold wf64; omega
  · simp only [doneX, List.mem_map, List.mem_range] at hm
    obtain ⟨t, ht, rfl⟩ := hm
    refine ⟨fun v hv => ?_, ?_⟩
    · have := line_ran hl (List.mem_filter.1 hv).1
      unfold wf64; omega
    · have := List.length_filter_le (wrTo x t) l
      omega
end
end Go.Proofs.Ytncllkpekbapjaa
