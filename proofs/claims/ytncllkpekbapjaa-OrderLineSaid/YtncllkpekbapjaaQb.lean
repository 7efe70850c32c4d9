/- Done in its line, each reader sees what From says. -/
import Derived.Test.YtncllkpekbapjaaQa
namespace Go.Proofs.Ytncllkpekbapjaa
open Go Go.Abs Go.Proofs
set_option linter.unusedSimpArgs false
set_option linter.unusedVariables false
theorem nodup_sub : ∀ {l m : List Int}, l.Nodup → (∀ a ∈ l, a ∈ m) → l.length ≤ m.length
  | [], _, _, _ => by simp
  | a :: l, m, hn, hs => by
    rw [List.nodup_cons] at hn
    have ha := hs a List.mem_cons_self
    have h1 := nodup_sub (l := l) (m := m.erase a) hn.2 (fun b hb => (List.mem_erase_of_ne (fun e => hn.1 (by rw [← e]; exact hb))).2 (hs b (List.mem_cons_of_mem _ hb)))
    rw [List.length_erase_of_mem ha] at h1
    have := List.length_pos_of_mem ha
    simp only [List.length_cons]; omega
theorem posI_mem : ∀ {l : List Int} {k : Int} (i : Nat), k ∈ l → ∃ j : Nat, j < l.length ∧ posI l k i = i + j ∧ l.getD j 0 = k
  | a :: l, k, i, h => by
    rw [posI]
    by_cases hk : k = a
    · exact ⟨0, by simp, by rw [if_pos hk]; omega, by simp [hk]⟩
    · obtain ⟨j, h1, h2, h3⟩ := posI_mem (l := l) (i + 1) (by simpa [hk] using h)
      exact ⟨j + 1, by simp only [List.length_cons]; omega, by rw [if_neg hk, h2]; omega, by simpa using h3⟩
theorem posI_inj {l : List Int} {a b : Int} (ha : a ∈ l) (hb : b ∈ l) (h : posI l a 0 = posI l b 0) : a = b := by
  obtain ⟨j, _, h2, h3⟩ := posI_mem 0 ha
  obtain ⟨k, _, h5, h6⟩ := posI_mem 0 hb
  have : j = k := by omega
  rw [← h3, ← h6, this]
theorem posI_at {l : List Int} (hn : l.Nodup) {j : Nat} (hj : j < l.length) : posI l (l.getD j 0) 0 = j := by
  obtain ⟨k, h1, h2, h3⟩ := posI_mem 0 (getD_mem' 0 hj)
  rw [getD_lt h1, getD_lt hj] at h3
  have : k = j := nodup_idx hn h1 hj h3
  omega
theorem countP_filter (x : Exec) : x.wrs = ((iota x.events.length).filter fun k => (x.ev k.toNat).wr).length := by
  have key : ∀ m, m ≤ x.events.length → (x.events.take m).countP Deed.wr = ((iota m).filter fun k => (x.ev k.toNat).wr).length := by
    intro m
    induction m with
    | zero => intro _; simp [iota]
    | succ m ih =>
      intro hm
      rw [wrs_take (by omega), ih (by omega)]
      simp only [iota, List.range_succ, List.map_append, List.filter_append, List.length_append, List.map_cons, List.map_nil, List.filter_cons, List.filter_nil, Int.toNat_natCast]
      split <;> rfl
  have := key x.events.length (Nat.le_refl _)
  rwa [List.take_length] at this
theorem Fine.mem_after {x : Exec} (h : Fine x) {i : Nat} (hi : i < x.events.length) (hw : (x.ev i).wr = true) : (i : Int) ∈ x.af (x.ev i).thing.toNat := by
  obtain ⟨h1, h2, h3⟩ := h.af
  have hin : ∀ k ∈ x.after.flatten, ∃ t, t < x.after.length ∧ k ∈ x.after.getD t [] := fun k hk => by
    obtain ⟨l, hl, hk⟩ := List.mem_flatten.1 hk
    obtain ⟨t, ht, e⟩ := List.mem_iff_getElem.1 hl
    exact ⟨t, ht, by rw [← getD_el [] ht, e]; exact hk⟩
  have hmem : (i : Int) ∈ x.after.flatten := by
    refine Decidable.byContradiction fun hn => ?_
    have := nodup_sub (l := (i : Int) :: x.after.flatten) (m := (iota x.events.length).filter fun k => (x.ev k.toNat).wr) (List.nodup_cons.2 ⟨hn, h2⟩) (fun a ha => by
      rw [List.mem_filter, iota_mem]
      rcases List.mem_cons.1 ha with rfl | ha
      · exact ⟨⟨by omega, by omega⟩, by rw [Int.toNat_natCast]; exact hw⟩
      · obtain ⟨t, ht, hk⟩ := hin a ha
        have := h1 t ht a hk
        simp only [afOk, Bool.and_eq_true, decide_eq_true_eq] at this
        exact ⟨this.1.1, this.1.2⟩)
    rw [← countP_filter, List.length_cons] at this
    omega
  obtain ⟨t, ht, hk⟩ := hin _ hmem
  have := h1 t ht _ hk
  simp only [afOk, Bool.and_eq_true, decide_eq_true_eq, Int.toNat_natCast] at this
  rw [this.2, Int.toNat_natCast]
  exact hk
theorem Fine.place_inj {x : Exec} (h : Fine x) {a b : Nat} (ha : a < x.events.length) (hb : b < x.events.length) (wa : (x.ev a).wr = true) (wb : (x.ev b).wr = true) (ht : (x.ev a).thing = (x.ev b).thing) (e : place x a = place x b) : a = b := by
  have h1 := h.mem_after ha wa
  have h2 := h.mem_after hb wb
  unfold place at e
  rw [ht] at h1 e
  have := posI_inj h1 h2 e
  omega
theorem af_nodup {x : Exec} (h : Fine x) {t : Nat} (ht : t < x.after.length) : (x.af t).Nodup := by
  have h2 := h.af.2.1
  rw [flatten_split (j := 0) ht, List.nodup_append] at h2
  have := (List.nodup_append.1 h2.2.1).1
  simpa using this
abbrev allF : Int → Nat → Nat → Bool := fun _ _ _ => true
theorem arr_all {x : Exec} {a b k : Nat} (ha : a < x.events.length) (hb : b < x.events.length) (hne : a ≠ b) (hk : k < 4) (hi : isB x k a b = true) : arrM x allF a b = true := arr_iff.2 ⟨⟨ha, hb⟩, hne, k, hk, hi, rfl⟩
theorem line_sees {x : Exec} (h : Fine x) {l : List Int} (hl : IsL x.events.length l) (ho : Ord (arrM x allF) l) : (List.range x.events.length).map (seeS x l).2 = x.frm := by
  refine ext_getD 0 (by simp [h.frl]) fun b hb => ?_
  have hb : b < x.events.length := by simpa using hb
  have e : ((List.range x.events.length).map (seeS x l).2).getD b 0 = (seeS x l).2 b := by simp [List.getD, hb]
  rw [e]
  obtain ⟨i, hi, hib⟩ := hl.all b hb
  have hs := see_rd hl hi
  rw [hib, Int.toNat_natCast] at hs
  rw [hs]
  have hlen := hl.len
  have noM : ∀ j, j < x.events.length → ¬ j < i → ∀ w : Nat, l.getD j 0 = (w : Int) → w < x.events.length → arrM x allF w b = true → False := fun j hj hji w hw hwn hm => by
    have := hl.idx (ho.ahead hl hb hm) hj hi hw hib
    omega
  have noR : ∀ j, j < x.events.length → j < i → ∀ w : Nat, l.getD j 0 = (w : Int) → w < x.events.length → arrM x allF b w = true → False := fun j hj hji w hw hwn hm => by
    have := hl.idx (ho.ahead hl hwn hm) hi hj hib hw
    omega
  have fb := h.fr b hb
  cases hrd : (x.ev b).rd with
  | false =>
    rw [if_neg (by decide)]
    simp only [frOk, hrd, Bool.false_eq_true, if_false, decide_eq_true_eq] at fb
    exact fb.symm
  | true =>
    rw [if_pos rfl]
    have natw : ∀ j, j < x.events.length → ∃ w : Nat, l.getD j 0 = (w : Int) ∧ w < x.events.length := fun j hj => by
      have := hl.ran j hj
      exact ⟨(l.getD j 0).toNat, by omega, by omega⟩
    by_cases hf : x.fr b < 0
    · have hf1 : x.fr b = -1 := by
        simp only [frOk, hrd, if_true] at fb
        by_cases h1 : x.fr b = -1
        · exact h1
        · rw [if_neg h1] at fb
          simp only [Bool.and_eq_true, decide_eq_true_eq] at fb
          omega
      rcases see_last hl i (by omega) (x.ev b).thing with ⟨h1, _⟩ | ⟨j, h1, h2, h3, h4, h5⟩
      · rw [h1]; exact hf1.symm
      · exfalso
        obtain ⟨w, hw, hwn⟩ := natw j (by omega)
        rw [hw, Int.toNat_natCast] at h3 h4
        have hne : b ≠ w := fun e => by
          have := hl.inj j i (by omega) hi (by rw [hw, hib, e])
          omega
        exact noR j (by omega) h1 w hw hwn (arr_all hb hwn hne (k := 3) (by omega) (isB3.2 ⟨⟨⟨⟨hrd, h3⟩, h4.symm⟩, hne⟩, .inl hf⟩))
    · obtain ⟨g1, g2, g3, g4, g5, g6⟩ := h.from hb hrd hf
      obtain ⟨w, hw⟩ : ∃ w : Nat, x.fr b = (w : Int) := ⟨(x.fr b).toNat, by omega⟩
      have hwn : w < x.events.length := by omega
      rw [hw, Int.toNat_natCast] at g4 g5
      have hne : w ≠ b := fun e => g3 (by rw [hw, e])
      obtain ⟨jw, hjw, ejw⟩ := hl.all w hwn
      have hji : jw < i := Decidable.byContradiction fun hn => noM jw hjw hn w ejw hwn (arr_all hwn hb hne (k := 1) (by omega) (isB1.2 ⟨hrd, hw⟩))
      rcases see_last hl i (by omega) (x.ev b).thing with ⟨_, h2⟩ | ⟨j, h1, h2, h3, h4, h5⟩
      · exact absurd g5 (by have := h2 jw hji (by rw [ejw, Int.toNat_natCast]; exact g4); rwa [ejw, Int.toNat_natCast] at this)
      · show (seeS x (l.take i)).1 (x.ev b).thing = x.fr b
        rw [h2, hw]
        obtain ⟨w', hw', hwn'⟩ := natw j (by omega)
        rw [hw', Int.toNat_natCast] at h3 h4
        rw [hw']
        by_cases hww : w' = w
        · rw [hww]
        · exfalso
          have hjj : ¬ jw = j := fun e => hww (by rw [e, hw'] at ejw; omega)
          have hjlt : jw < j := by
            rcases Nat.lt_trichotomy jw j with hh | hh | hh
            · exact hh
            · exact absurd hh hjj
            · exact absurd g5 (by have := h5 jw hh hji (by rw [ejw, Int.toNat_natCast]; exact g4); rwa [ejw, Int.toNat_natCast] at this)
          rcases Int.lt_trichotomy (place x w) (place x w') with hp | hp | hp
          · have hneb : b ≠ w' := fun e => by
              have := hl.inj j i (by omega) hi (by rw [hw', hib, e])
              omega
            exact noR j (by omega) h1 w' hw' hwn' (arr_all hb hwn' hneb (k := 3) (by omega) (isB3.2 ⟨⟨⟨⟨hrd, h3⟩, h4.symm⟩, hneb⟩, .inr (by rw [hw, Int.toNat_natCast]; exact hp)⟩))
          · exact hww (h.place_inj hwn' hwn h3 g4 (by rw [h4, g5]) hp.symm)
          · have := hl.idx (ho.ahead hl hwn (arr_all hwn' hwn hww (k := 2) (by omega) (isB2.2 ⟨⟨⟨h3, g4⟩, by rw [h4, g5]⟩, hp⟩))) (by omega) hjw hw' ejw
            omega
theorem line_thread {x : Exec} {l : List Int} (hl : IsL x.events.length l) (ho : Ord (arrM x allF) l) {a b : Nat} (hab : a < b) (hb : b < x.events.length) (ht : (x.ev a).thread = (x.ev b).thread) : Ahead l a b :=
  ho.ahead hl hb (arr_all (by omega) hb (by omega) (k := 0) (by omega) (isB0.2 ⟨ht, hab⟩))
theorem line_after {x : Exec} (h : Fine x) {l : List Int} (hl : IsL x.events.length l) (ho : Ord (arrM x allF) l) {t k : Nat} (ht : t < x.after.length) (hk : k + 1 < (x.af t).length) : Ahead l ((x.af t).getD k 0).toNat ((x.af t).getD (k + 1) 0).toNat := by
  have hk0 : k < (x.af t).length := by omega
  have h1 := h.af.1 t ht ((x.af t).getD k 0) (getD_mem' 0 hk0)
  have h2 := h.af.1 t ht ((x.af t).getD (k + 1) 0) (getD_mem' 0 hk)
  simp only [afOk, Bool.and_eq_true, decide_eq_true_eq] at h1 h2
  have hn := af_nodup h ht
  have p1 := posI_at hn (j := k) (by omega)
  have p2 := posI_at hn (j := k + 1) hk
  have e1 : (((((x.af t).getD k 0).toNat : Nat)) : Int) = (x.af t).getD k 0 := by omega
  have e2 : (((((x.af t).getD (k + 1) 0).toNat : Nat)) : Int) = (x.af t).getD (k + 1) 0 := by omega
  have q1 : place x ((x.af t).getD k 0).toNat = k := by
    unfold place; rw [h1.2, Int.toNat_natCast, e1]; exact p1
  have q2 : place x ((x.af t).getD (k + 1) 0).toNat = (k + 1 : Nat) := by
    unfold place; rw [h2.2, Int.toNat_natCast, e2]; exact p2
  refine ho.ahead hl (by omega) (arr_all (by omega) (by omega) (fun e => by rw [e, q2] at q1; omega) (k := 2) (by omega) (isB2.2 ⟨⟨⟨h1.1.2, h2.1.2⟩, by rw [h1.2, h2.2]⟩, by rw [q1, q2]; omega⟩))
theorem plain_line {x : Exec} (hp : plainB x = true) : okB x = true ∧ IsL x.events.length (lineL x) ∧ Ord (arrM x allF) (lineL x) := by
  have hok : okB x = true := by simp only [plainB, Bool.and_eq_true] at hp; exact hp.1
  rw [← lineB_eq] at hp
  have he := lineL_eq (x := x)
  rw [if_pos hok] at he
  rcases lineO_greedy (x := x) with ⟨h1, h2⟩ | ⟨h1, h2⟩
  · rw [h1] at he
    rw [he]
    obtain ⟨g1, g2⟩ := lineG_ord arr_lt h1
    exact ⟨hok, isL_of g2, g1⟩
  · simp only [lineB, Bool.and_eq_true, decide_eq_true_eq] at hp
    omega
end Go.Proofs.Ytncllkpekbapjaa
