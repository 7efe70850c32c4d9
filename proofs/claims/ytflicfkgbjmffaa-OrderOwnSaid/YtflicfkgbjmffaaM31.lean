import Derived.Test.YtflicfkgbjmffaaM18
section
/- Rows that are written no more, told as what is held by value. -/
namespace Go.Abs
open Go.RowKit
set_option linter.unusedSimpArgs false
set_option linter.unusedVariables false
def iceS (f : AV → AV) (G : Hp) : AV → AV
  | .sl b len => match getH G b with
    | some (.row _ sz _ es) => if es.length = len then .im sz .any (es.map f) else .sl b len
    | none => .sl b len
  | .agg cs => .agg (cs.map f)
  | .tup cs => .tup (cs.map f)
  | a => a
def ice (G : Hp) : Nat → AV → AV
  | 0, a => a
  | k + 1, a => iceS (ice G k) G a
theorem AVles.map1 {c c2 : Cx} (f : AV → AV) (h : ∀ a, AVle c c2 a (f a)) : ∀ l : List AV, AVles c c2 l (l.map f)
  | [] => .nil
  | a :: l => .cons (h a) (AVles.map1 f h l)
theorem AVle.imS2 {w0 : World} {c c2 : Cx} (hS : Sim w0 c) {b : Nat} {e : TypeId} {sz : Nat} {d : AV} {es es2 : List AV} (d2 : AV) (hw : c2.w = c.w) (hH : c.H b = some (.row e sz d es)) (hM : ∀ blk o z, c.ρ b = some (blk, o, z) → ¬ c2.M blk) (h : AVles c c2 es es2) : AVle c c2 (.sl b es.length) (.im sz d2 es2) := by
  have hl := h.length
  intro v hv
  rw [VR] at hv
  obtain ⟨_, a, cap, rfl, hr⟩ := hv
  obtain ⟨_, hr⟩ := hr _ _ _ _ hH
  obtain ⟨_, hz, hrow⟩ := hS.rowQ b _ _ _ _ hH (sl_q (hr rfl))
  rw [VR]
  rcases hr rfl with ⟨hρ, rfl, rfl⟩ | ⟨blk, o, z, hρ, rfl, hc1, _, _⟩
  · rcases hrow with ⟨_, rfl⟩ | ⟨_, _, _, hρ', _⟩
    · have : es2 = [] := List.eq_nil_of_length_eq_zero (by simpa using hl.symm)
      subst this
      exact ⟨none, 0, rfl, by simp, .inl rfl⟩
    · rw [hρ] at hρ'; cases hρ'
  · rcases hrow with ⟨hρ', _⟩ | ⟨blk1, o1, z1, hρ1, _, _, _, hrow⟩
    · rw [hρ] at hρ'; cases hρ'
    · rw [hρ] at hρ1; cases hρ1
      exact ⟨_, cap, by rw [← hl], by rw [← hl]; exact hc1, .inr ⟨blk, o, rfl, hz, hM _ _ _ hρ, h.row hw hrow⟩⟩
theorem AVle.ice {w0 : World} {c c2 : Cx} {G : Hp} (hS : Sim w0 c) (hw : c2.w = c.w) (hle : c.le c2) (hG : ∀ b q, getH G b = some q → c.H b = some q ∧ ∀ blk o z, c.ρ b = some (blk, o, z) → ¬ c2.M blk) : ∀ (k : Nat) (a : AV), AVle c c2 a (ice G k a) := by
  intro k
  induction k with
  | zero => intro a; rw [Go.Abs.ice]; exact AVle.keep hle a
  | succ k ih =>
    intro a
    cases a <;> rw [Go.Abs.ice] <;> simp only [iceS] <;> try exact AVle.keep hle _
    case sl b len =>
      cases hb : getH G b with
      | none => simp only; exact AVle.keep hle _
      | some q =>
        obtain ⟨e, sz, d, es⟩ := q
        simp only
        split
        · rename_i hl
          obtain ⟨g1, g2⟩ := hG b _ hb
          rw [← hl]
          exact AVle.imS2 hS .any hw g1 g2 (AVles.map1 _ ih es)
        · exact AVle.keep hle _
    case agg cs => exact AVle.agg (AVles.map1 _ ih cs)
    case tup cs => exact AVle.tup (AVles.map1 _ ih cs)
def goneH (G H : Hp) : Hp := G.map (fun p => (p.1, none)) ++ H
theorem goneH_cons (b : Nat) (q : Option Blk) (G H : Hp) : goneH ((b, q) :: G) H = (b, none) :: goneH G H := rfl
theorem goneH_in {H : Hp} {b : Nat} : ∀ {G : Hp}, b ∈ G.map (·.1) → getH (goneH G H) b = none
  | (x, q) :: G, h => by
    rw [goneH_cons]
    by_cases hb : b = x
    · subst hb; exact getH_here _ _ _
    · rw [getH_skipEq hb]
      exact goneH_in (by simpa [hb] using h)
theorem goneH_out {H : Hp} {b : Nat} : ∀ {G : Hp}, b ∉ G.map (·.1) → getH (goneH G H) b = getH H b
  | [], _ => rfl
  | (x, q) :: G, h => by
    simp only [List.map_cons, List.mem_cons, not_or] at h
    rw [goneH_cons, getH_skipEq h.1, goneH_out h.2]
theorem getH_in {b : Nat} {q : Blk} : ∀ {G : Hp}, getH G b = some q → b ∈ G.map (·.1)
  | (x, p) :: G, h => by
    by_cases hb : b = x
    · simp [hb]
    · rw [getH_skipEq hb] at h
      simp only [List.map_cons, List.mem_cons]
      exact .inr (getH_in h)
theorem Wk.iceR {r : AV} {H : Hp} {nx : Nat} (G : Hp) (k : Nat) (hG : ∀ b q, getH G b = some q → getH H b = some q) : Wk r H nx (ice G k r) (goneH G H) nx := by
  refine Wk.tell (Nat.le_refl _) (fun b e sz d es he => ?_) (fun w0 c c2 hS hU hc hc2 hw hle hnew hM => ⟨?_, fun b e sz d es d0 es0 h1 h2 => ?_⟩)
  · by_cases hb : b ∈ G.map (·.1)
    · rw [goneH_in hb] at he; cases he
    · rw [goneH_out hb] at he
      exact .inl ⟨d, es, he, rfl⟩
  · refine AVle.ice hS hw hle (fun b q hq => ?_) k r
    have h1 := hG b q hq
    exact ⟨by rw [hc]; exact h1, fun blk o z hρ => hM b q blk o z h1 (goneH_in (getH_in hq)) hρ⟩
  · by_cases hb : b ∈ G.map (·.1)
    · rw [goneH_in hb] at h1; cases h1
    · rw [goneH_out hb] at h1
      rw [h1] at h2; cases h2
      exact AVles.keep hle _
theorem Wk.ice {H : Hp} {nx cb : Nat} {e : TypeId} {sz : Nat} {d : AV} {es : List AV} (G : Hp) (k : Nat) (d2 : AV) (hcb : getH H cb = some (.row e sz d es)) (hG : ∀ b q, getH G b = some q → getH H b = some q) : Wk .any H nx .any (goneH G ((cb, some (.row e sz d2 (es.map (ice G k)))) :: H)) nx := by
  refine Wk.tell (Nat.le_refl _) (fun b e' sz' d' es' he => ?_) (fun w0 c c2 hS hU hc hc2 hw hle hnew hM => ⟨AVle.any _ _ _, fun b e' sz' d' es' d0 es0 h1 h2 => ?_⟩)
  · by_cases hb : b ∈ G.map (·.1)
    · rw [goneH_in hb] at he; cases he
    · rw [goneH_out hb] at he
      by_cases hbc : b = cb
      · subst hbc
        rw [getH_here] at he
        cases he
        exact .inl ⟨d, es, hcb, by simp⟩
      · rw [getH_skipEq hbc] at he
        exact .inl ⟨d', es', he, rfl⟩
  · by_cases hb : b ∈ G.map (·.1)
    · rw [goneH_in hb] at h1; cases h1
    · rw [goneH_out hb] at h1
      by_cases hbc : b = cb
      · subst hbc
        rw [getH_here] at h1
        rw [hcb] at h2
        cases h1; cases h2
        exact AVles.map1 _ (AVle.ice hS hw hle (fun b q hq => by
          have h1 := hG b q hq
          exact ⟨by rw [hc]; exact h1, fun blk o z hρ => hM b q blk o z h1 (goneH_in (getH_in hq)) hρ⟩) k) _
      · rw [getH_skipEq hbc] at h1
        rw [h1] at h2; cases h2
        exact AVles.keep hle _
theorem ice_sc (G : Hp) (k : Nat) (v : Value) : ice G k (.sc v) = .sc v := by cases k <;> rfl
theorem ice_im (G : Hp) (k : Nat) (sz : Nat) (d : AV) (es : List AV) : ice G k (.im sz d es) = .im sz d es := by cases k <;> rfl
theorem ice_sl {G : Hp} {k b len : Nat} {e : TypeId} {sz : Nat} {d : AV} {es : List AV} (h : getH G b = some (.row e sz d es)) (hl : es.length = len) : ice G (k + 1) (.sl b len) = .im sz .any (es.map (ice G k)) := by
  rw [ice, iceS, h]; simp only; rw [if_pos hl]
theorem ice_zero (G : Hp) (l : List AV) : l.map (Go.Abs.ice G 0) = l := by
  have e : ice G 0 = id := by funext a; rfl
  rw [e, List.map_id]
theorem Wk.ice1 {H : Hp} {nx cb b : Nat} {e e2 : TypeId} {sz sz2 : Nat} {d d3 : AV} {es l es2 : List AV} (d2 : AV) (h1 : getH H cb = some (.row e sz d es)) (h2 : getH H b = some (.row e2 sz2 d3 l)) (hes : es.map (Go.Abs.ice [(b, some (.row e2 sz2 d3 l))] 1) = es2) : Wk .any H nx .any ((b, none) :: (cb, some (.row e sz d2 es2)) :: H) nx := by
  have h := Wk.ice (nx := nx) [(b, some (.row e2 sz2 d3 l))] 1 d2 h1 (fun x q hx => by
    by_cases hb : x = b
    · subst hb; rw [getH_here] at hx; rw [← hx]; exact h2
    · rw [getH_skipEq hb] at hx; cases hx)
  rw [hes] at h
  exact h
theorem ice_last {b len : Nat} {e2 : TypeId} {sz2 : Nat} {d3 : AV} {es l : List AV} (hes : ∀ a ∈ es, Go.Abs.ice [(b, some (.row e2 sz2 d3 l))] 1 a = a) (hl : l.length = len) : (es ++ [AV.sl b len]).map (Go.Abs.ice [(b, some (.row e2 sz2 d3 l))] 1) = es ++ [.im sz2 .any l] := by
  rw [List.map_append, List.map_cons, List.map_nil, ice_sl (getH_here _ _ _) hl, ice_zero]
  congr 1
  exact (List.map_congr_left hes).trans (by simp)
section
variable {κ β : Type} [DecidableEq κ]
end
end Go.Abs
end
