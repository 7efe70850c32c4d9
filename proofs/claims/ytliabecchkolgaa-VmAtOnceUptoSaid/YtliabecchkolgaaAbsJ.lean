/- What is forgotten at a loop's head and at a function's end. -/
import Derived.Test.YtliabecchkolgaaAbsI
namespace Go.Abs
open Go.RowKit

mutual
/-- Every name of own memory in it is below n. -/
def fitA (n : Nat) : AV → Prop
  | .sc _ => True
  | .any => True
  | .im _ _ es => fitL n es
  | .ip _ _ es _ _ => fitL n es
  | .sl b _ => b < n
  | .pt b _ _ _ => b < n
  | .zc => True
  | .agg cs => fitL n cs
  | .tup cs => fitL n cs
  | .fn _ p q => fitL n p ∧ fitL n q
  | .ifc _ x => fitA n x
  | .mp b => b < n
  | .ab => True
  | .sv b _ _ _ => b < n
def fitL (n : Nat) : List AV → Prop
  | [] => True
  | a :: as => fitA n a ∧ fitL n as
end
theorem fitL_iff {n : Nat} {as : List AV} : fitL n as ↔ ∀ a ∈ as, fitA n a := by
  induction as with
  | nil => simp [fitL]
  | cons a as ih => simp [fitL, ih]
theorem fitL_map {α : Type} {n : Nat} (f : α → AV) (l : List α) : fitL n (l.map f) ↔ ∀ x ∈ l, fitA n (f x) := by
  rw [fitL_iff]; simp
theorem fitL_append {n : Nat} (l m : List AV) : fitL n (l ++ m) ↔ fitL n l ∧ fitL n m := by
  simp only [fitL_iff, List.mem_append]
  exact ⟨fun h => ⟨fun a ha => h a (.inl ha), fun a ha => h a (.inr ha)⟩, fun h a ha => ha.elim (h.1 a) (h.2 a)⟩
theorem fitL_replicate {n k : Nat} (a : AV) : fitL n (List.replicate k a) ↔ (k = 0 ∨ fitA n a) := by
  rw [fitL_iff]
  by_cases hk : k = 0
  · subst hk; simp
  · simp [List.mem_replicate, hk]

structure Cx.leN (n : Nat) (c c' : Cx) : Prop where
  U : ∀ b, b < n → c.U b → c'.U b
  blk : ∀ b, ¬ c.M b → b < c.w.heap.size → c'.w.heap[b]? = c.w.heap[b]? ∧ ¬ c'.M b
  row : ∀ b, b < n → c.U b → ∀ e sz d es, c'.H b = some (.row e sz d es) → ∃ e0 d0 es0, c.H b = some (.row e0 sz d0 es0) ∧ ((es0.length = es.length ∧ c'.ρ b = c.ρ b) ∨ es0.length < es.length)

mutual
theorem VR.keepN {n : Nat} {c c' : Cx} (h : c.leN n c') : ∀ {a : AV} {v : Value}, fitA n a → VR c a v → VR c' a v
  | .sc u, v, _, hv => by rw [VR] at hv ⊢; exact hv
  | .any, _, _, _ => by rw [VR]; trivial
  | .im sz d es, v, hf, hv => by
    rw [VR] at hv ⊢
    rw [fitA] at hf
    obtain ⟨a, cap, rfl, hc, hr⟩ := hv
    refine ⟨a, cap, rfl, hc, ?_⟩
    rcases hr with h0 | ⟨blk, o, rfl, hz, hm, hr⟩
    · exact .inl h0
    · by_cases h0 : es = []
      · exact .inl h0
      · obtain ⟨h1, h2⟩ := h.blk blk hm (VRow_lt hz h0 hr)
        exact .inr ⟨blk, o, rfl, hz, h2, VRow.keepN h h1 hf hr⟩
  | .ip sz d es i off, v, hf, hv => by
    rw [VR] at hv ⊢
    rw [fitA] at hf
    obtain ⟨hi, ho, blk, o, rfl, hm, hr⟩ := hv
    obtain ⟨h1, h2⟩ := h.blk blk hm (VRow_lt (by omega) (by intro e; rw [e] at hi; simp at hi) hr)
    exact ⟨hi, ho, blk, o, rfl, h2, VRow.keepN h h1 hf hr⟩
  | .sl b len, v, hf, hv => by
    rw [VR] at hv ⊢
    rw [fitA] at hf
    obtain ⟨hb, a, cap, rfl, hr⟩ := hv
    refine ⟨h.U _ hf hb, a, cap, rfl, fun e sz d es he => ?_⟩
    obtain ⟨e0, d0, es0, h0, hor⟩ := h.row b hf hb e sz d es he
    obtain ⟨h1, h2⟩ := hr _ _ _ _ h0
    rcases hor with ⟨hl, hρ⟩ | hl
    · rw [hl] at h1 h2
      rw [hρ]
      exact ⟨h1, h2⟩
    · exact ⟨by omega, fun he => by omega⟩
  | .pt b len i off, v, hf, hv => by
    rw [VR] at hv ⊢
    rw [fitA] at hf
    obtain ⟨hb, hi, a, rfl, hr⟩ := hv
    refine ⟨h.U _ hf hb, hi, a, rfl, fun e sz d es he => ?_⟩
    obtain ⟨e0, d0, es0, h0, hor⟩ := h.row b hf hb e sz d es he
    obtain ⟨h1, h2⟩ := hr _ _ _ _ h0
    rcases hor with ⟨hl, hρ⟩ | hl
    · rw [hl] at h1 h2
      rw [hρ]
      exact ⟨h1, h2⟩
    · exact ⟨by omega, fun he => by omega⟩
  | .zc, v, _, hv => by rw [VR] at hv ⊢; exact hv
  | .agg cs, v, hf, hv => by
    rw [VR] at hv ⊢
    rw [fitA] at hf
    obtain ⟨vs, rfl, hr⟩ := hv
    exact ⟨vs, rfl, VRs.keepN h hf hr⟩
  | .tup cs, v, hf, hv => by
    rw [VR] at hv ⊢
    rw [fitA] at hf
    obtain ⟨vs, rfl, hr⟩ := hv
    exact ⟨vs, rfl, VRs.keepN h hf hr⟩
  | .fn f p q, v, hf, hv => by
    rw [VR] at hv ⊢
    rw [fitA] at hf
    obtain ⟨ps, qs, rfl, h1, h2⟩ := hv
    exact ⟨ps, qs, rfl, VRs.keepN h hf.1 h1, VRs.keepN h hf.2 h2⟩
  | .ifc t x, v, hf, hv => by
    rw [VR] at hv ⊢
    rw [fitA] at hf
    obtain ⟨u, rfl, h1⟩ := hv
    exact ⟨u, rfl, VR.keepN h hf h1⟩
  | .mp b, v, _, hv => by rw [VR] at hv; exact hv.elim
  | .ab, v, _, hv => by rw [VR] at hv ⊢; exact hv
  | .sv b len lo m, v, hf, hv => by
    rw [VR] at hv ⊢
    rw [fitA] at hf
    obtain ⟨hb, hi, a, cap, rfl, hc, hr⟩ := hv
    refine ⟨h.U _ hf hb, hi, a, cap, rfl, hc, fun e sz d es he => ?_⟩
    obtain ⟨e0, d0, es0, h0, hor⟩ := h.row b hf hb e sz d es he
    obtain ⟨h1, h2⟩ := hr _ _ _ _ h0
    rcases hor with ⟨hl, hρ⟩ | hl
    · rw [hl] at h1 h2
      rw [hρ]
      exact ⟨h1, h2⟩
    · exact ⟨by omega, fun he => by omega⟩
theorem VRow.keepN {n : Nat} {c c' : Cx} (h : c.leN n c') {sz : Nat} {blk : Nat} (hb : c'.w.heap[blk]? = c.w.heap[blk]?) : ∀ {es : List AV} {o : Nat}, fitL n es → VRow c sz es blk o → VRow c' sz es blk o
  | [], _, _, _ => by rw [VRow]; trivial
  | e :: es, o, hf, hr => by
    rw [VRow] at hr ⊢
    rw [fitL] at hf
    obtain ⟨⟨v, h1, h2⟩, h3⟩ := hr
    exact ⟨⟨v, h1.keep hb, VR.keepN h hf.1 h2⟩, VRow.keepN h hb hf.2 h3⟩
theorem VRs.keepN {n : Nat} {c c' : Cx} (h : c.leN n c') : ∀ {as : List AV} {vs : List Value}, fitL n as → VRs c as vs → VRs c' as vs
  | [], vs, _, hv => by rw [VRs] at hv ⊢; exact hv
  | a :: as, vs, hf, hv => by
    rw [VRs] at hv ⊢
    rw [fitL] at hf
    obtain ⟨v, vs', rfl, h1, h2⟩ := hv
    exact ⟨v, vs', rfl, VR.keepN h hf.1 h1, VRs.keepN h hf.2 h2⟩
end

/-- A context without own memory. -/
def base (w : World) (M : Nat → Prop) : Cx := ⟨fun _ => none, fun _ => none, fun _ => False, w, M⟩
theorem base_M {w : World} {M : Nat → Prop} {b : Nat} : (base w M).M b ↔ M b := by
  simp [Cx.M, base]

/-- What names no own memory is as true without it. -/
theorem VR.toBase {c : Cx} {M : Nat → Prop} (hM : ∀ b, M b → c.M b) {a : AV} {v : Value} (hf : fitA 0 a) (h : VR c a v) : VR (base c.w M) a v :=
  VR.keepN (n := 0) (c := c) (c' := base c.w M) ⟨fun b hb => by omega, fun b hm _ => ⟨rfl, fun hh => hm (hM b (base_M.1 hh))⟩, fun b hb => by omega⟩ hf h
theorem VRs.toBase {c : Cx} {M : Nat → Prop} (hM : ∀ b, M b → c.M b) {as : List AV} {vs : List Value} (hf : fitL 0 as) (h : VRs c as vs) : VRs (base c.w M) as vs :=
  VRs.keepN (n := 0) (c := c) (c' := base c.w M) ⟨fun b hb => by omega, fun b hm _ => ⟨rfl, fun hh => hm (hM b (base_M.1 hh))⟩, fun b hb => by omega⟩ hf h
theorem base_le {c : Cx} : (base c.w c.M).le c :=
  ⟨fun _ h => h.elim, Nat.le_refl _, fun _ hm _ => ⟨rfl, fun h => hm (base_M.2 h)⟩, fun _ hb => hb.elim⟩

mutual
/-- Own memory that is written no more. -/
def frz (H : Hp) : Nat → AV → AV
  | _, .sc u => .sc u
  | 0, a => a
  | k + 1, .sl b len => match getH H b with
    | some (.row _ sz _ es) => if es.length = len then .im sz .any (es.map (frz H k)) else .sl b len
    | none => .sl b len
  | k + 1, .sv b len lo n => match getH H b with
    | some (.row _ sz _ es) => if es.length = len then .im sz .any (((es.drop lo).take n).map (frz H k)) else .sv b len lo n
    | none => .sv b len lo n
  | k + 1, .pt b len i off => match getH H b with
    | some (.row _ sz _ es) => if es.length = len then .ip sz .any (es.map (frz H k)) i off else .pt b len i off
    | none => .pt b len i off
  | k + 1, .agg cs => .agg (cs.map (frz H k))
  | k + 1, .tup cs => .tup (cs.map (frz H k))
  | k + 1, .fn f p q => .fn f (p.map (frz H k)) (q.map (frz H k))
  | k + 1, .ifc t x => .ifc t (frz H k x)
  | _ + 1, a => a
end

theorem VRs.map {c c' : Cx} (f : AV → AV) : ∀ {as : List AV} {vs : List Value}, (∀ a ∈ as, ∀ v, VR c a v → VR c' (f a) v) → VRs c as vs → VRs c' (as.map f) vs
  | [], vs, _, h => by rw [VRs] at h; subst h; simp only [List.map_nil]; rw [VRs]
  | a :: as, vs, hf, h => by
    rw [VRs] at h
    obtain ⟨v, vs', rfl, h1, h2⟩ := h
    simp only [List.map_cons]
    rw [VRs]
    exact ⟨v, vs', rfl, hf a (by simp) v h1, VRs.map f (fun a ha => hf a (by simp [ha])) h2⟩

theorem frz_spec {w0 : World} {c : Cx} {H : Hp} (h : Sim w0 c) (hH : c.H = getH H) : ∀ (k : Nat) {a : AV} {v : Value}, fitA 0 (frz H k a) → VR c a v → VR (base c.w c.M0) (frz H k a) v := by
  intro k
  have hM : ∀ b, c.M0 b → c.M b := fun b hb => .inl hb
  induction k with
  | zero =>
    intro a v hf hv
    cases a <;> simp only [frz] at hf ⊢ <;> exact hv.toBase hM hf
  | succ k ih =>
    intro a v hf hv
    cases a <;> try (simp only [frz] at hf ⊢; exact hv.toBase hM hf)
    case sl b len =>
      simp only [frz] at hf ⊢
      cases hb : getH H b with
      | none => rw [hb] at hf; simp only [fitA] at hf; omega
      | some q =>
        obtain ⟨e, sz, d, es⟩ := q
        rw [hb] at hf
        simp only at hf ⊢
        split at hf
        · rename_i hlen
          rw [if_pos hlen]
          rw [fitA, fitL_map] at hf
          rw [VR] at hv
          obtain ⟨_, ad, cap, rfl, hr⟩ := hv
          rw [← hH] at hb
          obtain ⟨_, hr⟩ := hr _ _ _ _ hb
          obtain ⟨_, hz, hrow⟩ := h.row b _ _ _ _ hb
          rw [VR]
          rcases hr hlen with ⟨hρ, rfl, rfl⟩ | ⟨blk, o, z, hρ, rfl, hc1, _, _⟩
          · rcases hrow with ⟨_, he⟩ | ⟨_, _, _, hρ', _⟩
            · subst he; simp at hlen; subst hlen
              exact ⟨none, 0, by simp, by simp, .inl (by simp)⟩
            · rw [hρ] at hρ'; cases hρ'
          · rcases hrow with ⟨hρ', _⟩ | ⟨blk1, o1, z1, hρ1, hlow, _, _, hrow⟩
            · rw [hρ] at hρ'; cases hρ'
            · rw [hρ] at hρ1; cases hρ1
              refine ⟨_, cap, by simp [hlen], by simpa [hlen] using hc1, .inr ⟨blk, o, rfl, hz, fun hm => ?_, VRow_mk fun i hi => ?_⟩⟩
              · have := h.m0 blk (base_M.1 hm); omega
              · simp only [List.length_map] at hi
                obtain ⟨u, h1, h2⟩ := VRow_get hrow i hi
                refine ⟨u, h1, ?_⟩
                have e1 : (es.map (frz H k)).getD i .any = frz H k (es.getD i .any) := by
                  simp [List.getD, hi]
                rw [e1]
                refine ih (hf _ ?_) h2
                simp [List.getD, hi]
        · simp only [fitA] at hf; omega
    case pt b len i off =>
      simp only [frz] at hf ⊢
      cases hb : getH H b with
      | none => rw [hb] at hf; simp only [fitA] at hf; omega
      | some q =>
        obtain ⟨e, sz, d, es⟩ := q
        rw [hb] at hf
        simp only at hf ⊢
        split at hf
        · rename_i hlen
          rw [if_pos hlen]
          rw [fitA, fitL_map] at hf
          rw [VR] at hv
          obtain ⟨_, hi, ad, rfl, hr⟩ := hv
          rw [← hH] at hb
          obtain ⟨_, hr⟩ := hr _ _ _ _ hb
          obtain ⟨ho, blk, o, z, hρ, rfl⟩ := hr hlen
          obtain ⟨_, hz, hrow⟩ := h.row b _ _ _ _ hb
          rw [VR]
          rcases hrow with ⟨hρ', _⟩ | ⟨blk1, o1, z1, hρ1, hlow, _, _, hrow⟩
          · rw [hρ] at hρ'; cases hρ'
          · rw [hρ] at hρ1; cases hρ1
            refine ⟨by simp; omega, ho, blk, o, rfl, fun hm => ?_, VRow_mk fun i hi => ?_⟩
            · have := h.m0 blk (base_M.1 hm); omega
            · simp only [List.length_map] at hi
              obtain ⟨u, h1, h2⟩ := VRow_get hrow i hi
              refine ⟨u, h1, ?_⟩
              have e1 : (es.map (frz H k)).getD i .any = frz H k (es.getD i .any) := by
                simp [List.getD, hi]
              rw [e1]
              refine ih (hf _ ?_) h2
              simp [List.getD, hi]
        · simp only [fitA] at hf; omega
    case sv b len lo n =>
      simp only [frz] at hf ⊢
      cases hb : getH H b with
      | none => rw [hb] at hf; simp only [fitA] at hf; omega
      | some q =>
        obtain ⟨e, sz, d, es⟩ := q
        rw [hb] at hf
        simp only at hf ⊢
        split at hf
        · rename_i hlen
          rw [if_pos hlen]
          rw [fitA, fitL_map] at hf
          rw [VR] at hv
          obtain ⟨_, hln, ad, cap, rfl, hcap, hr⟩ := hv
          rw [← hH] at hb
          obtain ⟨_, hr⟩ := hr _ _ _ _ hb
          obtain ⟨_, hz, hrow⟩ := h.row b _ _ _ _ hb
          have hl2 : (((es.drop lo).take n).map (frz H k)).length = n := by simp; omega
          rw [VR]
          refine ⟨ad, cap, by rw [hl2], by rw [hl2]; exact hcap, ?_⟩
          rcases hr hlen with h0 | ⟨blk, o, z, hρ, rfl⟩
          · subst h0; exact .inl (by simp)
          · rcases hrow with ⟨hρ', _⟩ | ⟨blk1, o1, z1, hρ1, hlow, _, _, hrow⟩
            · rw [hρ] at hρ'; cases hρ'
            · rw [hρ] at hρ1; cases hρ1
              refine .inr ⟨blk, o + lo * sz, rfl, hz, fun hm => ?_, VRow_mk fun i hi => ?_⟩
              · have := h.m0 blk (base_M.1 hm); omega
              · rw [hl2] at hi
                obtain ⟨u, h1, h2⟩ := VRow_get (VRow_part hrow lo n (by omega)) i (by simp; omega)
                refine ⟨u, h1, ?_⟩
                have hil : i < ((es.drop lo).take n).length := by simp; omega
                have e1 : (((es.drop lo).take n).map (frz H k)).getD i .any = frz H k (((es.drop lo).take n).getD i .any) := by
                  simp only [List.getD, List.getElem?_map, List.getElem?_eq_getElem hil, Option.map_some, Option.getD_some]
                rw [e1]
                refine ih (hf _ ?_) h2
                simp only [List.getD, List.getElem?_eq_getElem hil, Option.getD_some]
                exact List.getElem_mem hil
        · simp only [fitA] at hf; omega
    case agg cs =>
      simp only [frz] at hf ⊢
      rw [VR] at hv
      obtain ⟨vs, rfl, hr⟩ := hv
      rw [fitA, fitL_map] at hf
      rw [VR]
      exact ⟨vs, rfl, VRs.map _ (fun a ha v hv => ih (hf a ha) hv) hr⟩
    case tup cs =>
      simp only [frz] at hf ⊢
      rw [VR] at hv
      obtain ⟨vs, rfl, hr⟩ := hv
      rw [fitA, fitL_map] at hf
      rw [VR]
      exact ⟨vs, rfl, VRs.map _ (fun a ha v hv => ih (hf a ha) hv) hr⟩
    case fn f p q =>
      simp only [frz] at hf ⊢
      rw [VR] at hv
      obtain ⟨ps, qs, rfl, h1, h2⟩ := hv
      rw [fitA, fitL_map, fitL_map] at hf
      rw [VR]
      exact ⟨ps, qs, rfl, VRs.map _ (fun a ha v hv => ih (hf.1 a ha) hv) h1, VRs.map _ (fun a ha v hv => ih (hf.2 a ha) hv) h2⟩
    case ifc t x =>
      simp only [frz] at hf ⊢
      rw [VR] at hv
      obtain ⟨u, rfl, h1⟩ := hv
      rw [fitA] at hf
      rw [VR]
      exact ⟨u, rfl, ih hf h1⟩
end Go.Abs
