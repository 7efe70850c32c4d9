import Derived.Test.YtflicfkgbjmffaaM28
section
/- A step of the machine, gathered. -/
namespace Go.Proofs.Ytflicfkgbjmffaa
open Go Go.Abs Go.Proofs V
set_option linter.unusedSimpArgs false
set_option linter.unusedVariables false
section
variable {m nc : Nat} {F : List Int} {g : GS} {τ κ : Nat → Nat} {now : Nat} {s s2 : Mach} {q : Nat} {d : DidS}
def Next (m nc : Nat) (F : List Int) (g : GS) (τ κ : Nat → Nat) (now : Nat) (s2 : Mach) (g2 : GS) (τ2 κ2 : Nat → Nat) : Prop :=
  GI m nc F g2 τ2 κ2 (now + 1) ∧ ML m nc F s2 g2 ∧ g.ev.length ≤ g2.ev.length ∧ g2.ev.length ≤ g.ev.length + 1 ∧ (∀ i, i < g.ev.length → g2.e i = g.e i ∧ g2.f i = g.f i ∧ τ2 i = τ i) ∧ (∀ i, i < g.ev.length → Came g i → κ2 i = κ i) ∧
    (∀ i, i < g2.ev.length → g.ev.length ≤ i → τ2 i = now) ∧ (∀ i, i < g2.ev.length → Came g2 i → (i < g.ev.length ∧ Came g i) ∨ κ2 i = now)
theorem core_of (ml : ML m nc F s g) (hd : Does s q d s2) : q < nc ∧ d.core.toNat = q := ⟨ml.nco ▸ hd.lt, by rw [hd.core]; exact Int.toNat_natCast q⟩
theorem next_same (h : GI m nc F g τ κ now) (ml : ML m nc F s g) (hd : Does s q d s2) (hl : s2.cores.length = s.cores.length) (hk : d.kind = 1 ∨ d.kind = 7) : Next m nc F g τ κ now s2 g τ κ := by
  refine ⟨h.later (by omega), ⟨?_, hl.trans ml.nco, fun c hc => ?_, fun t ht => ?_, ml.k2⟩, Nat.le_refl _, by omega, fun i _ => ⟨rfl, rfl, rfl⟩, fun _ _ _ => rfl, fun i h1 h2 => by omega, fun i h1 h2 => .inl ⟨h1, h2⟩⟩
  · rw [hd.mem, if_neg (by omega), if_neg (by omega)]; exact ml.nm
  · by_cases hcq : c = q
    · rw [hcq, hd.buf, if_neg (by omega), if_neg (by omega)]; exact ml.buf q (hcq ▸ hc)
    · rw [hd.other c hcq]; exact ml.buf c hc
  · rw [hd.mem, if_neg (by omega), if_neg (by omega)]; exact ml.mem t ht
theorem next_add (h : GI m nc F g τ κ now) (ml : ML m nc F s g) (hd : Does s q d s2) (hl : s2.cores.length = s.cores.length) {D : Deed} {f : Int} (p : PutOk m nc F g D f) (hD : D.thread = q) (h4 : d.kind ≠ 4) (h8 : d.kind ≠ 8)
    (hw : D.wr = true ↔ d.kind = 3) (h3 : d.kind = 3 → D.thing = d.addr ∧ D.put = d.word ∧ D.kind = 2) : Next m nc F g τ κ now s2 (g.add D f) (fun i => if i = g.ev.length then now else τ i) κ := by
  obtain ⟨hq, hdc⟩ := core_of ml hd
  have hq2 : D.thread.toNat < g.q.length := by rw [h.lq]; omega
  have hE : ∀ i, i < g.ev.length → (g.add D f).e i = g.e i := fun i hi => add_e hi
  have hwm : ∀ c, (g.add D f).w c = if D.wr = true ∧ c = D.thread.toNat then g.w c ++ [(g.ev.length : Int)] else g.w c := fun c => add_w hq2
  have hmap : ∀ c, c < nc → (g.w c).map (fun k => (((g.add D f).e k.toNat).thing, ((g.add D f).e k.toNat).put)) = (g.w c).map (fun k => ((g.e k.toNat).thing, (g.e k.toNat).put)) := fun c hc =>
    List.map_congr_left fun k hk => by rw [hE _ (h.q c hc k hk).2.1]
  refine ⟨h.add p, ⟨?_, hl.trans ml.nco, fun c hc => ?_, fun t ht => ?_, fun c hc k hk => ?_⟩, by rw [add_len]; omega, by rw [add_len]; exact Nat.le_refl _, fun i hi => ⟨hE i hi, gD_app _ (by rw [h.lf]; exact hi), if_neg (by omega)⟩, fun _ _ _ => rfl, fun i h1 h2 => ?_, fun i h1 h2 => ?_⟩
  · rw [hd.mem, if_neg h4, if_neg h8]; exact ml.nm
  · rw [hwm]
    by_cases hcq : c = q
    · subst hcq
      rw [hd.buf, if_neg h8]
      by_cases hk3 : d.kind = 3
      · obtain ⟨e1, e2, e3⟩ := h3 hk3
        rw [if_pos hk3, if_pos ⟨hw.2 hk3, by omega⟩, List.map_append, List.map_append, hmap c hc, ml.buf c hc]
        simp only [List.map_cons, List.map_nil, Int.toNat_natCast]
        rw [add_n, e1, e2]
      · rw [if_neg hk3, if_neg (fun hx => hk3 (hw.1 hx.1)), hmap c hc, ml.buf c hc]
    · rw [hd.other c hcq, if_neg (fun hx => hcq (by omega)), hmap c hc]
      exact ml.buf c hc
  · rw [hd.mem, if_neg h4, if_neg h8, ml.mem t ht]
    show _ = if g.l t = -1 then _ else ((g.add D f).e (g.l t).toNat).put
    rcases h.lastIn ht with ⟨b1, _⟩ | ⟨b1, b2, _⟩
    · rw [if_pos b1, if_pos b1]
    · rw [if_neg (by omega), if_neg (by omega), hE _ (h.aft t ht _ b2).2.1]
  · rw [hwm] at hk
    split at hk
    · rename_i hx
      rcases List.mem_append.1 hk with hk | hk
      · rw [hE _ (h.q c hc k hk).2.1]; exact ml.k2 c hc k hk
      · simp only [List.mem_singleton] at hk
        subst hk
        rw [Int.toNat_natCast, add_n]
        exact (h3 (hw.1 hx.1)).2.2
    · rw [hE _ (h.q c hc k hk).2.1]; exact ml.k2 c hc k hk
  · rw [add_len] at h1
    exact if_pos (by omega)
  · rw [add_len] at h1
    by_cases hin : i = g.ev.length
    · subst hin; exact absurd h2 (add_new h p.ev p.kd)
    · exact .inl ⟨by omega, (add_came h (by omega)).1 h2⟩
theorem list_set_getD {α : Type} {l : List α} {i : Nat} {d v : α} (hi : i < l.length) (h : l.getD i d = v) : l.set i v = l := by
  have : l.getD i d = l[i] := by simp [List.getD, hi]
  rw [← h, this, List.set_getElem_self]
theorem nil_map {α β γ : Type} {f : α → γ} {g : β → γ} {l : List α} {m : List β} (h : l.map f = m.map g) (hl : l = []) : m = [] := by
  rw [hl] at h
  exact List.map_eq_nil_iff.1 h.symm
theorem putRd {c a w f : Int} (h8 : nc ≤ 8) (hc : 0 ≤ c ∧ c < nc) (ha : 0 ≤ a ∧ a < m) (hr : (∃ w' : Nat, f = w' ∧ (w' : Int) ∈ g.w c.toNat ∧ (g.e w').thing = a ∧ (g.e w').put = w ∧ ∀ k ∈ g.w c.toNat, (g.e k.toNat).thing = a → k ≤ w') ∨ (f = g.l a.toNat ∧ (∀ k ∈ g.w c.toNat, (g.e k.toNat).thing ≠ a) ∧ w = if f = -1 then F.getD a.toNat 0 else (g.e f.toNat).put)) : PutOk m nc F g ⟨1, c, a, w, 0⟩ f where
  ev := evOk_mk (show (1 : Int) ≠ 0 by decide) (show (1 : Int) < 5 by decide) hc.1 (show c < 8 by omega) (.inl (by simp [Deed.rd])) (.inr rfl) (fun h => absurd (show (1 : Int) = 4 from h) (by decide)) (fun _ => ha)
  kd := show (1 : Int) ≤ 1 by decide
  thr := hc.2
  wait := fun hx => absurd (show (1 : Int) = 3 ∨ (1 : Int) = 4 from hx) (by decide)
  nrd := fun hx => by simp [Deed.rd] at hx
  rd := fun _ => hr.imp (fun hx => ⟨rfl, hx⟩) id
theorem putWr {c a w : Int} (h8 : nc ≤ 8) (hc : 0 ≤ c ∧ c < nc) (ha : 0 ≤ a ∧ a < m) : PutOk m nc F g ⟨2, c, a, 0, w⟩ (-1) where
  ev := evOk_mk (show (2 : Int) ≠ 0 by decide) (show (2 : Int) < 5 by decide) hc.1 (show c < 8 by omega) (.inr rfl) (.inl (by simp [Deed.wr])) (fun h => absurd (show (2 : Int) = 4 from h) (by decide)) (fun _ => ha)
  kd := show (1 : Int) ≤ 2 by decide
  thr := hc.2
  wait := fun hx => absurd (show (2 : Int) = 3 ∨ (2 : Int) = 4 from hx) (by decide)
  nrd := fun _ => rfl
  rd := fun hx => by simp [Deed.rd] at hx
theorem putSw {c a w p : Int} (h8 : nc ≤ 8) (hc : 0 ≤ c ∧ c < nc) (ha : 0 ≤ a ∧ a < m) (h0 : g.w c.toNat = []) (hr : w = if g.l a.toNat = -1 then F.getD a.toNat 0 else (g.e (g.l a.toNat).toNat).put) : PutOk m nc F g ⟨3, c, a, w, p⟩ (g.l a.toNat) where
  ev := evOk_mk (show (3 : Int) ≠ 0 by decide) (show (3 : Int) < 5 by decide) hc.1 (show c < 8 by omega) (.inl (by simp [Deed.rd])) (.inl (by simp [Deed.wr])) (fun h => absurd (show (3 : Int) = 4 from h) (by decide)) (fun _ => ha)
  kd := show (1 : Int) ≤ 3 by decide
  thr := hc.2
  wait := fun _ => h0
  nrd := fun hx => by simp [Deed.rd] at hx
  rd := fun _ => .inr ⟨rfl, ⟨fun k (hk : k ∈ g.w c.toNat) => (by rw [h0] at hk; cases hk), hr⟩⟩
theorem putFe {c : Int} (h8 : nc ≤ 8) (hc : 0 ≤ c ∧ c < nc) (h0 : g.w c.toNat = []) : PutOk m nc F g ⟨4, c, 0, 0, 0⟩ (-1) where
  ev := evOk_mk (show (4 : Int) ≠ 0 by decide) (show (4 : Int) < 5 by decide) hc.1 (show c < 8 by omega) (.inr rfl) (.inr rfl) (fun _ => rfl) (fun h => absurd rfl h)
  kd := show (1 : Int) ≤ 4 by decide
  thr := hc.2
  wait := fun _ => h0
  nrd := fun _ => rfl
  rd := fun hx => by simp [Deed.rd] at hx
theorem did_next (h : GI m nc F g τ κ now) (ml : ML m nc F s g) (h8 : nc ≤ 8) (hd : Does s q d s2) (hl : s2.cores.length = s.cores.length) : ∃ τ2 κ2, Next m nc F g τ κ now s2 (g.did d) τ2 κ2 := by
  obtain ⟨hq, hdc⟩ := core_of ml hd
  have hkd := hd.kind
  have had := hd.addr
  have hbq := ml.buf q hq
  rw [ml.nm] at had
  have hcore := hd.core
  by_cases k2 : d.kind = 2
  · have hld := hd.load k2
    have ha := had (by omega)
    have hat : d.addr.toNat < m := by omega
    have e : g.did d = g.add ⟨1, d.core, d.addr, d.word, 0⟩ (g.seen d) := by
      rw [GS.did, if_pos k2, GS.add, if_neg (by simp [Deed.wr])]; rfl
    rw [e]
    refine ⟨_, _, next_add h ml hd hl (putRd h8 (by omega) ha ?_) hcore (by omega) (by omega) ?_ (fun hx => by omega)⟩
    · show (∃ w : Nat, g.seen d = w ∧ (w : Int) ∈ g.w d.core.toNat ∧ (g.e w).thing = d.addr ∧ (g.e w).put = d.word ∧ ∀ k ∈ g.w d.core.toNat, (g.e k.toNat).thing = d.addr → k ≤ w) ∨ (g.seen d = g.l d.addr.toNat ∧ (∀ k ∈ g.w d.core.toNat, (g.e k.toNat).thing ≠ d.addr) ∧ d.word = if g.seen d = -1 then F.getD d.addr.toNat 0 else (g.e (g.seen d).toNat).put)
      rw [hdc]
      unfold GS.seen
      rw [hdc]
      rcases seen_own g.ev d.addr (s.core q).buf (g.w q) (s.mem.getD d.addr.toNat 0) false (g.l d.addr.toNat) hbq with ⟨b1, b2, b3⟩ | ⟨k, hk, b1, b2, b3, b4⟩
      · rw [b1] at hld
        obtain ⟨e1, e2⟩ := Prod.mk.inj hld
        rw [e2, if_neg (by decide)]
        refine .inr ⟨rfl, b3, ?_⟩
        rw [e1]; exact ml.mem _ hat
      · rw [b1] at hld
        obtain ⟨e1, e2⟩ := Prod.mk.inj hld
        rw [e2, if_pos rfl, b2]
        have hk0 := (h.q q hq k hk).1
        refine .inl ⟨k.toNat, (Int.toNat_of_nonneg hk0).symm, by rw [Int.toNat_of_nonneg hk0]; exact hk, b3, e1.symm, fun k' hk' he => ?_⟩
        rw [Int.toNat_of_nonneg hk0]
        exact b4 (h.qs q hq) k' hk' he
    · exact ⟨fun hx => by simp [Deed.wr] at hx, fun hx => by omega⟩
  by_cases k3 : d.kind = 3
  · have ha := had (by omega)
    have e : g.did d = g.add ⟨2, d.core, d.addr, 0, d.word⟩ (-1) := by
      rw [GS.did, if_neg k2, if_pos k3, GS.add, if_pos (by simp [Deed.wr])]
    rw [e]
    exact ⟨_, _, next_add h ml hd hl (putWr h8 (by omega) ha) hcore (by omega) (by omega) ⟨fun _ => k3, fun _ => by simp [Deed.wr]⟩ (fun _ => ⟨rfl, rfl, rfl⟩)⟩
  by_cases k4 : d.kind = 4
  · have ha := had (by omega)
    have hat : d.addr.toNat < m := by omega
    have hw0 : g.w q = [] := nil_map hbq (hd.wait (.inl k4))
    have hsw := hd.swap k4
    have p : PutOk m nc F g ⟨3, d.core, d.addr, d.word, d.put⟩ (g.l d.addr.toNat) := putSw h8 (by omega) ha (by rw [hdc]; exact hw0) (by rw [hsw]; exact ml.mem _ hat)
    have hg := h.add p
    have hq2 : d.core.toNat < g.q.length := by rw [h.lq]; omega
    have hwq : (g.add ⟨3, d.core, d.addr, d.word, d.put⟩ (g.l d.addr.toNat)).w q = (g.ev.length : Int) :: [] := by
      rw [add_w hq2, if_pos ⟨by simp [Deed.wr], hdc.symm⟩, hw0]; rfl
    have hN : (g.add ⟨3, d.core, d.addr, d.word, d.put⟩ (g.l d.addr.toNat)).e g.ev.length = ⟨3, d.core, d.addr, d.word, d.put⟩ := add_n
    have hL := @add_len g ⟨3, d.core, d.addr, d.word, d.put⟩ (g.l d.addr.toNat)
    have hcs : ∀ i, i < g.ev.length → (Came (g.add ⟨3, d.core, d.addr, d.word, d.put⟩ (g.l d.addr.toNat)) i ↔ Came g i) := fun i hi => add_came h hi
    have hcn : ¬ Came (g.add ⟨3, d.core, d.addr, d.word, d.put⟩ (g.l d.addr.toNat)) g.ev.length := add_new h p.ev p.kd
    obtain ⟨hp, hpc⟩ := hg.pop (c := q) hq hwq (T := now) (now' := now + 1) (fun i hi hc => by
        rw [hL] at hi
        by_cases hin : i = g.ev.length
        · subst hin; exact absurd hc hcn
        · exact (h.k1 i (by omega) ((hcs i (by omega)).1 hc)).1) (fun i hi hne => by
        rw [hL] at hi
        rw [if_neg hne]
        exact h.t2 i (by omega)) (fun hx => by rw [hN] at hx; cases hx) (fun _ => if_pos rfl) (Nat.le_refl _) (by omega)
    have e : g.did d = (g.add ⟨3, d.core, d.addr, d.word, d.put⟩ (g.l d.addr.toNat)).pop q d.addr.toNat g.ev.length := by
      rw [GS.did, if_neg k2, if_neg k3, if_pos k4, GS.pop, hwq]
      have e2 : (g.add ⟨3, d.core, d.addr, d.word, d.put⟩ (g.l d.addr.toNat)).q.set q [] = g.q := by
        rw [GS.add, if_pos (by simp [Deed.wr])]
        show (g.q.set d.core.toNat _).set q [] = g.q
        rw [hdc, List.set_set]
        exact list_set_getD (d := []) (by rw [← hdc]; exact hq2) hw0
      rw [List.tail_cons, e2]
      rfl
    rw [hN] at hp hpc
    rw [e]
    have hE : ∀ i, i < g.ev.length → ((g.add ⟨3, d.core, d.addr, d.word, d.put⟩ (g.l d.addr.toNat)).pop q d.addr.toNat g.ev.length).e i = g.e i := fun i hi => add_e (f := g.l d.addr.toNat) hi
    have hw : ∀ c, ((g.add ⟨3, d.core, d.addr, d.word, d.put⟩ (g.l d.addr.toNat)).pop q d.addr.toNat g.ev.length).w c = g.w c := fun c => by rw [← e, GS.did, if_neg k2, if_neg k3, if_pos k4]; rfl
    refine ⟨_, _, hp, ⟨?_, hl.trans ml.nco, fun c hc => ?_, fun t ht => ?_, fun c hc k hk => ?_⟩, ?_, ?_, fun i hi => ⟨hE i hi, gD_app _ (by rw [h.lf]; exact hi), if_neg (by omega)⟩, fun i hi hc => if_neg (by omega), fun i h1 h2 => ?_, fun i h1 h2 => ?_⟩
    · rw [hd.mem, if_pos k4, List.length_set]; exact ml.nm
    · rw [hw]
      have hmap : (g.w c).map (fun k => ((((g.add ⟨3, d.core, d.addr, d.word, d.put⟩ (g.l d.addr.toNat)).pop q d.addr.toNat g.ev.length).e k.toNat).thing, (((g.add ⟨3, d.core, d.addr, d.word, d.put⟩ (g.l d.addr.toNat)).pop q d.addr.toNat g.ev.length).e k.toNat).put)) = (g.w c).map (fun k => ((g.e k.toNat).thing, (g.e k.toNat).put)) :=
        List.map_congr_left fun k hk => by rw [hE _ (h.q c hc k hk).2.1]
      rw [hmap]
      by_cases hcq : c = q
      · rw [hcq, hd.buf, if_neg (by omega), if_neg (by omega)]; exact hbq
      · rw [hd.other c hcq]; exact ml.buf c hc
    · rw [hd.mem, if_pos k4, gD_set (by rw [ml.nm]; exact hat)]
      have el : ((g.add ⟨3, d.core, d.addr, d.word, d.put⟩ (g.l d.addr.toNat)).pop q d.addr.toNat g.ev.length).l t = if t = d.addr.toNat then (g.ev.length : Int) else g.l t := gD_set (by show d.addr.toNat < g.last.length; rw [h.ll]; exact hat)
      rw [el]
      by_cases htd : t = d.addr.toNat
      · rw [if_pos htd, if_pos htd, if_neg (by omega), Int.toNat_natCast]
        show _ = ((g.add ⟨3, d.core, d.addr, d.word, d.put⟩ (g.l d.addr.toNat)).e g.ev.length).put
        rw [hN]
      · rw [if_neg htd, if_neg htd, ml.mem t ht]
        rcases h.lastIn ht with ⟨b1, _⟩ | ⟨b1, b2, _⟩
        · rw [if_pos b1, if_pos b1]
        · rw [if_neg (by omega), if_neg (by omega), hE _ (h.aft t ht _ b2).2.1]
    · rw [hw] at hk
      rw [hE _ (h.q c hc k hk).2.1]; exact ml.k2 c hc k hk
    · show g.ev.length ≤ (g.ev ++ [_]).length; rw [List.length_append]; omega
    · show (g.ev ++ [_]).length ≤ _; rw [List.length_append]; exact Nat.le_refl _
    · have h1 : i < (g.add ⟨3, d.core, d.addr, d.word, d.put⟩ (g.l d.addr.toNat)).ev.length := h1
      rw [hL] at h1
      exact if_pos (by omega)
    · have h1 : i < (g.add ⟨3, d.core, d.addr, d.word, d.put⟩ (g.l d.addr.toNat)).ev.length := h1
      rw [hL] at h1
      rcases (hpc i).1 h2 with h3 | h3
      · by_cases hin : i = g.ev.length
        · subst hin; exact absurd h3 hcn
        · exact .inl ⟨by omega, (hcs i (by omega)).1 h3⟩
      · exact .inr (if_pos h3)
  by_cases k5 : d.kind = 5 ∨ d.kind = 6
  · have hw0 : g.w q = [] := nil_map hbq (hd.wait (.inr k5))
    have e : g.did d = g.add ⟨4, d.core, 0, 0, 0⟩ (-1) := by
      rw [GS.did, if_neg k2, if_neg k3, if_neg k4, if_pos k5, GS.add, if_neg (by simp [Deed.wr])]; rfl
    rw [e]
    exact ⟨_, _, next_add h ml hd hl (putFe h8 (by omega) (by rw [hdc]; exact hw0)) hcore (by omega) (by omega) ⟨fun hx => by simp [Deed.wr] at hx, fun hx => by omega⟩ (fun hx => by omega)⟩
  by_cases k8 : d.kind = 8
  · have ha := had (by omega)
    have hat : d.addr.toNat < m := by omega
    have hdr := hd.drain k8
    have hb8 := hd.buf
    rw [if_neg k3, if_pos k8] at hb8
    rw [hdr] at hbq
    cases hwq : g.w q with
    | nil => rw [hwq] at hbq; simp at hbq
    | cons k0 r =>
      rw [hwq] at hbq
      simp only [List.map_cons, List.cons.injEq, Prod.mk.injEq] at hbq
      obtain ⟨⟨e1, e2⟩, e3⟩ := hbq
      obtain ⟨q1, q2, q3, q4⟩ := h.q q hq k0 (by rw [hwq]; simp)
      have q5 := ml.k2 q hq k0 (by rw [hwq]; simp)
      have hk0 : ((k0.toNat : Nat) : Int) = k0 := Int.toNat_of_nonneg q1
      obtain ⟨hp, hpc⟩ := h.pop (c := q) (k := k0.toNat) (r := r) hq (by rw [hk0]; exact hwq) (T := now) (now' := now + 1) (fun i hi hc => (h.k1 i hi hc).1) (fun i hi _ => h.t2 i hi) (fun _ => h.t2 _ q2) (fun hx => by omega) (by omega) (by omega)
      have e : g.did d = g.pop q (g.e k0.toNat).thing.toNat k0.toNat := by
        rw [GS.did, if_neg k2, if_neg k3, if_neg k4, if_neg k5, if_pos k8, GS.pop, hdc, hwq, List.headD_cons, hk0, ← e1]
      rw [e]
      have hw : ∀ c, (g.pop q (g.e k0.toNat).thing.toNat k0.toNat).w c = if c = q then r else g.w c := fun c => by
        show (g.q.set q (g.w q).tail).getD c [] = _
        rw [gD_set (by rw [h.lq]; exact hq), hwq, List.tail_cons]
      have hnk : ¬ Came g k0.toNat := fun hm => by
        have := h.dis _ q2 hm
        rw [q4, Int.toNat_natCast, hk0, hwq] at this
        simp at this
      refine ⟨_, _, hp, ⟨?_, hl.trans ml.nco, fun c hc => ?_, fun t ht => ?_, fun c hc k hk => ?_⟩, Nat.le_refl _, Nat.le_succ _, fun i hi => ⟨rfl, rfl, rfl⟩, fun i hi hc => if_neg (fun hx : i = k0.toNat => hnk (hx ▸ hc)), fun i h1 h2 => ?_, fun i h1 h2 => ?_⟩
      · rw [hd.mem, if_neg k4, if_pos k8, List.length_set]; exact ml.nm
      · rw [hw]
        by_cases hcq : c = q
        · rw [if_pos hcq, hcq, hb8]; exact e3
        · rw [if_neg hcq, hd.other c hcq]; exact ml.buf c hc
      · rw [hd.mem, if_neg k4, if_pos k8, gD_set (by rw [ml.nm]; exact hat)]
        have el : (g.pop q (g.e k0.toNat).thing.toNat k0.toNat).l t = if t = (g.e k0.toNat).thing.toNat then ((k0.toNat : Nat) : Int) else g.l t := gD_set (by show (g.e k0.toNat).thing.toNat < g.last.length; rw [h.ll, ← e1]; exact hat)
        rw [el, ← e1]
        by_cases htd : t = d.addr.toNat
        · rw [if_pos htd, if_pos htd, if_neg (by omega), Int.toNat_natCast]
          exact e2
        · rw [if_neg htd, if_neg htd]; exact ml.mem t ht
      · rw [hw] at hk
        split at hk
        · exact ml.k2 q hq k (by rw [hwq]; exact List.mem_cons_of_mem _ hk)
        · exact ml.k2 c hc k hk
      · have h1 : i < g.ev.length := h1; omega
      · rcases (hpc i).1 h2 with h3 | h3
        · exact .inl ⟨h1, h3⟩
        · exact .inr (if_pos h3)
  have e : g.did d = g := by rw [GS.did, if_neg k2, if_neg k3, if_neg k4, if_neg k5, if_neg k8]
  rw [e]
  exact ⟨_, _, next_same h ml hd hl (by omega)⟩
end
end Go.Proofs.Ytflicfkgbjmffaa
end
section
/- What was gathered is right and tso; with stores that come at once it is plain. -/
namespace Go.Proofs.Ytflicfkgbjmffaa
open Go Go.Abs Go.Proofs V
set_option linter.unusedSimpArgs false
set_option linter.unusedVariables false
def iota (n : Nat) : List Int := (List.range n).map fun (k : Nat) => (k : Int)
theorem iota_mem {n : Nat} {k : Int} : k ∈ iota n ↔ 0 ≤ k ∧ k < n := by
  simp only [iota, List.mem_map, List.mem_range]
  constructor
  · rintro ⟨a, h, rfl⟩; omega
  · intro h; exact ⟨k.toNat, by omega, by omega⟩
theorem iota_nodup (n : Nat) : (iota n).Nodup := by
  unfold iota List.Nodup
  rw [List.pairwise_map]
  refine (List.pairwise_lt_range (n := n)).imp ?_
  intro a b h; omega
theorem nodup_sub : ∀ {l m : List Int}, l.Nodup → (∀ a ∈ l, a ∈ m) → l.length ≤ m.length
  | [], _, _, _ => by simp
  | a :: l, m, hn, hs => by
    rw [List.nodup_cons] at hn
    have ha := hs a List.mem_cons_self
    have h1 := nodup_sub (l := l) (m := m.erase a) hn.2 (fun b hb => (List.mem_erase_of_ne (fun e => hn.1 (by rw [← e]; exact hb))).2 (hs b (List.mem_cons_of_mem _ hb)))
    rw [List.length_erase_of_mem ha] at h1
    have := List.length_pos_of_mem ha
    simp only [List.length_cons]; omega
theorem badFrom_of {y : Exec} : ∀ {m i : Nat}, (∀ j, i ≤ j → j < i + m → goodAt y j = true) → badFrom y m i = none
  | 0, i, _ => rfl
  | m + 1, i, h => by
    rw [badFrom, if_pos (h i (Nat.le_refl _) (by omega))]
    exact badFrom_of fun j h1 h2 => h j (by omega) (by omega)
theorem posI_at : ∀ {l : List Int} {k : Int} {i : Nat}, k ∈ l → ∃ j, ∃ h : j < l.length, posI l k i = (i + j : Nat) ∧ l[j] = k
  | [], k, i, h => by cases h
  | x :: l, k, i, h => by
    by_cases hk : k = x
    · exact ⟨0, by simp, by rw [posI, if_pos hk]; rfl, by simp [hk]⟩
    · obtain ⟨j, h1, h2, h3⟩ := posI_at (i := i + 1) ((List.mem_cons.1 h).resolve_left hk)
      refine ⟨j + 1, by simpa using h1, ?_, by simpa using h3⟩
      rw [posI, if_neg hk, h2]; omega
theorem posI_pair {R : Int → Int → Prop} {l : List Int} (h : l.Pairwise R) {a b : Int} (ha : a ∈ l) (hb : b ∈ l) (hp : posI l a 0 < posI l b 0) : R a b := by
  obtain ⟨i, i1, i2, i3⟩ := posI_at (i := 0) ha
  obtain ⟨j, j1, j2, j3⟩ := posI_at (i := 0) hb
  have := List.pairwise_iff_getElem.1 h i j i1 j1 (by omega)
  rw [i3, j3] at this
  exact this
def GS.exec (F : List Int) (g : GS) : Exec := ⟨F, g.ev, g.frm, g.aft⟩
section
variable {m nc : Nat} {F : List Int} {g : GS} {τ κ : Nat → Nat} {now : Nat}
def AllC (nc : Nat) (g : GS) : Prop := ∀ c, c < nc → g.w c = []
theorem AllC.came (h : GI m nc F g τ κ now) (hc : AllC nc g) {i : Nat} (hi : i < g.ev.length) (hw : (g.e i).wr = true) : Came g i := by
  rcases h.cov i hi hw with h1 | h1
  · exact h1
  · rw [hc _ (h.thr hi).2] at h1; cases h1
theorem gi_aft (h : GI m nc F g τ κ now) (hm : F.length = m) (hc : AllC nc g) : aftOk (g.exec F) := by
  have hla : g.aft.length = m := h.la
  have hmem : ∀ k : Int, k ∈ g.aft.flatten ↔ ∃ t, t < m ∧ k ∈ g.a t := fun k => by
    rw [List.mem_flatten]
    constructor
    · rintro ⟨l, hl, hk⟩
      obtain ⟨t, ht, rfl⟩ := List.mem_iff_getElem.1 hl
      exact ⟨t, by omega, by show k ∈ g.aft.getD t []; simpa [List.getD, ht] using hk⟩
    · rintro ⟨t, ht, hk⟩
      have ht2 : t < g.aft.length := by omega
      exact ⟨g.aft[t], List.getElem_mem ht2, by simpa [GS.a, List.getD, ht2] using hk⟩
  have hnd : g.aft.flatten.Nodup := by
    unfold List.Nodup
    rw [List.pairwise_flatten]
    refine ⟨fun l hl => ?_, ?_⟩
    · obtain ⟨t, ht, rfl⟩ := List.mem_iff_getElem.1 hl
      have := h.srt t (by omega)
      rw [show g.a t = g.aft[t] by simp [GS.a, List.getD, ht]] at this
      exact this.imp fun hab e => by rw [e] at hab; omega
    · refine List.pairwise_iff_getElem.2 fun i j hi hj hij a ha b hb e => ?_
      have h1 := (h.aft i (by omega) a (by simpa [GS.a, List.getD, hi] using ha)).2.2.2
      have h2 := (h.aft j (by omega) b (by simpa [GS.a, List.getD, hj] using hb)).2.2.2
      rw [e] at h1; omega
  refine ⟨fun t ht k hk => ?_, hnd, ?_⟩
  · have ht : t < g.aft.length := ht
    obtain ⟨h1, h2, h3, h4⟩ := h.aft t (by omega) k hk
    simp only [afOk, Bool.and_eq_true, decide_eq_true_eq]
    have e : (g.exec F).events.length = g.ev.length := rfl
    exact ⟨⟨⟨h1, by omega⟩, h3⟩, h4⟩
  · have hw : ((g.exec F).events.countP Deed.wr) = ((iota g.ev.length).filter fun k => (g.e k.toNat).wr).length := by
      show g.ev.countP Deed.wr = _
      rw [← List.countP_eq_length_filter]
      have e1 : iota g.ev.length = (List.range g.ev.length).map fun k : Nat => (k : Int) := rfl
      rw [e1, List.countP_map]
      have e2 : g.ev = (List.range g.ev.length).map fun i => g.e i := by
        refine List.ext_getElem (by simp) fun i h1 h2 => ?_
        simp [GS.e, List.getD, h1]
      conv => lhs; rw [e2, List.countP_map]
      rfl
    show g.aft.flatten.length = _
    unfold Exec.wrs
    rw [hw]
    refine Nat.le_antisymm (nodup_sub hnd fun k hk => ?_) (nodup_sub ((iota_nodup _).filter _) fun k hk => ?_)
    · obtain ⟨t, ht, hk⟩ := (hmem k).1 hk
      obtain ⟨h1, h2, h3, h4⟩ := h.aft t ht k hk
      exact List.mem_filter.2 ⟨iota_mem.2 ⟨h1, by omega⟩, h3⟩
    · obtain ⟨h1, h2⟩ := List.mem_filter.1 hk
      have h3 := iota_mem.1 h1
      have hi : k.toNat < g.ev.length := by omega
      have h4 := AllC.came h hc hi h2
      refine (hmem k).2 ⟨_, (h.thing hi (wr_ne4 h2)).2.2, ?_⟩
      have : ((k.toNat : Nat) : Int) = k := Int.toNat_of_nonneg h3.1
      rw [← this]; exact h4
theorem gi_ok (h : GI m nc F g τ κ now) (hm : F.length = m) (hc : AllC nc g) (hn : g.ev.length ≤ 64) : okB (g.exec F) = true := by
  have e1 : (g.exec F).events.length = g.ev.length := rfl
  have hs : shapeB (g.exec F) = true := by
    simp only [shapeB, Bool.and_eq_true, decide_eq_true_eq]
    exact ⟨⟨hn, h.lf⟩, h.la.trans hm.symm⟩
  have hb : badFrom (g.exec F) (g.exec F).events.length 0 = none := badFrom_of fun j _ hj => by
    have hj : j < g.ev.length := by omega
    simp only [goodAt, Bool.and_eq_true]
    refine ⟨?_, ?_⟩
    · show evOk F.length (g.e j) = true
      rw [hm]; exact h.ev j hj
    · have e3 : (g.exec F).ev j = g.e j := rfl
      have e4 : (g.exec F).fr j = g.f j := rfl
      unfold frOk
      rw [e3, e4]
      rcases h.fr j hj with ⟨h1, h2⟩ | ⟨h1, h2⟩
      · rw [h1, if_neg (by decide), decide_eq_true h2]
      · rw [if_pos h1]
        rcases h2 with ⟨h2, h3⟩ | ⟨w, h2, h3, h4, h5, h6⟩
        · rw [if_pos h2]; exact decide_eq_true h3
        · rw [if_neg (by omega)]
          simp only [Bool.and_eq_true, decide_eq_true_eq]
          have e5 : (g.exec F).ev (g.f j).toNat = g.e w := by
            show g.e (g.f j).toNat = _
            rw [h2, Int.toNat_natCast]
          rw [e5]
          exact ⟨⟨⟨⟨⟨by omega, by omega⟩, by omega⟩, h4⟩, h5⟩, h6⟩
  have ha : aftOk (g.exec F) := gi_aft h hm hc
  have e : checkS (g.exec F) = (0, 0) := by
    unfold checkS
    rw [if_pos hs, hb]
    exact if_pos ha
  unfold okB
  rw [e]
  rfl
theorem gi_place (h : GI m nc F g τ κ now) (hc : AllC nc g) {a b : Nat} (ha : a < g.ev.length) (hb : b < g.ev.length) (hwa : (g.e a).wr = true) (hwb : (g.e b).wr = true) (ht : (g.e a).thing = (g.e b).thing) (hp : place (g.exec F) a < place (g.exec F) b) : κ a < κ b := by
  have ma : (a : Int) ∈ g.a (g.e a).thing.toNat := AllC.came h hc ha hwa
  have mb : (b : Int) ∈ g.a (g.e b).thing.toNat := AllC.came h hc hb hwb
  have hp : posI (g.a (g.e a).thing.toNat) a 0 < posI (g.a (g.e b).thing.toNat) b 0 := hp
  rw [← ht] at mb hp
  have := posI_pair (h.srt _ (h.thing ha (wr_ne4 hwa)).2.2) ma mb hp
  simpa using this
theorem src_rd (h : GI m nc F g τ κ now) {a b : Nat} (hb : b < g.ev.length) (hi : isB (g.exec F) 1 a b = true) : (g.e b).rd = true ∧ g.f b = a ∧ a < b ∧ (g.e a).wr = true ∧ (g.e a).thing = (g.e b).thing := by
  obtain ⟨h1, h2⟩ := isB1.1 hi
  have h2 : g.f b = a := h2
  have h1 : (g.e b).rd = true := h1
  rcases h.fr b hb with ⟨h3, _⟩ | ⟨_, ⟨h3, _⟩ | ⟨w, h3, h4, h5, h6, _⟩⟩
  · rw [h1] at h3; cases h3
  · omega
  · have : w = a := by omega
    subst this
    exact ⟨h1, h2, h4, h5, h6⟩
theorem gi_before (h : GI m nc F g τ κ now) (hc : AllC nc g) {a b : Nat} (ha : a < g.ev.length) (hb : b < g.ev.length) (hi : isB (g.exec F) 3 a b = true) : (g.e a).rd = true ∧ (g.e b).wr = true ∧ (g.e a).thing = (g.e b).thing ∧ a ≠ b ∧ τ a < κ b := by
  obtain ⟨⟨⟨⟨h1, h2⟩, h3⟩, h4⟩, h5⟩ := isB3.1 hi
  have h1 : (g.e a).rd = true := h1
  have h2 : (g.e b).wr = true := h2
  have h3 : (g.e a).thing = (g.e b).thing := h3
  refine ⟨h1, h2, h3, h4, ?_⟩
  have hcb := AllC.came h hc hb h2
  obtain ⟨c1, c2⟩ := h.r2 a ha h1 b hb (Ne.symm h4) h3.symm hcb
  have h5 : g.f a < 0 ∨ place (g.exec F) (g.f a).toNat < place (g.exec F) b := h5
  rcases h.fr a ha with ⟨h6, _⟩ | ⟨_, ⟨h6, _⟩ | ⟨w, h6, h7, h8, h9, _⟩⟩
  · rw [h1] at h6; cases h6
  · exact c1 h6
  · rw [h6, Int.toNat_natCast] at h5
    have h5 := h5.resolve_left (by omega)
    have hk := gi_place h hc (by omega : w < g.ev.length) hb h8 h2 (by rw [h9, h3]) h5
    rcases c2 w h6 (fun he => by rw [he] at hk; omega) (AllC.came h hc (by omega) h8) with h10 | h10
    · omega
    · exact h10
def AtO (g : GS) (τ κ : Nat → Nat) : Prop := ∀ i, i < g.ev.length → (g.e i).kind = 2 → Came g i → κ i = τ i + 1
theorem gi_plain (h : GI m nc F g τ κ now) (hc : AllC nc g) (ho : AtO g τ κ) (a b : Nat) (hm : arrM (g.exec F) (fun _ _ _ => true) a b = true) : a < b := by
  obtain ⟨⟨ha, hb⟩, hne, k, hk, hi, _⟩ := arr_iff.1 hm
  have ha : a < g.ev.length := ha
  have hb : b < g.ev.length := hb
  have hk4 : k = 0 ∨ k = 1 ∨ k = 2 ∨ k = 3 := by omega
  have hinj : ∀ i j, i < g.ev.length → j < g.ev.length → i ≠ j → τ i ≤ τ j → i < j := fun i j h1 h2 h3 h4 => by
    rcases Nat.lt_or_gt_of_ne h3 with h5 | h5
    · exact h5
    · have := h.t1 j i h5 h1; omega
  have hκ : ∀ i, i < g.ev.length → (g.e i).wr = true → τ i ≤ κ i ∧ κ i ≤ τ i + 1 := fun i hi hw => by
    have h1 := AllC.came h hc hi hw
    rcases wr_kind.1 hw with h2 | h2
    · have := ho i hi h2 h1; omega
    · have := (h.k1 i hi h1).2.2 h2; omega
  rcases hk4 with rfl | rfl | rfl | rfl
  · exact (isB0.1 hi).2
  · exact (src_rd h hb hi).2.2.1
  · obtain ⟨⟨⟨h1, h2⟩, h3⟩, h4⟩ := isB2.1 hi
    have := gi_place h hc ha hb h1 h2 h3 h4
    have x1 := hκ a ha h1
    have x2 := hκ b hb h2
    exact hinj a b ha hb hne (by omega)
  · obtain ⟨h1, h2, h3, h4, h5⟩ := gi_before h hc ha hb hi
    have x2 := hκ b hb h2
    exact hinj a b ha hb hne (by omega)
theorem gather_plain (h : GI m nc F g τ κ now) (hm : F.length = m) (hc : AllC nc g) (ho : AtO g τ κ) (hn : g.ev.length ≤ 64) : plainB (g.exec F) = true := by
  have hok := gi_ok h hm hc hn
  have r1 : ringB (g.exec F).events.length (arrM (g.exec F) fun _ _ _ => true) = false := (ring_no arr_lt).2 fun k w => by
    have := w.lt (gi_plain h hc ho); omega
  simp only [plainB, hok, r1]
  rfl
end
end Go.Proofs.Ytflicfkgbjmffaa
end
