/- Rows told anew at a function's end: the general rule. -/
import Derived.Test.YtliabecchkolgaaAbsW
namespace Go.Abs
open Go.RowKit
theorem Wk.tell {r r2 : AV} {H H2 : Hp} {nx nx2 : Nat} (hn : nx ≤ nx2)
    (hrow : ∀ b e sz d es, getH H2 b = some (.row e sz d es) → (∃ d0 es0, getH H b = some (.row e sz d0 es0) ∧ es0.length = es.length) ∨ (nx ≤ b ∧ b < nx2 ∧ es = [] ∧ 0 < sz))
    (hval : ∀ (w0 : World) (c c2 : Cx), Sim w0 c → (∀ b, c.U b → b < nx) → c.H = getH H → c2.H = getH H2 → c2.w = c.w → c.le c2 →
      (∀ b e sz d, nx ≤ b → getH H2 b = some (.row e sz d []) → c2.U b ∧ c2.ρ b = none) →
      (∀ b k blk o z, getH H b = some k → getH H2 b = none → c.ρ b = some (blk, o, z) → ¬ c2.M blk) →
      AVle c c2 r r2 ∧ ∀ b e sz d es d0 es0, getH H2 b = some (.row e sz d es) → getH H b = some (.row e sz d0 es0) → AVles c c2 es0 es) :
    Wk r H nx r2 H2 nx2 := by
  intro w0 ρ U w M0 hU hS
  let ρ2 : Nat → Option (Nat × Nat × Nat) := fun b => if b < nx then ρ b else none
  let U2 : Nat → Prop := fun b => U b ∨ (nx ≤ b ∧ b < nx2)
  have hR : Retold ⟨ρ, getH H, U, w, M0⟩ ⟨ρ2, getH H2, U2, w, M0⟩ := by
    refine ⟨rfl, rfl, fun b hb => .inl hb, fun b hb => ?_, fun b e sz d es he => ?_⟩
    · show (if b < nx then ρ b else none) = ρ b
      rw [if_pos (hU b hb)]
    · rcases hrow b e sz d es he with ⟨d0, es0, h2, h3⟩ | ⟨h1, h2, h3, h4⟩
      · have hu : U b := (hS.row b e sz d0 es0 h2).1
        exact ⟨.inl hu, .inl ⟨d0, es0, h2, hu, h3⟩⟩
      · refine ⟨.inr ⟨h1, h2⟩, .inr ⟨h3, fun hu => ?_, ?_, h4⟩⟩
        · have := hU b hu; omega
        · show (if b < nx then ρ b else none) = none
          rw [if_neg (by omega)]
  have hle := hR.le
  have hv := hval w0 ⟨ρ, getH H, U, w, M0⟩ ⟨ρ2, getH H2, U2, w, M0⟩ hS hU rfl rfl rfl hle
    (fun b e sz d hb he => by
      rcases hrow b e sz d [] he with ⟨d0, es0, h2, _⟩ | ⟨h1, h2, _⟩
      · have h1 : b < nx := hU b (hS.row b e sz d0 es0 h2).1
        omega
      · refine ⟨.inr ⟨h1, h2⟩, ?_⟩
        show (if b < nx then ρ b else none) = none
        rw [if_neg (by omega)])
    (fun b k blk o z hb hb2 hρ hm => by
      have hlt := hS.ρlt hb hρ
      rcases hm with h0 | ⟨x, k2, o2, z2, hx, hρ2⟩
      · have := hS.m0 blk h0
        simp only at hlt
        omega
      · obtain ⟨e, sz, d, es⟩ := k2
        have hρ2 : (if x < nx then ρ x else none) = some (blk, o2, z2) := hρ2
        have hx : getH H2 x = some (.row e sz d es) := hx
        rcases hrow x e sz d es hx with ⟨d0, es0, h2, _⟩ | ⟨h1, _⟩
        · have h1 : x < nx := hU x (hS.row x e sz d0 es0 h2).1
          rw [if_pos h1] at hρ2
          have := hS.inj b x _ _ blk o z o2 z2 hb h2 hρ hρ2
          subst this
          rw [hx] at hb2; cases hb2
        · rw [if_neg (by omega)] at hρ2; cases hρ2)
  refine ⟨ρ2, U2, ?_, hR.sim hS hv.2, hle, hv.1⟩
  rintro b (hb | ⟨_, hb⟩)
  · have := hU b hb; omega
  · exact hb
/-- Nothing is told anew. -/
theorem Wk.refl (r : AV) (H : Hp) (nx : Nat) : Wk r H nx r H nx := by
  intro w0 ρ U w M0 hU hS
  exact ⟨ρ, U, hU, hS, Cx.le.refl _, fun v hv => hv⟩
/-- A nil slice that is handed back gets a name. -/
theorem Wk.nil {H : Hp} {nx : Nat} (e : TypeId) (sz : Nat) (d : AV) (hsz : 0 < sz) : Wk (.sc (.slice none 0 0)) H nx (.sl nx 0) ((nx, some (.row e sz d [])) :: H) (nx + 1) := by
  refine Wk.tell (Nat.le_succ _) (fun b e' sz' d' es he => ?_) (fun w0 c c2 hS hU hc hc2 hw hle hnew _ => ⟨?_, fun b e' sz' d' es d0 es0 h1 h2 => ?_⟩)
  · by_cases hb : b = nx
    · subst hb
      rw [getH_here] at he
      cases he
      exact .inr ⟨Nat.le_refl _, Nat.lt_succ_self _, rfl, hsz⟩
    · rw [getH_skipEq hb] at he
      exact .inl ⟨d', es, he, rfl⟩
  · have h := hnew nx e sz d (Nat.le_refl _) (getH_here _ _ _)
    exact AVle.nil (e := e) (sz := sz) (d := d) h.1 (by rw [hc2, getH_here]) h.2
  · by_cases hb : b = nx
    · subst hb
      rw [getH_here] at h1
      cases h1
      have h3 : c.H b = some (.row e sz d0 es0) := by rw [hc]; exact h2
      exact absurd (hU _ (hS.row _ _ _ _ _ h3).1) (Nat.lt_irrefl _)
    · rw [getH_skipEq hb] at h1
      rw [h1] at h2
      cases h2
      exact AVles.keep hle _
/-- A call that hands back one flat row of its own making, and looks at what its caller has. -/
theorem CallN.freshF {P : Program} {f : FuncId} {args args2 : List AV} {e : TypeId} {sz : Nat} {es : List AV} (h : CallN P f args2 [] 0 (fun r1 H1 _ => ∃ b d0, r1 = .sl b es.length ∧ getH H1 b = some (.row e sz d0 es))) (hfl : ∀ i, i < es.length → flatR (es.getD i .any)) (d : AV) {H : Hp} {id : Nat} (ha : args.map (frz H 6) = args2) (hfa : fitL 0 args2) :
    CallH P f args H id (fun r' H'' => r' = .sl id es.length ∧ H'' = putH H (some (id, .row e sz d es))) := by
  refine ⟨h.1, fun w0 c vs hS hH hid hv => ?_⟩
  have hS0 : Sim c.w ⟨fun _ => none, getH [], fun _ => False, c.w, c.M0⟩ := ⟨Below.refl _ _, fun b hb => Nat.lt_of_lt_of_le (hS.m0 b hb) hS.below.size, fun b e sz d es he => by simp [getH] at he, fun b b' k k' blk o z o' z' hk => by simp [getH] at hk⟩
  subst ha
  have hv' : VRs ⟨fun _ => none, getH [], fun _ => False, c.w, c.M0⟩ (args.map (frz H 6)) vs := frzL_spec hS hH hfa hv
  refine (h.2 c.w _ vs hS0 rfl (fun _ h => h.elim) hv').mono ?_
  rintro en w' ⟨v, r1, H1, nx', ρ, U, he, ⟨b, d0, rfl, hb⟩, hU, hS', _, hvr⟩
  rw [VR] at hvr
  obtain ⟨_, ad, cap, hvv, hrr⟩ := hvr
  obtain ⟨_, hr2⟩ := hrr _ _ _ _ hb
  have hr3 := hr2 rfl
  obtain ⟨_, hz, hor⟩ := hS'.row b _ _ _ _ hb
  have hbel := hS'.below
  obtain ⟨s1, s2⟩ := hS.world hbel
  have hHeq : getH (putH H (some (id, .row e sz d es))) = upd c.H id (some (.row e sz d es)) := by rw [getH_put, hH]
  rcases hor with ⟨h0, hes⟩ | ⟨blk, o, z, hρ, hlow, ⟨arr, harr, hsz⟩, hlz, hrow⟩
  · subst hes
    obtain ⟨p1, p2⟩ := s1.put0 (b := id) (e := e) (sz := sz) d hz hid
    refine ⟨v, _, _, upd c.ρ id none, he, ⟨rfl, rfl⟩, ?_, ?_, ?_⟩
    · rw [hHeq]; exact p1
    · rw [hHeq]; exact s2.trans p2
    · rw [hHeq, VR]
      refine ⟨.inr rfl, ad, cap, hvv, fun e' sz' d' es' he' => ?_⟩
      simp only [nxt, upd_same, Option.some.injEq, Blk.row.injEq] at he'
      obtain ⟨rfl, rfl, rfl, rfl⟩ := he'
      refine ⟨Nat.le_refl _, fun _ => .inl ⟨by simp [nxt], ?_⟩⟩
      rcases hr3 with ⟨_, h2, h3⟩ | ⟨blk, o, z, h2, _⟩
      · exact ⟨h2, h3⟩
      · rw [h0] at h2; cases h2
  · obtain ⟨p1, p2⟩ := hS.putG (b := id) (e := e) (sz := sz) d (es := es) (w' := w') (blk := blk) (o := o) (z := z) hz (.inl hid) (.inl hlow) hbel.os hbel.tape hbel.output hbel.size (fun k hk _ => hbel.block k hk) harr hsz hlz (fun hle i hi => by
      obtain ⟨x, x1, x2⟩ := VRow_get hrow i hi
      refine ⟨x, x1, flatR_vr ?_ x2⟩
      have := hfl i hi
      simpa [List.getD, hi] using this)
    refine ⟨v, _, _, upd c.ρ id (some (blk, o, z)), he, ⟨rfl, rfl⟩, ?_, ?_, ?_⟩
    · rw [hHeq]; exact p1
    · rw [hHeq]; exact p2
    · rw [hHeq, VR]
      refine ⟨.inr rfl, ad, cap, hvv, fun e' sz' d' es' he' => ?_⟩
      simp only [nxt, upd_same, Option.some.injEq, Blk.row.injEq] at he'
      obtain ⟨rfl, rfl, rfl, rfl⟩ := he'
      refine ⟨by omega, fun _ => .inr ⟨blk, o, z, by simp [nxt], ?_⟩⟩
      rcases hr3 with ⟨h2, _, _⟩ | ⟨blk', o', z', h2, h3, h4, h5, h6⟩
      · rw [hρ] at h2; cases h2
      · rw [hρ] at h2; cases h2
        exact ⟨h3, h4, h5, h6⟩
/-- The same within a stretch that draws its order: it looks at the rows S of its caller's. -/
theorem Go.freshE {P : Program} {f : FuncId} {args args2 : List AV} {e : TypeId} {sz : Nat} {es : List AV} {H : Hp} {id : Nat} {K : AV → Option (Nat × Blk) → List Nat → Prop} (S : List Nat) (d : AV)
    (h : CallN P f args2 [] 0 (fun r1 H1 _ => ∃ b d0, r1 = .sl b es.length ∧ getH H1 b = some (.row e sz d0 es))) (hfl : ∀ i, i < es.length → flatR (es.getD i .any)) (ha : ∀ H1, (∀ b ∈ S, getH H1 b = getH H b) → args.map (frz H1 6) = args2) (hfa : fitL 0 args2)
    (hK : Go (K (.sl id es.length) (some (id, .row e sz d es)) S)) : CallE P id f args H K :=
  CallE.fresh S (fun H1 h1 => h.freshF hfl d (ha H1 h1) hfa) (fun b q hq => by cases hq; rfl) hK
theorem fitL_mem {n : Nat} : ∀ {as : List AV}, fitL n as → ∀ a ∈ as, fitA n a
  | [], _, a, h => by cases h
  | b :: as, hf, a, h => by
    rw [fitL] at hf
    rcases List.mem_cons.1 h with rfl | h
    · exact hf.1
    · exact fitL_mem hf.2 a h
theorem map_same {f : AV → AV} {l : List AV} (h : ∀ a ∈ l, f a = a) : l.map f = l := by
  induction l with
  | nil => rfl
  | cons a l ih => rw [List.map_cons, h a (by simp), ih fun b hb => h b (by simp [hb])]
theorem frz_fit {H : Hp} : ∀ (k : Nat) {a : AV}, fitA 0 a → frz H k a = a
  | 0, a, hf => by cases a <;> simp only [frz]
  | k + 1, a, hf => by
    have ih := fun {l : List AV} (hl : fitL 0 l) => map_same (f := frz H k) (fun a ha => frz_fit k (fitL_mem hl a ha))
    cases a <;> simp only [fitA] at hf <;> simp only [frz]
    case sl => omega
    case sv => omega
    case pt => omega
    case agg cs => rw [ih hf]
    case tup cs => rw [ih hf]
    case fn f p q => rw [ih hf.1, ih hf.2]
    case ifc t x => rw [frz_fit k hf]
theorem CallN.pureIm {P : Program} {f : FuncId} {args : List AV} {e : TypeId} {sz : Nat} {es : List AV} (h : CallN P f args [] 0 (fun r1 H1 _ => ∃ b d0, r1 = .sl b es.length ∧ getH H1 b = some (.row e sz d0 es))) (hf : fitL 0 es) : Pure P f args (fun r => r = .im sz .any es) := by
  refine ⟨h.1, fun M w vs hM hv => ?_⟩
  have hS : Sim w ⟨fun _ => none, getH [], fun _ => False, w, M⟩ := ⟨Below.refl _ _, hM, fun b e sz d es he => by simp [getH] at he, fun b b' k k' blk o z o' z' hk => by simp [getH] at hk⟩
  have hv' : VRs ⟨fun _ => none, getH [], fun _ => False, w, M⟩ args vs := hv
  refine (h.2 w _ vs hS rfl (fun _ h => h.elim) hv').mono ?_
  rintro en w' ⟨v, r1, H1, nx', ρ, U, he, ⟨b, d0, rfl, hb⟩, hU, hS', _, g2⟩
  have hz : frz H1 6 (.sl b es.length) = .im sz .any es := by
    simp only [frz, hb]
    rw [if_pos trivial, map_same fun a ha => frz_fit 5 (fitL_mem hf a ha)]
  have hfit : fitA 0 (AV.im sz .any es) := by rw [fitA]; exact hf
  have h3 := frz_spec hS' rfl 6 (a := .sl b es.length) (v := v) (by rw [hz]; exact hfit) g2
  rw [hz] at h3
  exact ⟨v, _, he, rfl, hfit, h3, hS'.below⟩
end Go.Abs
