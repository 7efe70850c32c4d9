/- The arrows that count, in a matrix. -/
import Derived.Test.YtncllkpekbapjaaOe
namespace Go.Abs
open Go.RowKit
theorem CallN.freshP {P : Program} {f : FuncId} {args args2 : List AV} {e : TypeId} {sz : Nat} {x : AV} (h : CallN P f args2 [] 0 (fun r1 H1 _ => ∃ b d0, r1 = .pt b 1 0 0 ∧ getH H1 b = some (.row e sz d0 [x]))) (hfl : flatR x) (d : AV) {H : Hp} {id : Nat} (ha : args.map (frz H 6) = args2) (hfa : fitL 0 args2) :
    CallH P f args H id (fun r' H'' => r' = .pt id 1 0 0 ∧ H'' = putH H (some (id, .row e sz d [x]))) := by
  refine ⟨h.1, fun w0 c vs hS hH hid hv => ?_⟩
  have hS0 : Sim c.w ⟨fun _ => none, getH [], fun _ => False, c.w, c.M0⟩ := ⟨Below.refl _ _, fun b hb => Nat.lt_of_lt_of_le (hS.m0 b hb) hS.below.size, fun b e sz d es he => by simp [getH] at he, fun b b' k k' blk o z o' z' hk => by simp [getH] at hk⟩
  subst ha
  have hv' : VRs ⟨fun _ => none, getH [], fun _ => False, c.w, c.M0⟩ (args.map (frz H 6)) vs := frzL_spec hS hH hfa hv
  refine (h.2 c.w _ vs hS0 rfl (fun _ h => h.elim) hv').mono ?_
  rintro en w' ⟨v, r1, H1, nx', ρ, U, he, ⟨b, d0, rfl, hb⟩, hU, hS', _, hvr⟩
  rw [VR] at hvr
  obtain ⟨_, _, ad, hvv, hrr⟩ := hvr
  obtain ⟨_, hr2⟩ := hrr _ _ _ _ hb
  obtain ⟨hsz0, blk0, o0, z0, hρ0, rfl⟩ := hr2 rfl
  obtain ⟨_, hz, hor⟩ := hS'.rowP b _ _ _ _ hb (by omega)
  have hbel := hS'.below
  have hHeq : getH (putH H (some (id, .row e sz d [x]))) = upd c.H id (some (.row e sz d [x])) := by rw [getH_put, hH]
  rcases hor with ⟨h0, _⟩ | ⟨blk, o, z, hρ, hlow, ⟨arr, harr, hsz⟩, hlz, hrow⟩
  · rw [hρ0] at h0; cases h0
  · rw [hρ0] at hρ; cases hρ
    obtain ⟨p1, p2⟩ := hS.putG (b := id) (e := e) (sz := sz) d (es := [x]) (w' := w') (blk := blk0) (o := o0) (z := z0) hz (.inl hid) (.inl hlow) hbel.os hbel.tape hbel.output hbel.size (fun k hk _ => hbel.block k hk) harr hsz hlz (fun hle i hi => by
      obtain ⟨y, x1, x2⟩ := VRow_get hrow i hi
      have : i = 0 := by simpa using hi
      subst this
      exact ⟨y, x1, flatR_vr hfl x2⟩)
    refine ⟨v, _, _, upd c.ρ id (some (blk0, o0, z0)), he, ⟨rfl, rfl⟩, ?_, ?_, ?_⟩
    · rw [hHeq]; exact p1
    · rw [hHeq]; exact p2
    · rw [hHeq, VR]
      refine ⟨.inr rfl, by omega, _, hvv, fun e' sz' d' es' he' => ?_⟩
      simp only [nxt, upd_same, Option.some.injEq, Blk.row.injEq] at he'
      obtain ⟨rfl, rfl, rfl, rfl⟩ := he'
      exact ⟨by simp, fun _ => ⟨by omega, blk0, o0, z0, by simp [nxt], rfl⟩⟩
theorem Go.freshPE {P : Program} {f : FuncId} {args args2 : List AV} {e : TypeId} {sz : Nat} {x : AV} {H : Hp} {id : Nat} {K : AV → Option (Nat × Blk) → List Nat → Prop} (S : List Nat) (d : AV) (h : CallN P f args2 [] 0 (fun r1 H1 _ => ∃ b d0, r1 = .pt b 1 0 0 ∧ getH H1 b = some (.row e sz d0 [x]))) (hfl : flatR x)
    (ha : ∀ H1, (∀ b ∈ S, getH H1 b = getH H b) → args.map (frz H1 6) = args2) (hf : fitL 0 args2) (hK : Go (K (.pt id 1 0 0) (some (id, .row e sz d [x])) S)) : CallE P id f args H K :=
  CallE.fresh S (fun H1 h1 => CallN.freshP h hfl d (ha H1 h1) hf) (fun b q hq => by cases hq; rfl) hK
end Go.Abs
namespace Go.Proofs.Ytncllkpekbapjaa
open Go Go.Abs Go.Proofs
set_option linter.unusedSimpArgs false
set_option linter.unusedVariables false
def arrK (x : Exec) (cf : Int → Nat → Nat → Bool) (k a b : Nat) : Bool := decide (a ≠ b) && (List.range k).any fun j => isB x j a b && cf j a b
def arrM (x : Exec) (cf : Int → Nat → Nat → Bool) : Mat := fun a b => decide (a < x.events.length) && decide (b < x.events.length) && arrK x cf 4 a b
def Part (x : Exec) (cf : Int → Nat → Nat → Bool) (a b k : Nat) (M : Mat) : Prop := ∀ y z, M y z = if y < a ∨ (y = a ∧ z < b) then arrM x cf y z else if y = a ∧ z = b then arrK x cf k a b else false
theorem arrK_succ {x : Exec} {cf : Int → Nat → Nat → Bool} {k a b : Nat} : arrK x cf (k + 1) a b = (arrK x cf k a b || (decide (a ≠ b) && (isB x k a b && cf k a b))) := by
  simp only [arrK, List.range_succ, List.any_append, List.any_cons, List.any_nil, Bool.or_false]
  cases decide (a ≠ b) <;> simp
theorem Part.zero {x : Exec} {cf : Int → Nat → Nat → Bool} : Part x cf 0 0 0 fun _ _ => false := by
  intro y z
  rw [if_neg (by omega)]
  split <;> simp [arrK]
theorem Part.kind {x : Exec} {cf : Int → Nat → Nat → Bool} {a b k : Nat} {M : Mat} (h : Part x cf a b k M) (hne : a ≠ b) {v : Bool} (hv : v = (M a b || (isB x k a b && cf k a b))) : Part x cf a b (k + 1) (setM M a b v) := by
  have hab := h a b
  rw [if_neg (by omega), if_pos ⟨rfl, rfl⟩] at hab
  intro y z
  simp only [setM]
  by_cases hyz : y = a ∧ z = b
  · obtain ⟨rfl, rfl⟩ := hyz
    rw [if_pos ⟨rfl, rfl⟩, if_neg (by omega), if_pos ⟨rfl, rfl⟩, arrK_succ, hv, hab]
    simp [hne]
  · rw [if_neg hyz, h y z, if_neg hyz, if_neg hyz]
theorem Part.next {x : Exec} {cf : Int → Nat → Nat → Bool} {a b k : Nat} {M : Mat} (h : Part x cf a b k M) (ha : a < x.events.length) (hb : b < x.events.length) (hk : k = 4 ∨ a = b) : Part x cf a (b + 1) 0 M := by
  intro y z
  rw [h y z]
  by_cases h1 : y < a ∨ (y = a ∧ z < b)
  · rw [if_pos h1, if_pos (by omega)]
  · rw [if_neg h1]
    by_cases h2 : y = a ∧ z = b
    · rw [if_pos h2, if_pos (by omega)]
      obtain ⟨rfl, rfl⟩ := h2
      simp only [arrM, ha, hb, decide_true, Bool.true_and]
      rcases hk with rfl | rfl
      · rfl
      · simp [arrK]
    · rw [if_neg h2, if_neg (by omega)]
      split <;> simp [arrK]
theorem Part.row {x : Exec} {cf : Int → Nat → Nat → Bool} {a : Nat} {M : Mat} (h : Part x cf a x.events.length 0 M) : Part x cf (a + 1) 0 0 M := by
  intro y z
  have e0 : ∀ (p : Prop) [Decidable p] (a b : Nat), (if p then arrK x cf 0 a b else false) = false := by intro p _ a b; split <;> simp [arrK]
  rw [h y z, e0, e0]
  by_cases h1 : y < a ∨ (y = a ∧ z < x.events.length)
  · rw [if_pos h1, if_pos (by omega)]
  · rw [if_neg h1]
    by_cases h2 : y < a + 1
    · rw [if_pos (.inl h2)]
      have : ¬ z < x.events.length := by omega
      simp only [arrM, this, decide_false, Bool.false_and, Bool.and_false]
    · rw [if_neg (by omega)]
theorem Part.all {x : Exec} {cf : Int → Nat → Nat → Bool} {M : Mat} (h : Part x cf x.events.length 0 0 M) : M = arrM x cf := by
  funext y z
  rw [h y z]
  by_cases h1 : y < x.events.length
  · rw [if_pos (.inl h1)]
  · rw [if_neg (by omega)]
    simp only [arrM, h1, decide_false, Bool.false_and]
    split <;> simp [arrK]
set_option maxHeartbeats 4000000 in
theorem arrows_v (x : Exec) (h : Fine x) (g : FuncId) (v : AV) (hv : fitA 0 v) (cf : Int → Nat → Nat → Bool)
    (hcl : ∀ (k a b : Nat), k < 4 → a < x.events.length → b < x.events.length → Pure Try.prog g [u8 k, i64 a, i64 b, v] (fun r => r = bl (cf k a b))) :
    CallN Try.prog 40 [x.av, .fn (.func g) [] [v]] [] 0 (fun r H n => ∃ b d, r = .pt b 1 0 0 ∧ getH H b = some (.row 72 4096 d [.agg (matC (arrM x cf))])) := by
  have hfew := h.few
  refine Go.fn Try.func40 nm40 low40 res40 nt40 rfl ?_
  repeat' (first | ((with_reducible refine Go.red ?_); conv => whnf) | with_reducible (first | refine Go.and ?_ ?_ | exact True.intro | refine Go.far ?_ | exact Go.askRep | refine Go.unroll ?_ | refine Go.drawn ?_) | ((with_reducible refine Apt.mk ?_); (try dsimp only); omega) | ((with_reducible refine Ask.mk ?_); first | exact aAsk | exact aAsk2) | ((with_reducible refine Go.ari64 ?_ ?_ ?_); (· exact aBnd); (· exact aBnd)) | ((with_reducible refine Go.ariu8 ?_ ?_ ?_); (· exact aBnd); (· exact aBnd)) | (with_reducible refine Go.ari0 ?_) | (apply Go.elem; (· (first | ((with_reducible refine matC_get ?_ ?_ _); (· omega); (· omega)) | with_reducible exact ev_get | exact aElem))) | (apply Go.row; (· exact aRow)) | (apply Go.map; (· exact aRow)) | (apply Go.gives; (· exact aGives)) | (apply Go.gives; (· exact aRes)) | (refine Go.gt rfl ?_) | (refine Go.gf rfl ?_) | (with_reducible refine Go.join ?_) | (refine Go.lt' rfl ?_) | (refine Go.lf' rfl ?_) | ((with_reducible refine Go.bool ?_ ?_) <;> intro hc <;> (try simp only [List.length_map, ne_eq, hcs] at hc) <;> try (exfalso; omega)) | ((with_reducible refine Res.eq ?_ ?_); (· exact aFit)))
  refine Go.loop (fun p : Nat × Mat => [(1, .fn (.func g) [] [v]), (2, .pt 0 1 0 0), (5, .pt 3 1 0 0), (13, i64 x.events.length), (14, i64 p.1)])
    (fun p H n => p.1 ≤ x.events.length ∧ 4 ≤ n ∧ getH H 0 = some (.row 27 4 .any [x.av]) ∧ getH H 3 = some (.row 72 4096 .any [.agg (matC p.2)]) ∧ Part x cf p.1 0 0 p.2) (fun p => x.events.length - p.1) (0, fun _ _ => false) aLess ⟨Nat.zero_le _, aNx, aRow, by rw [← matC_rep]; exact aRow, Part.zero⟩ ?_
  rintro ⟨a, M1⟩ H1 n1 ⟨ha, hn1, r0, r1, hp1⟩
  dsimp only at ha r1 hp1 ⊢
  repeat' (first | ((with_reducible refine Go.red ?_); conv => whnf) | with_reducible (first | refine Go.and ?_ ?_ | exact True.intro | refine Go.far ?_ | exact Go.askRep | refine Go.unroll ?_ | refine Go.drawn ?_) | ((with_reducible refine Apt.mk ?_); (try dsimp only); omega) | ((with_reducible refine Ask.mk ?_); first | exact aAsk | exact aAsk2) | ((with_reducible refine Go.ari64 ?_ ?_ ?_); (· exact aBnd); (· exact aBnd)) | ((with_reducible refine Go.ariu8 ?_ ?_ ?_); (· exact aBnd); (· exact aBnd)) | (with_reducible refine Go.ari0 ?_) | (apply Go.elem; (· (first | ((with_reducible refine matC_get ?_ ?_ _); (· omega); (· omega)) | with_reducible exact ev_get | exact aElem))) | (apply Go.row; (· exact aRow)) | (apply Go.map; (· exact aRow)) | (apply Go.gives; (· exact aGives)) | (apply Go.gives; (· exact aRes)) | (refine Go.gt rfl ?_) | (refine Go.gf rfl ?_) | (with_reducible refine Go.join ?_) | (refine Go.lt' rfl ?_) | (refine Go.lf' rfl ?_) | ((with_reducible refine Go.bool ?_ ?_) <;> intro hc <;> (try simp only [List.length_map, ne_eq, hcs] at hc) <;> try (exfalso; omega)) | ((with_reducible refine Res.eq ?_ ?_); (· exact aFit)))
  · refine Go.loop (fun p : Nat × Mat => [(1, .fn (.func g) [] [v]), (2, .pt 0 1 0 0), (5, .pt 3 1 0 0), (6, i64 a), (13, i64 x.events.length), (14, i64 a), (19, i64 x.events.length), (20, i64 p.1)])
      (fun p H n => p.1 ≤ x.events.length ∧ 4 ≤ n ∧ getH H 0 = some (.row 27 4 .any [x.av]) ∧ getH H 3 = some (.row 72 4096 .any [.agg (matC p.2)]) ∧ Part x cf a p.1 0 p.2) (fun p => x.events.length - p.1) (0, M1) aLess ⟨Nat.zero_le _, aNx, aRow, aRow, hp1⟩ ?_
    rintro ⟨b, M2⟩ H2 n2 ⟨hb, hn2, r02, r2, hp2⟩
    dsimp only at hb r2 hp2 ⊢
    repeat' (first | ((with_reducible refine Go.red ?_); conv => whnf) | with_reducible (first | refine Go.and ?_ ?_ | exact True.intro | refine Go.far ?_ | exact Go.askRep | refine Go.unroll ?_ | refine Go.drawn ?_) | ((with_reducible refine Apt.mk ?_); (try dsimp only); omega) | ((with_reducible refine Ask.mk ?_); first | exact aAsk | exact aAsk2) | ((with_reducible refine Go.ari64 ?_ ?_ ?_); (· exact aBnd); (· exact aBnd)) | ((with_reducible refine Go.ariu8 ?_ ?_ ?_); (· exact aBnd); (· exact aBnd)) | (with_reducible refine Go.ari0 ?_) | (apply Go.elem; (· (first | ((with_reducible refine matC_get ?_ ?_ _); (· omega); (· omega)) | with_reducible exact ev_get | exact aElem))) | (apply Go.row; (· exact aRow)) | (apply Go.map; (· exact aRow)) | (apply Go.gives; (· exact aGives)) | (apply Go.gives; (· exact aRes)) | (refine Go.gt rfl ?_) | (refine Go.gf rfl ?_) | (with_reducible refine Go.join ?_) | (refine Go.lt' rfl ?_) | (refine Go.lf' rfl ?_) | ((with_reducible refine Go.bool ?_ ?_) <;> intro hc <;> (try simp only [List.length_map, ne_eq, hcs] at hc) <;> try (exfalso; omega)) | ((with_reducible refine Res.eq ?_ ?_); (· exact aFit)))
    · refine Go.loop (fun p : Nat × Mat => [(1, .fn (.func g) [] [v]), (2, .pt 0 1 0 0), (5, .pt 3 1 0 0), (6, i64 a), (7, i64 b), (8, u8 p.1), (13, i64 x.events.length), (14, i64 a), (19, i64 x.events.length), (20, i64 b)])
        (fun p H n => p.1 ≤ 4 ∧ 4 ≤ n ∧ getH H 0 = some (.row 27 4 .any [x.av]) ∧ getH H 3 = some (.row 72 4096 .any [.agg (matC p.2)]) ∧ Part x cf a b p.1 p.2) (fun p => 4 - p.1) (0, M2) aLess ⟨Nat.zero_le _, aNx, aRow, aRow, hp2⟩ ?_
      rintro ⟨k, M3⟩ H3 n3 ⟨hk, hn3, r03, r3, hp3⟩
      dsimp only at hk r3 hp3 ⊢
      by_cases hcond : k < 4 ∧ a ≠ b
      · have hIs := is_pure x h k ⟨by omega, by omega⟩ a b (by omega) (by omega)
        have hCt := hcl k a b hcond.1 (by omega) (by omega)
        repeat' (first | ((with_reducible refine Go.red ?_); conv => whnf) | with_reducible (first | refine Go.and ?_ ?_ | exact True.intro | refine Go.far ?_ | exact Go.askRep | refine Go.unroll ?_ | refine Go.drawn ?_) | ((with_reducible refine Apt.mk ?_); (try dsimp only); omega) | ((with_reducible refine Ask.mk ?_); first | exact aAsk | exact aAsk2) | ((with_reducible refine Go.ari64 ?_ ?_ ?_); (· exact aBnd); (· exact aBnd)) | ((with_reducible refine Go.ariu8 ?_ ?_ ?_); (· exact aBnd); (· exact aBnd)) | (with_reducible refine Go.ari0 ?_) | (apply Go.elem; (· (first | ((with_reducible refine matC_get ?_ ?_ _); (· omega); (· omega)) | with_reducible exact ev_get | exact aElem))) | (apply Go.row; (· exact aRow)) | (apply Go.map; (· exact aRow)) | (apply Go.gives; (· exact aGives)) | (apply Go.gives; (· exact aRes)) | ((with_reducible refine Go.callW (hIs) ?_ ?_); (· exact aFit)) | ((with_reducible refine Go.callJ (fun _ => hIs) ?_ ?_); (· exact aFit)) | ((with_reducible refine Go.callE (hIs) ?_ ?_); (· exact aFit)) | ((with_reducible refine Go.callF (fun _ => hIs) ?_ ?_); (· exact aFit)) | ((with_reducible refine Go.callW (hCt) ?_ ?_); (· exact aFit)) | ((with_reducible refine Go.callJ (fun _ => hCt) ?_ ?_); (· exact aFit)) | ((with_reducible refine Go.callE (hCt) ?_ ?_); (· exact aFit)) | ((with_reducible refine Go.callF (fun _ => hCt) ?_ ?_); (· exact aFit)) | ((with_reducible refine Go.callF (fun _ => hCt) ?_ ?_); (· (simp [fitL, fitA, hv]))) | (refine Go.gt rfl ?_) | (refine Go.gf rfl ?_) | (with_reducible refine Go.join ?_) | (refine Go.lt' rfl ?_) | (refine Go.lf' rfl ?_) | ((with_reducible refine Go.bool ?_ ?_) <;> intro hc <;> (try simp only [List.length_map, ne_eq, hcs] at hc) <;> try (exfalso; omega)) | ((with_reducible refine Res.eq ?_ ?_); (· exact aFit)))
        · refine ⟨(k + 1, setM M3 a b (if M3 a b = true then true else (if isB x k a b = true then cf k a b else false))), by dsimp only; omega, aLess, by dsimp only; omega, aNx, aRow, ?_, hp3.kind hcond.2 (by cases M3 a b <;> cases isB x k a b <;> cases cf k a b <;> rfl)⟩
          dsimp only
          rw [← matC_set (by omega) (by omega)]
          exact aRow
      · repeat' (first | ((with_reducible refine Go.red ?_); conv => whnf) | with_reducible (first | refine Go.and ?_ ?_ | exact True.intro | refine Go.far ?_ | exact Go.askRep | refine Go.unroll ?_ | refine Go.drawn ?_) | ((with_reducible refine Apt.mk ?_); (try dsimp only); omega) | ((with_reducible refine Ask.mk ?_); first | exact aAsk | exact aAsk2) | ((with_reducible refine Go.ari64 ?_ ?_ ?_); (· exact aBnd); (· exact aBnd)) | ((with_reducible refine Go.ariu8 ?_ ?_ ?_); (· exact aBnd); (· exact aBnd)) | (with_reducible refine Go.ari0 ?_) | (apply Go.elem; (· (first | ((with_reducible refine matC_get ?_ ?_ _); (· omega); (· omega)) | with_reducible exact ev_get | exact aElem))) | (apply Go.row; (· exact aRow)) | (apply Go.map; (· exact aRow)) | (apply Go.gives; (· exact aGives)) | (apply Go.gives; (· exact aRes)) | (refine Go.gt rfl ?_) | (refine Go.gf rfl ?_) | (with_reducible refine Go.join ?_) | (refine Go.lt' rfl ?_) | (refine Go.lf' rfl ?_) | ((with_reducible refine Go.bool ?_ ?_) <;> intro hc <;> (try simp only [List.length_map, ne_eq, hcs] at hc) <;> try (exfalso; omega)) | ((with_reducible refine Res.eq ?_ ?_); (· exact aFit)))
        exact ⟨(b + 1, M3), by dsimp only; omega, aLess, by dsimp only; omega, aNx, aRow, aRow, hp3.next (by omega) (by omega) (by omega)⟩
    · have : b = x.events.length := by omega
      subst this
      exact ⟨(a + 1, M2), by dsimp only; omega, aLess, by dsimp only; omega, aNx, aRow, aRow, hp2.row⟩
  · have : a = x.events.length := by omega
    subst this
    rw [hp1.all] at r1
    exact ⟨⟨3, _, rfl, aRow⟩⟩
set_option maxHeartbeats 4000000 in
theorem arrows_e (x : Exec) (h : Fine x) (g : FuncId) (cf : Int → Nat → Nat → Bool)
    (hcl : ∀ (k a b : Nat), k < 4 → a < x.events.length → b < x.events.length → Pure Try.prog g [u8 k, i64 a, i64 b] (fun r => r = bl (cf k a b))) :
    CallN Try.prog 40 [x.av, .fn (.func g) [] []] [] 0 (fun r H n => ∃ b d, r = .pt b 1 0 0 ∧ getH H b = some (.row 72 4096 d [.agg (matC (arrM x cf))])) := by
  have hfew := h.few
  refine Go.fn Try.func40 nm40 low40 res40 nt40 rfl ?_
  repeat' (first | ((with_reducible refine Go.red ?_); conv => whnf) | with_reducible (first | refine Go.and ?_ ?_ | exact True.intro | refine Go.far ?_ | exact Go.askRep | refine Go.unroll ?_ | refine Go.drawn ?_) | ((with_reducible refine Apt.mk ?_); (try dsimp only); omega) | ((with_reducible refine Ask.mk ?_); first | exact aAsk | exact aAsk2) | ((with_reducible refine Go.ari64 ?_ ?_ ?_); (· exact aBnd); (· exact aBnd)) | ((with_reducible refine Go.ariu8 ?_ ?_ ?_); (· exact aBnd); (· exact aBnd)) | (with_reducible refine Go.ari0 ?_) | (apply Go.elem; (· (first | ((with_reducible refine matC_get ?_ ?_ _); (· omega); (· omega)) | with_reducible exact ev_get | exact aElem))) | (apply Go.row; (· exact aRow)) | (apply Go.map; (· exact aRow)) | (apply Go.gives; (· exact aGives)) | (apply Go.gives; (· exact aRes)) | (refine Go.gt rfl ?_) | (refine Go.gf rfl ?_) | (with_reducible refine Go.join ?_) | (refine Go.lt' rfl ?_) | (refine Go.lf' rfl ?_) | ((with_reducible refine Go.bool ?_ ?_) <;> intro hc <;> (try simp only [List.length_map, ne_eq, hcs] at hc) <;> try (exfalso; omega)) | ((with_reducible refine Res.eq ?_ ?_); (· exact aFit)))
  refine Go.loop (fun p : Nat × Mat => [(1, .fn (.func g) [] []), (2, .pt 0 1 0 0), (5, .pt 3 1 0 0), (13, i64 x.events.length), (14, i64 p.1)])
    (fun p H n => p.1 ≤ x.events.length ∧ 4 ≤ n ∧ getH H 0 = some (.row 27 4 .any [x.av]) ∧ getH H 3 = some (.row 72 4096 .any [.agg (matC p.2)]) ∧ Part x cf p.1 0 0 p.2) (fun p => x.events.length - p.1) (0, fun _ _ => false) aLess ⟨Nat.zero_le _, aNx, aRow, by rw [← matC_rep]; exact aRow, Part.zero⟩ ?_
  rintro ⟨a, M1⟩ H1 n1 ⟨ha, hn1, r0, r1, hp1⟩
  dsimp only at ha r1 hp1 ⊢
  repeat' (first | ((with_reducible refine Go.red ?_); conv => whnf) | with_reducible (first | refine Go.and ?_ ?_ | exact True.intro | refine Go.far ?_ | exact Go.askRep | refine Go.unroll ?_ | refine Go.drawn ?_) | ((with_reducible refine Apt.mk ?_); (try dsimp only); omega) | ((with_reducible refine Ask.mk ?_); first | exact aAsk | exact aAsk2) | ((with_reducible refine Go.ari64 ?_ ?_ ?_); (· exact aBnd); (· exact aBnd)) | ((with_reducible refine Go.ariu8 ?_ ?_ ?_); (· exact aBnd); (· exact aBnd)) | (with_reducible refine Go.ari0 ?_) | (apply Go.elem; (· (first | ((with_reducible refine matC_get ?_ ?_ _); (· omega); (· omega)) | with_reducible exact ev_get | exact aElem))) | (apply Go.row; (· exact aRow)) | (apply Go.map; (· exact aRow)) | (apply Go.gives; (· exact aGives)) | (apply Go.gives; (· exact aRes)) | (refine Go.gt rfl ?_) | (refine Go.gf rfl ?_) | (with_reducible refine Go.join ?_) | (refine Go.lt' rfl ?_) | (refine Go.lf' rfl ?_) | ((with_reducible refine Go.bool ?_ ?_) <;> intro hc <;> (try simp only [List.length_map, ne_eq, hcs] at hc) <;> try (exfalso; omega)) | ((with_reducible refine Res.eq ?_ ?_); (· exact aFit)))
  · refine Go.loop (fun p : Nat × Mat => [(1, .fn (.func g) [] []), (2, .pt 0 1 0 0), (5, .pt 3 1 0 0), (6, i64 a), (13, i64 x.events.length), (14, i64 a), (19, i64 x.events.length), (20, i64 p.1)])
      (fun p H n => p.1 ≤ x.events.length ∧ 4 ≤ n ∧ getH H 0 = some (.row 27 4 .any [x.av]) ∧ getH H 3 = some (.row 72 4096 .any [.agg (matC p.2)]) ∧ Part x cf a p.1 0 p.2) (fun p => x.events.length - p.1) (0, M1) aLess ⟨Nat.zero_le _, aNx, aRow, aRow, hp1⟩ ?_
    rintro ⟨b, M2⟩ H2 n2 ⟨hb, hn2, r02, r2, hp2⟩
    dsimp only at hb r2 hp2 ⊢
    repeat' (first | ((with_reducible refine Go.red ?_); conv => whnf) | with_reducible (first | refine Go.and ?_ ?_ | exact True.intro | refine Go.far ?_ | exact Go.askRep | refine Go.unroll ?_ | refine Go.drawn ?_) | ((with_reducible refine Apt.mk ?_); (try dsimp only); omega) | ((with_reducible refine Ask.mk ?_); first | exact aAsk | exact aAsk2) | ((with_reducible refine Go.ari64 ?_ ?_ ?_); (· exact aBnd); (· exact aBnd)) | ((with_reducible refine Go.ariu8 ?_ ?_ ?_); (· exact aBnd); (· exact aBnd)) | (with_reducible refine Go.ari0 ?_) | (apply Go.elem; (· (first | ((with_reducible refine matC_get ?_ ?_ _); (· omega); (· omega)) | with_reducible exact ev_get | exact aElem))) | (apply Go.row; (· exact aRow)) | (apply Go.map; (· exact aRow)) | (apply Go.gives; (· exact aGives)) | (apply Go.gives; (· exact aRes)) | (refine Go.gt rfl ?_) | (refine Go.gf rfl ?_) | (with_reducible refine Go.join ?_) | (refine Go.lt' rfl ?_) | (refine Go.lf' rfl ?_) | ((with_reducible refine Go.bool ?_ ?_) <;> intro hc <;> (try simp only [List.length_map, ne_eq, hcs] at hc) <;> try (exfalso; omega)) | ((with_reducible refine Res.eq ?_ ?_); (· exact aFit)))
    · refine Go.loop (fun p : Nat × Mat => [(1, .fn (.func g) [] []), (2, .pt 0 1 0 0), (5, .pt 3 1 0 0), (6, i64 a), (7, i64 b), (8, u8 p.1), (13, i64 x.events.length), (14, i64 a), (19, i64 x.events.length), (20, i64 b)])
        (fun p H n => p.1 ≤ 4 ∧ 4 ≤ n ∧ getH H 0 = some (.row 27 4 .any [x.av]) ∧ getH H 3 = some (.row 72 4096 .any [.agg (matC p.2)]) ∧ Part x cf a b p.1 p.2) (fun p => 4 - p.1) (0, M2) aLess ⟨Nat.zero_le _, aNx, aRow, aRow, hp2⟩ ?_
      rintro ⟨k, M3⟩ H3 n3 ⟨hk, hn3, r03, r3, hp3⟩
      dsimp only at hk r3 hp3 ⊢
      by_cases hcond : k < 4 ∧ a ≠ b
      · have hIs := is_pure x h k ⟨by omega, by omega⟩ a b (by omega) (by omega)
        have hCt := hcl k a b hcond.1 (by omega) (by omega)
        repeat' (first | ((with_reducible refine Go.red ?_); conv => whnf) | with_reducible (first | refine Go.and ?_ ?_ | exact True.intro | refine Go.far ?_ | exact Go.askRep | refine Go.unroll ?_ | refine Go.drawn ?_) | ((with_reducible refine Apt.mk ?_); (try dsimp only); omega) | ((with_reducible refine Ask.mk ?_); first | exact aAsk | exact aAsk2) | ((with_reducible refine Go.ari64 ?_ ?_ ?_); (· exact aBnd); (· exact aBnd)) | ((with_reducible refine Go.ariu8 ?_ ?_ ?_); (· exact aBnd); (· exact aBnd)) | (with_reducible refine Go.ari0 ?_) | (apply Go.elem; (· (first | ((with_reducible refine matC_get ?_ ?_ _); (· omega); (· omega)) | with_reducible exact ev_get | exact aElem))) | (apply Go.row; (· exact aRow)) | (apply Go.map; (· exact aRow)) | (apply Go.gives; (· exact aGives)) | (apply Go.gives; (· exact aRes)) | ((with_reducible refine Go.callW (hIs) ?_ ?_); (· exact aFit)) | ((with_reducible refine Go.callJ (fun _ => hIs) ?_ ?_); (· exact aFit)) | ((with_reducible refine Go.callE (hIs) ?_ ?_); (· exact aFit)) | ((with_reducible refine Go.callF (fun _ => hIs) ?_ ?_); (· exact aFit)) | ((with_reducible refine Go.callW (hCt) ?_ ?_); (· exact aFit)) | ((with_reducible refine Go.callJ (fun _ => hCt) ?_ ?_); (· exact aFit)) | ((with_reducible refine Go.callE (hCt) ?_ ?_); (· exact aFit)) | ((with_reducible refine Go.callF (fun _ => hCt) ?_ ?_); (· exact aFit)) | (refine Go.gt rfl ?_) | (refine Go.gf rfl ?_) | (with_reducible refine Go.join ?_) | (refine Go.lt' rfl ?_) | (refine Go.lf' rfl ?_) | ((with_reducible refine Go.bool ?_ ?_) <;> intro hc <;> (try simp only [List.length_map, ne_eq, hcs] at hc) <;> try (exfalso; omega)) | ((with_reducible refine Res.eq ?_ ?_); (· exact aFit)))
        · refine ⟨(k + 1, setM M3 a b (if M3 a b = true then true else (if isB x k a b = true then cf k a b else false))), by dsimp only; omega, aLess, by dsimp only; omega, aNx, aRow, ?_, hp3.kind hcond.2 (by cases M3 a b <;> cases isB x k a b <;> cases cf k a b <;> rfl)⟩
          dsimp only
          rw [← matC_set (by omega) (by omega)]
          exact aRow
      · repeat' (first | ((with_reducible refine Go.red ?_); conv => whnf) | with_reducible (first | refine Go.and ?_ ?_ | exact True.intro | refine Go.far ?_ | exact Go.askRep | refine Go.unroll ?_ | refine Go.drawn ?_) | ((with_reducible refine Apt.mk ?_); (try dsimp only); omega) | ((with_reducible refine Ask.mk ?_); first | exact aAsk | exact aAsk2) | ((with_reducible refine Go.ari64 ?_ ?_ ?_); (· exact aBnd); (· exact aBnd)) | ((with_reducible refine Go.ariu8 ?_ ?_ ?_); (· exact aBnd); (· exact aBnd)) | (with_reducible refine Go.ari0 ?_) | (apply Go.elem; (· (first | ((with_reducible refine matC_get ?_ ?_ _); (· omega); (· omega)) | with_reducible exact ev_get | exact aElem))) | (apply Go.row; (· exact aRow)) | (apply Go.map; (· exact aRow)) | (apply Go.gives; (· exact aGives)) | (apply Go.gives; (· exact aRes)) | (refine Go.gt rfl ?_) | (refine Go.gf rfl ?_) | (with_reducible refine Go.join ?_) | (refine Go.lt' rfl ?_) | (refine Go.lf' rfl ?_) | ((with_reducible refine Go.bool ?_ ?_) <;> intro hc <;> (try simp only [List.length_map, ne_eq, hcs] at hc) <;> try (exfalso; omega)) | ((with_reducible refine Res.eq ?_ ?_); (· exact aFit)))
        exact ⟨(b + 1, M3), by dsimp only; omega, aLess, by dsimp only; omega, aNx, aRow, aRow, hp3.next (by omega) (by omega) (by omega)⟩
    · have : b = x.events.length := by omega
      subst this
      exact ⟨(a + 1, M2), by dsimp only; omega, aLess, by dsimp only; omega, aNx, aRow, aRow, hp2.row⟩
  · have : a = x.events.length := by omega
    subst this
    rw [hp1.all] at r1
    exact ⟨⟨3, _, rfl, aRow⟩⟩
end Go.Proofs.Ytncllkpekbapjaa
