/- Functions: what a call hands back. -/
import Derived.Test.YtliabecchkolgaaAbsL
namespace Go.Abs
open Go.RowKit

/-- Called with these, in whatever memory, the function hands back what R says, and turns nothing that was there. -/
def Pure (P : Program) (f : FuncId) (args : List AV) (R : AV → Prop) : Prop :=
  Enterable P f ∧ ∀ (M : Nat → Prop) (w : World) (vs : List Value), (∀ b, M b → b < w.heap.size) → VRs (base w M) args vs →
    Calls P f vs.toArray w fun e w' => ∃ v r, e = .returned v ∧ R r ∧ fitA 0 r ∧ VR (base w' M) r v ∧ Below w.heap.size w w'

theorem Pure.mono {P : Program} {f : FuncId} {args : List AV} {R R' : AV → Prop} (h : Pure P f args R) (hr : ∀ r, R r → R' r) : Pure P f args R' :=
  ⟨h.1, fun M w vs hM hv => (h.2 M w vs hM hv).mono fun _ _ ⟨v, r, he, hR, hf, hvr, hb⟩ => ⟨v, r, he, hr r hR, hf, hvr, hb⟩⟩

theorem Pure.callH {P : Program} {f : FuncId} {args : List AV} {R : AV → Prop} {H : Hp} {id : Nat} {K : AV → Hp → Prop} (h : Pure P f args R) (hf : fitL 0 args) (hK : ∀ r, R r → K r H) : CallH P f args H id K := by
  refine ⟨h.1, fun w0 c vs hS hH _ hv => ?_⟩
  refine (h.2 c.M c.w vs (fun b hb => hS.Mlt hb) (hv.toBase (fun _ h => h) hf)).mono fun e w' hh => ?_
  obtain ⟨v, r, he, hR, _, hvr, hb⟩ := hh
  obtain ⟨s1, s2⟩ := hS.world hb
  obtain ⟨t1, t2⟩ := s1.used (U := fun x => c.U x ∨ x = id) fun _ h => .inl h
  refine ⟨v, r, H, c.ρ, he, hK r hR, ?_, ?_, ?_⟩
  · rw [← hH]; exact t1
  · rw [← hH]; exact s2.trans t2
  · rw [← hH]
    have : (base w' c.M).le { c with w := w' } := base_le (c := { c with w := w' })
    exact VR.keep t2 (VR.keep this hvr)

def initF : Nat → List AV → Fr
  | _, [] => []
  | k, a :: as => (k, a) :: initF (k + 1) as

inductive LRes where
  | tmp (t : Nat)
  | cell (t : Nat) (ag : Bool) (k : Nat)

def lowRes (P : Program) : List ResultVar → Option (List LRes)
  | [] => some []
  | .tmp t :: r => (lowRes P r).map (.tmp t :: ·)
  | .cell t ty :: r => match aggT P ty, szT P ty, lowRes P r with
    | some ag, some k, some q => if ag = false ∧ k ≠ 1 then none else some (.cell t ag k :: q)
    | _, _, _ => none

def resA (fr : Fr) (H : Hp) : List LRes → Option (List AV)
  | [] => some []
  | .tmp t :: r => match resA fr H r with
    | some q => some (getF fr t :: q)
    | none => none
  | .cell t ag k :: r => match lookA H (getF fr t) with
    | some (sz, e, off) => match ldE ag k e sz off, resA fr H r with
      | some x, some q => some (x :: q)
      | _, _ => none
    | none => none
def pack : List AV → AV
  | [a] => a
  | as => .tup as

def retQ (lrs : List LRes) (R : AV → Prop) : QT
  | .exit _, _, _, _ => False
  | _, fr, H, _ => optK (resA fr H lrs) fun rs => fitA 0 (frz H 6 (pack rs)) ∧ R (frz H 6 (pack rs))

def resF (tmps : Array Value) : ResultVar → Sem Value
  | .tmp t => pure (tmps.getD t undef)
  | .cell a t => do loadVar t (← asAddr (tmps.getD a undef))
theorem results_eq (fn : Func) (tmps : Array Value) : results fn tmps = (do let vs ← fn.results.mapM (resF tmps); pure (if h : vs.size = 1 then vs[0] else .tuple vs)) := rfl

section
variable {P : Program} {w0 : World} {c : Cx} {fr : Fr} {H : Hp}

theorem res_run (hS : Sim w0 c) (hH : c.H = getH H) {tmps : Array Value} (hF : FR c fr tmps) : ∀ {rs : List ResultVar} {lrs : List LRes} {avs : List AV}, lowRes P rs = some lrs → resA fr H lrs = some avs →
    ∃ vs, (rs.mapM (resF tmps)).run P c.w = .ok vs c.w ∧ VRs c avs vs
  | [], lrs, avs, h1, h2 => by
    simp only [lowRes, Option.some.injEq] at h1
    subst h1
    simp only [resA, Option.some.injEq] at h2
    subst h2
    exact ⟨[], by simp, by rw [VRs]⟩
  | .tmp t :: rs, lrs, avs, h1, h2 => by
    simp only [lowRes, Option.map_eq_some_iff] at h1
    obtain ⟨q, h1, rfl⟩ := h1
    simp only [resA] at h2
    split at h2
    · rename_i q' hq
      simp only [Option.some.injEq] at h2
      subst h2
      obtain ⟨vs, g1, g2⟩ := res_run hS hH hF h1 hq
      refine ⟨tmps.getD t undef :: vs, ?_, by rw [VRs]; exact ⟨_, _, rfl, hF t, g2⟩⟩
      rw [List.mapM_cons]
      simp only [resF, Sem.run_bind, Sem.run_pure, Result.andThen_ok]
      rw [g1]
      rfl
    · simp at h2
  | .cell t ty :: rs, lrs, avs, h1, h2 => by
    simp only [lowRes] at h1
    split at h1
    · rename_i ag k q e1 e2 e3
      simp only [Option.ite_none_left_eq_some, Option.some.injEq] at h1
      obtain ⟨hk1, rfl⟩ := h1
      simp only [resA] at h2
      split at h2
      · rename_i sz e off hlk
        split at h2
        · rename_i x q' hx hq
          simp only [Option.some.injEq] at h2
          subst h2
          obtain ⟨vs, g1, g2⟩ := res_run hS hH hF e3 hq
          obtain ⟨blk, o', u, hv, hat, hve, hlt⟩ := look_spec hS hH (hF t) hlk
          obtain ⟨y, hy, hry⟩ := load_run (P := P) e1 e2 hat hve hlt hx (fun hag => by
            by_cases hk : k = 1
            · exact hk
            · exact absurd ⟨hag, hk⟩ hk1)
          refine ⟨y :: vs, ?_, by rw [VRs]; exact ⟨_, _, rfl, hry, g2⟩⟩
          rw [List.mapM_cons]
          simp only [resF, Sem.run_bind, hv, asAddr, Sem.run_pure, Result.andThen_ok, hy]
          rw [g1]
          rfl
        · simp at h2
      · simp at h2
    · simp at h1

theorem results_run {fn : Func} (hS : Sim w0 c) (hH : c.H = getH H) {tmps : Array Value} (hF : FR c fr tmps) {lrs : List LRes} {avs : List AV} (h1 : lowRes P fn.results.toList = some lrs) (h2 : resA fr H lrs = some avs) :
    ∃ v, (results fn tmps).run P c.w = .ok v c.w ∧ VR c (pack avs) v := by
  obtain ⟨vs, g1, g2⟩ := res_run hS hH hF h1 h2
  have hl := g2.length
  rw [results_eq, Array.mapM_eq_mapM_toList]
  simp only [Sem.run_bind, Sem.run_map, g1, Result.andThen_ok, Sem.run_pure]
  refine ⟨_, rfl, ?_⟩
  match avs, vs, g2, hl with
  | [], [], g2, _ => simp; unfold pack; rw [VR]; exact ⟨#[], rfl, g2⟩
  | [x], [v], g2, _ =>
    rw [VRs] at g2
    obtain ⟨v', vs', he, hx, _⟩ := g2
    simp only [List.cons.injEq] at he
    obtain ⟨rfl, _⟩ := he
    simpa [pack] using hx
  | x :: y :: as, v :: u :: vs, g2, _ => simp; unfold pack; rw [VR]; exact ⟨_, rfl, g2⟩

theorem initF_get : ∀ {args : List AV} {vs : List Value} {k : Nat} {pre post : List Value}, VRs c args vs → pre.length = k → ∀ t, VR c (getF (initF k args) t) ((pre ++ vs ++ post).toArray.getD t undef)
  | [], vs, k, pre, post, h, _, t => by simp only [initF, getF]; rw [VR]; trivial
  | a :: as, vs, k, pre, post, h, hk, t => by
    rw [VRs] at h
    obtain ⟨v, vs', rfl, h1, h2⟩ := h
    simp only [initF, getF]
    by_cases ht : t = k
    · subst ht
      rw [if_pos rfl]
      simpa [← hk] using h1
    · rw [if_neg ht]
      have := initF_get (k := k + 1) (pre := pre ++ [v]) (post := post) h2 (by simp [hk]) t
      simpa using this

theorem Pure.of_body {f : FuncId} {fn : Func} {code : Code} {lc : LC} {args : List AV} {lrs : List LRes} {R : AV → Prop} (hf : P.funcs[f]? = some fn) (hb : fn.body = some code) (hname : (fn.name == "runtime.NumGoroutine") = false)
    (hl : lowCode P fn.ntmps code = some lc) (hr : lowRes P fn.results.toList = some lrs) (ha : args.length ≤ fn.ntmps)
    (h : WL P fn.ntmps 0 lc (initF 0 args) [] 0 (retQ lrs R)) : Pure P f args R := by
  refine ⟨⟨fn, hf, by simp [hb], hname⟩, fun M w vs hM hv => calls_of_wp hf hb ?_⟩
  have hS : Sim w ⟨fun _ => none, getH [], fun _ => False, w, M⟩ := ⟨Below.refl _ _, hM, fun b e sz d es he => by simp [getH] at he, fun b b' k k' blk o z o' z' hk => by simp [getH] at hk⟩
  have hlen := hv.length
  have hv' : VRs ⟨fun _ => none, getH [], fun _ => False, w, M⟩ args vs := hv
  refine Code.wp_mono ?_ (h code hl w M ⟨fun _ => none, getH [], fun _ => False, w, M⟩ _ w ⟨?_, rfl, fun _ => none, fun _ => False, fun _ h => h.elim, hS, fun t => ?_, fun _ h => h.elim, Cx.le.refl _⟩)
  · rintro e a' w' ⟨x, fr', H', nx', rfl, hQ, hn, hd, ρ, U, hU, hS', hF, _⟩
    have fin : optK (resA fr' H' lrs) (fun rs => fitA 0 (frz H' 6 (pack rs)) ∧ R (frz H' 6 (pack rs))) → a'.defers = [] ∧ ∃ v, (results fn a'.tmps).run P w' = .ok v w' ∧
        ∃ v1 r, Ending.returned v = .returned v1 ∧ R r ∧ fitA 0 r ∧ VR (base w' M) r v1 ∧ Below w.heap.size w w' := by
      intro hq
      cases hres : resA fr' H' lrs with
      | none => rw [hres] at hq; exact hq.elim
      | some avs =>
        rw [hres] at hq
        obtain ⟨hfit, hR⟩ := hq
        obtain ⟨v, g1, g2⟩ := results_run (P := P) (fn := fn) hS' rfl hF hr hres
        exact ⟨hd, v, g1, v, _, rfl, hR, hfit, frz_spec hS' rfl 6 hfit g2, hS'.below⟩
    cases x with
    | normal => exact fin hQ
    | ret => exact fin hQ
    | exit id => exact hQ.elim
  · simp [hlen]; omega
  · have := initF_get (c := ⟨fun _ => none, getH [], fun _ => False, w, M⟩) (args := args) (vs := vs) (k := 0) (pre := []) (post := List.replicate (fn.ntmps - vs.length) undef) hv' rfl t
    have e : (vs.toArray ++ Array.replicate (fn.ntmps - vs.toArray.size) undef) = ([] ++ vs ++ List.replicate (fn.ntmps - vs.length) undef).toArray := by
      apply Array.ext'; simp
    simp only [e]
    exact this
end
end Go.Abs
namespace Go.Abs
/-- The same, the code as the program holds it. -/
theorem Pure.of_body2 {P : Program} {f : FuncId} {fn : Func} {lc : LC} {args : List AV} {lrs : List LRes} {R : AV → Prop} (hf : P.funcs[f]? = some fn) (hname : (fn.name == "runtime.NumGoroutine") = false)
    (hl : (fn.body.bind (lowCode P fn.ntmps)) = some lc) (hr : lowRes P fn.results.toList = some lrs) (ha : args.length ≤ fn.ntmps)
    (h : WL P fn.ntmps 0 lc (initF 0 args) [] 0 (retQ lrs R)) : Pure P f args R := by
  cases hb : fn.body with
  | none => rw [hb] at hl; simp at hl
  | some code => rw [hb] at hl; exact Pure.of_body hf hb hname hl hr ha h

theorem Pure.callN {P : Program} {f : FuncId} {args : List AV} {R : AV → Prop} {H : Hp} {nx : Nat} {K : AV → Hp → Nat → Prop} (h : Pure P f args R) (hf : fitL 0 args) (hK : ∀ r, R r → K r H nx) : CallN P f args H nx K := by
  refine ⟨h.1, fun w0 c vs hS hH hU hv => ?_⟩
  refine (h.2 c.M c.w vs (fun b hb => hS.Mlt hb) (hv.toBase (fun _ h => h) hf)).mono fun e w' hh => ?_
  obtain ⟨v, r, he, hR, _, hvr, hb⟩ := hh
  obtain ⟨s1, s2⟩ := hS.world hb
  refine ⟨v, r, H, nx, c.ρ, c.U, he, hK r hR, hU, ?_, ?_, ?_⟩
  · rw [← hH]; exact s1
  · rw [← hH]; exact s2
  · rw [← hH]
    have : (base w' c.M).le { c with w := w' } := base_le (c := { c with w := w' })
    exact VR.keep this hvr

/-- What a body leaves: its results, the rows, the names. -/
def retN (lrs : List LRes) (R : AV → Hp → Nat → Prop) : QT
  | .exit _, _, _, _ => False
  | _, fr, H, nx => optK (resA fr H lrs) fun rs => R (pack rs) H nx

theorem CallN.of_body2 {P : Program} {f : FuncId} {fn : Func} {lc : LC} {args : List AV} {lrs : List LRes} {H : Hp} {nx : Nat} {R : AV → Hp → Nat → Prop} (hf : P.funcs[f]? = some fn) (hname : (fn.name == "runtime.NumGoroutine") = false)
    (hl : (fn.body.bind (lowCode P fn.ntmps)) = some lc) (hr : lowRes P fn.results.toList = some lrs) (ha : args.length ≤ fn.ntmps)
    (h : WL P fn.ntmps nx lc (initF 0 args) H nx (retN lrs R)) : CallN P f args H nx R := by
  cases hb : fn.body with
  | none => rw [hb] at hl; simp at hl
  | some code =>
  rw [hb] at hl
  refine ⟨⟨fn, hf, by simp [hb], hname⟩, fun w0 c vs hS hH hU hv => calls_of_wp hf hb ?_⟩
  obtain ⟨ρ0, H0, U0, w, M0⟩ := c
  simp only at hH hU
  subst hH
  have hlen := hv.length
  refine Code.wp_mono ?_ (h code hl w0 M0 ⟨ρ0, getH H, U0, w, M0⟩ _ w ⟨?_, rfl, ρ0, U0, hU, hS, fun t => ?_, hU, Cx.le.refl _⟩)
  · rintro e a' w' ⟨x, fr', H', nx', rfl, hQ, hn, hd, ρ, U, hU', hS', hF, _, hle⟩
    have fin : optK (resA fr' H' lrs) (fun rs => R (pack rs) H' nx') → a'.defers = [] ∧ ∃ v, (results fn a'.tmps).run P w' = .ok v w' ∧
        ∃ v1 r H1 nx1 ρ1 U1, Ending.returned v = .returned v1 ∧ R r H1 nx1 ∧ (∀ b, U1 b → b < nx1) ∧ Sim w0 ⟨ρ1, getH H1, U1, w', M0⟩ ∧ Cx.le ⟨ρ0, getH H, U0, w, M0⟩ ⟨ρ1, getH H1, U1, w', M0⟩ ∧ VR ⟨ρ1, getH H1, U1, w', M0⟩ r v1 := by
      intro hq
      cases hres : resA fr' H' lrs with
      | none => rw [hres] at hq; exact hq.elim
      | some avs =>
        rw [hres] at hq
        obtain ⟨v, g1, g2⟩ := results_run (P := P) (fn := fn) hS' rfl hF hr hres
        exact ⟨hd, v, g1, v, _, H', nx', ρ, U, rfl, hq, hU', hS', hle, g2⟩
    cases x with
    | normal => exact fin hQ
    | ret => exact fin hQ
    | exit id => exact hQ.elim
  · simp [hlen]; omega
  · have := initF_get (c := ⟨ρ0, getH H, U0, w, M0⟩) (args := args) (vs := vs) (k := 0) (pre := []) (post := List.replicate (fn.ntmps - vs.length) undef) hv rfl t
    have e : (vs.toArray ++ Array.replicate (fn.ntmps - vs.toArray.size) undef) = ([] ++ vs ++ List.replicate (fn.ntmps - vs.length) undef).toArray := by
      apply Array.ext'; simp
    simp only [e]
    exact this
end Go.Abs
