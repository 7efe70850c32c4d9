/- What is ready, by the program. -/
import Derived.Test.YtliabecchkolgaaVlook
namespace Go.Proofs.Ytliabecchkolgaa
open Go Go.Abs Go.Proofs Go.RowKit
set_option linter.unusedSimpArgs false
set_option linter.unusedVariables false
theorem pure_of_call {P : Program} {f : FuncId} {args : List AV} {u : AV} (h : CallN P f args [] 0 (fun r H _ => Abs.frz H 6 r = u)) (hf : fitA 0 u) : Pure P f args (fun r => r = u) := by
  refine ⟨h.1, fun M w vs hM hv => ?_⟩
  have hS : Sim w ⟨fun _ => none, getH [], fun _ => False, w, M⟩ := ⟨Below.refl _ _, hM, fun b e sz d es he => by simp [getH] at he, fun b b' k k' blk o z o' z' hk => by simp [getH] at hk⟩
  have hv' : VRs ⟨fun _ => none, getH [], fun _ => False, w, M⟩ args vs := hv
  refine (h.2 w _ vs hS rfl (fun _ h => h.elim) hv').mono ?_
  rintro en w' ⟨v, r1, H1, nx', ρ, U, he, hz, hU, hS', _, g2⟩
  have h3 := frz_spec hS' rfl 6 (a := r1) (v := v) (by rw [hz]; exact hf) g2
  rw [hz] at h3
  exact ⟨v, _, he, rfl, hf, h3, hS'.below⟩
theorem weak_pure {P : Program} {f : FuncId} {args : List AV} {a b : AV} (h : Pure P f args (fun r => r = a)) (hf : fitA 0 b) (hle : ∀ c, AVle c c a b) : Pure P f args (fun r => r = b) :=
  ⟨h.1, fun M w vs hM hv => (h.2 M w vs hM hv).mono fun _ _ ⟨v, r, he, hR, hf0, hvr, hb⟩ => ⟨v, b, he, rfl, hf, hle _ v (by rw [← hR]; exact hvr), hb⟩⟩
def listAv (l : List StepV) : AV := if l = [] then .sc (.slice none 0 0) else .im 2 .any (l.map StepV.av)
@[simp] theorem fit_frozenS (n : Nat) (o : Obj) (s : Mach) : fitA n (s.frozen o) := by simp [Mach.frozen, fitA, fitL, fitL_map, CoreS.cells]
@[simp] theorem fit_zcore (n : Nat) : fitA n zcore := by simp [zcore, fitA, fitL, CoreS.cells]
@[simp] theorem fit_listAv (n : Nat) (l : List StepV) : fitA n (listAv l) := by
  unfold listAv
  split <;> simp [fitA, fitL, fitL_map]
theorem next_fr {o : Obj} {s : Mach} (g : Good o s) (q : Nat) (hq : q < s.cores.length) : Pure Try.prog 36 [s.frozen o, i64 q, .sc (.pointer none)] (fun r => r = .agg [s.frozen o, .ip 19 .any (s.cores.map CoreS.frozen) q 0, u8 (instrAt o s q).kind, u8 (instrAt o s q).op, i64 (instrAt o s q).d, i64 (instrAt o s q).a, i64 (instrAt o s q).b, i64 (instrAt o s q).addr, i64 (instrAt o s q).to, i64 (instrAt o s q).word, i64 (instrAt o s q).fr, .sc (.pointer none)]) := by
  refine Go.pure Try.func36 nm36 low36 res36 nt36 rfl ?_
  have hqo : q < o.cores.length := by rw [← g.n]; exact hq
  have hpc := g.pc q hq
  have hpc2 : (s.core q).pc.toNat < (o.core q).code.length := by omega
  have hpc3 : 0 ≤ (s.core q).pc := hpc.1
  repeat' (first
    | ((with_reducible refine Go.red ?_); conv => whnf)
    | (with_reducible refine Go.and ?_ ?_)
    | (with_reducible exact True.intro)
    | (with_reducible refine Go.far ?_)
    | ((with_reducible refine Apt.mk ?_); (try dsimp only); omega)
    | ((with_reducible refine Ask.mk ?_); first | exact aAsk | exact aAsk2)
    | ((with_reducible refine Go.ari64 ?_ ?_ ?_); (· exact aBnd); (· exact aBnd))
    | ((with_reducible refine Go.ariu8 ?_ ?_ ?_); (· exact aBnd); (· exact aBnd))
    | (with_reducible refine Go.ari0 ?_)
    | (apply Go.elem; (· (first | exact frozen_at hq _ | exact getD_av _ _ _ _ hpc2 | exact aElem)))
    | (apply Go.row; (· exact aRow))
    | (apply Go.gives; (· exact aGives))
    | (apply Go.gives; (· exact aRes))
    | (with_reducible refine Go.unroll ?_)
    | (with_reducible refine Go.drawn ?_)
    | (refine Go.gt rfl ?_)
    | (refine Go.gf rfl ?_)
    | (with_reducible refine Go.join ?_)
    | (refine Go.lt' rfl ?_)
    | (refine Go.lf' rfl ?_)
    | ((with_reducible refine Go.bool ?_ ?_) <;> intro hc <;> (try simp only [List.length_map, ne_eq, hcs] at hc) <;> try (exfalso; omega))
    | ((with_reducible refine Res.eq ?_ ?_); (· exact aFit)))
  show AV.agg (List.map (Abs.frz _ 5) [s.frozen o, .ip 19 .any (s.cores.map CoreS.frozen) q 0, u8 (instrAt o s q).kind, u8 (instrAt o s q).op, i64 (instrAt o s q).d, i64 (instrAt o s q).a, i64 (instrAt o s q).b, i64 (instrAt o s q).addr, i64 (instrAt o s q).to, i64 (instrAt o s q).word, i64 (instrAt o s q).fr, .sc (.pointer none)]) = _
  rw [frz_same 5 (by simp [fitL, fitA, fitL_map, CoreS.cells])]
theorem stalls_fr (o : Obj) (s : Mach) (q : Nat) (hq : q < s.cores.length) (i : Instr) : Pure Try.prog 37 [.agg [s.frozen o, .ip 19 .any (s.cores.map CoreS.frozen) q 0, u8 i.kind, u8 i.op, i64 i.d, i64 i.a, i64 i.b, i64 i.addr, i64 i.to, i64 i.word, i64 i.fr, .sc (.pointer none)]] (fun r => r = bl (stallsF o s q i)) := by
  refine Go.pure Try.func37 nm37 low37 res37 nt37 rfl ?_
  repeat' (first
    | ((with_reducible refine Go.red ?_); conv => whnf)
    | (with_reducible refine Go.and ?_ ?_)
    | (with_reducible exact True.intro)
    | (with_reducible refine Go.far ?_)
    | ((with_reducible refine Apt.mk ?_); (try dsimp only); omega)
    | ((with_reducible refine Ask.mk ?_); first | exact aAsk | exact aAsk2)
    | ((with_reducible refine Go.ari64 ?_ ?_ ?_); (· exact aBnd); (· exact aBnd))
    | ((with_reducible refine Go.ariu8 ?_ ?_ ?_); (· exact aBnd); (· exact aBnd))
    | (with_reducible refine Go.ari0 ?_)
    | (apply Go.elem; (· (first | exact frozen_at hq _ | exact aElem)))
    | (apply Go.row; (· exact aRow))
    | (apply Go.gives; (· exact aGives))
    | (apply Go.gives; (· exact aRes))
    | (with_reducible refine Go.unroll ?_)
    | (with_reducible refine Go.drawn ?_)
    | (refine Go.gt rfl ?_)
    | (refine Go.gf rfl ?_)
    | (with_reducible refine Go.join ?_)
    | (refine Go.lt' rfl ?_)
    | (refine Go.lf' rfl ?_)
    | ((with_reducible refine Go.bool ?_ ?_) <;> intro hc <;> (try simp only [List.length_map, ne_eq, hcs] at hc) <;> try (exfalso; omega))
    | ((with_reducible refine Res.eq ?_ ?_); (· exact aFit)))
  all_goals simp only [stallsF]
  all_goals (try simp only [List.length_map])
  · rw [if_pos (by assumption)]
  · rw [if_neg (by omega), if_pos (by omega)]
  · rw [if_neg (by omega), if_pos (by omega)]
  · rw [if_neg (by omega), if_pos (by omega)]
  · rw [if_neg (by omega), if_neg (by omega)]
def readyAt (o : Obj) (s : Mach) (q : Nat) : List StepV := (if (s.core q).halted = false ∧ stallsF o s q (instrAt o s q) = false then [⟨1, q⟩] else []) ++ (if 0 < (s.core q).buf.length then [⟨2, q⟩] else [])
def readyN (o : Obj) (s : Mach) (n : Nat) : List StepV := (List.range n).flatMap (readyAt o s)
theorem readyN_next (o : Obj) (s : Mach) (n : Nat) : readyN o s (n + 1) = readyN o s n ++ readyAt o s n := by simp [readyN, List.range_succ]
theorem readyAt_le (o : Obj) (s : Mach) (n : Nat) : (readyAt o s n).length ≤ 2 := by
  simp only [readyAt, List.length_append]
  split <;> split <;> simp
theorem readyN_le (o : Obj) (s : Mach) : ∀ n, (readyN o s n).length ≤ 2 * n
  | 0 => by simp [readyN]
  | n + 1 => by rw [readyN_next, List.length_append]; have := readyN_le o s n; have := readyAt_le o s n; omega
/-- A list that grows from nothing. -/
def Grown (lo : Nat) (l : List StepV) (v : AV) (H : Hp) (n : Nat) : Prop := (l = [] ∧ v = .sc (.slice none 0 0)) ∨ ∃ b, v = .sl b l.length ∧ (lo ≤ b ∧ b < n) ∧ 0 < l.length ∧ ∃ d es, getH H b = some (.row 46 2 d es) ∧ es = l.map StepV.av
theorem app_le2 {l m : List AV} {n k : Nat} (hl : l.length = 1) (hm : m.length = 1) (h : (n + 2) * k ≤ 140737488355328) : (n + l.length + m.length) * k ≤ maxB := by rw [hl, hm]; exact h
theorem Grown.mk {l : List StepV} {lo b n len : Nat} {H : Hp} {d : AV} {es : List AV} (hlen : l.length = len) (h0 : lo ≤ b) (hb : b < n) (hp : 0 < len) (r : getH H b = some (.row 46 2 d es)) (he : es = l.map StepV.av) : Grown lo l (.sl b len) H n := by
  subst hlen; exact .inr ⟨b, rfl, ⟨h0, hb⟩, hp, d, es, r, he⟩
theorem ra_both {o : Obj} {s : Mach} {q : Nat} (h1 : (s.core q).halted = false ∧ stallsF o s q (instrAt o s q) = false) (h2 : (0 : Int) < (s.core q).buf.length) : readyAt o s q = [⟨1, q⟩, ⟨2, q⟩] := by
  rw [readyAt, if_pos h1, if_pos (by omega)]; rfl
theorem ra_run {o : Obj} {s : Mach} {q : Nat} (h1 : (s.core q).halted = false ∧ stallsF o s q (instrAt o s q) = false) (h2 : ((s.core q).buf.length : Int) ≤ 0) : readyAt o s q = [⟨1, q⟩] := by
  rw [readyAt, if_pos h1, if_neg (by omega)]; rfl
theorem ra_drain {o : Obj} {s : Mach} {q : Nat} (h1 : ¬(s.core q).halted = false ∨ stallsF o s q (instrAt o s q) = true) (h2 : (0 : Int) < (s.core q).buf.length) : readyAt o s q = [⟨2, q⟩] := by
  rw [readyAt, if_neg (by rcases h1 with h | h <;> simp_all), if_pos (by omega)]; rfl
theorem ra_none {o : Obj} {s : Mach} {q : Nat} (h1 : ¬(s.core q).halted = false ∨ stallsF o s q (instrAt o s q) = true) (h2 : ((s.core q).buf.length : Int) ≤ 0) : readyAt o s q = [] := by
  rw [readyAt, if_neg (by rcases h1 with h | h <;> simp_all), if_neg (by omega)]; rfl
theorem unforce1 {x : AV} {R : AV → Prop} (h : R x) : forceD x R := by rw [forceD_eq]; exact h
set_option maxHeartbeats 4000000 in
theorem ready_grown {o : Obj} {s : Mach} (g : Good o s) (hc : s.cores.length ≤ 8) : CallN Try.prog 31 [s.frozen o] [] 0 (fun r H n => Grown 0 (readyN o s s.cores.length) r H n) := by
  refine Go.fn Try.func31 nm31 low31 res31 nt31 rfl ?_
  have h1 := cores_pure o s
  simp only [Mach.frozen] at h1 ⊢
  repeat' (first
    | ((with_reducible refine Go.red ?_); conv => whnf)
    | (with_reducible refine Go.and ?_ ?_)
    | (with_reducible exact True.intro)
    | (with_reducible refine Go.far ?_)
    | ((with_reducible refine Apt.mk ?_); (try dsimp only); omega)
    | ((with_reducible refine Ask.mk ?_); first | exact aAsk | exact aAsk2)
    | ((with_reducible refine Go.ari64 ?_ ?_ ?_); (· exact aBnd); (· exact aBnd))
    | ((with_reducible refine Go.ariu8 ?_ ?_ ?_); (· exact aBnd); (· exact aBnd))
    | (with_reducible refine Go.ari0 ?_)
    | (apply Go.elem; (· exact aElem))
    | (apply Go.row; (· exact aRow))
    | (apply Go.gives; (· exact aGives))
    | (apply Go.gives; (· exact aRes))
    | (with_reducible refine Go.unroll ?_)
    | (with_reducible refine Go.drawn ?_)
    | ((with_reducible refine Go.callW (h1) ?_ ?_); (· exact aFit))
    | ((with_reducible refine Go.callJ (fun _ => h1) ?_ ?_); (· exact aFit))
    | ((with_reducible refine Go.callE (h1) ?_ ?_); (· exact aFit))
    | ((with_reducible refine Go.callF (fun _ => h1) ?_ ?_); (· exact aFit))
    | (refine Go.gt rfl ?_)
    | (refine Go.gf rfl ?_)
    | (with_reducible refine Go.join ?_)
    | (refine Go.lt' rfl ?_)
    | (refine Go.lf' rfl ?_)
    | ((with_reducible refine Go.bool ?_ ?_) <;> intro hc <;> (try simp only [List.length_map, ne_eq, hcs] at hc) <;> try (exfalso; omega))
    | ((with_reducible refine Res.eq ?_ ?_); (· exact aFit)))
  refine Go.loop (fun p : Nat × AV => [(0, s.frozen o), (7, i64 s.cores.length), (8, i64 p.1), (3, p.2)]) (fun p H n => p.1 ≤ s.cores.length ∧ Grown 0 (readyN o s p.1) p.2 H n) (fun p => s.cores.length - p.1) (0, .sc (.slice none 0 0)) aLess ⟨Nat.zero_le _, .inl ⟨rfl, rfl⟩⟩ ?_
  rintro ⟨k, v⟩ H n ⟨hk, hv⟩
  simp only at hk hv
  dsimp only
  have hle := readyN_le o s k
  by_cases hkl : k < s.cores.length
  · have h2 := next_fr g k hkl
    have h3 := stalls_fr o s k hkl (instrAt o s k)
    simp only [Mach.frozen] at h2 h3 ⊢
    have hnx := readyN_next o s k
    rcases hv with ⟨hl, rfl⟩ | ⟨b, rfl, hb, hl, d, es, r, hes⟩
    · repeat' (first
          | ((with_reducible refine Go.red ?_); conv => whnf)
          | (with_reducible refine Go.and ?_ ?_)
          | (with_reducible exact True.intro)
          | (with_reducible refine Go.far ?_)
          | ((with_reducible refine Apt.mk ?_); (try dsimp only); omega)
          | ((with_reducible refine Ask.mk ?_); first | exact aAsk | exact aAsk2)
          | ((with_reducible refine Go.ari64 ?_ ?_ ?_); (· exact aBnd); (· exact aBnd))
          | ((with_reducible refine Go.ariu8 ?_ ?_ ?_); (· exact aBnd); (· exact aBnd))
          | (with_reducible refine Go.ari0 ?_)
          | (apply Go.elem; (· (first | exact frozen_at hkl _ | exact aElem)))
          | (apply Go.row; (· exact aRow))
          | (apply Go.gives; (· exact aGives))
          | (apply Go.gives; (· exact aRes))
          | (with_reducible refine Go.unroll ?_)
          | (with_reducible refine Go.drawn ?_)
          | ((with_reducible refine Go.callW (h2) ?_ ?_); (· exact aFit))
          | ((with_reducible refine Go.callJ (fun _ => h2) ?_ ?_); (· exact aFit))
          | ((with_reducible refine Go.callE (h2) ?_ ?_); (· exact aFit))
          | ((with_reducible refine Go.callF (fun _ => h2) ?_ ?_); (· exact aFit))
          | ((with_reducible refine Go.callW (h3) ?_ ?_); (· exact aFit))
          | ((with_reducible refine Go.callJ (fun _ => h3) ?_ ?_); (· exact aFit))
          | ((with_reducible refine Go.callE (h3) ?_ ?_); (· exact aFit))
          | ((with_reducible refine Go.callF (fun _ => h3) ?_ ?_); (· exact aFit))
          | (refine Go.gt rfl ?_)
          | (refine Go.gf rfl ?_)
          | (with_reducible refine Go.join ?_)
          | (refine Go.lt' rfl ?_)
          | (refine Go.lf' rfl ?_)
          | ((with_reducible refine Go.bool ?_ ?_) <;> intro hc <;> (try simp only [List.length_map, ne_eq, hcs] at hc) <;> try (exfalso; omega))
          | ((with_reducible refine Res.eq ?_ ?_); (· exact aFit)))
      · have ra := ra_both (o := o) (s := s) (q := k) (by assumption) hc
        exact ⟨(k + 1, .sl (n + 22) 2), by show s.cores.length - (k + 1) < s.cores.length - k; omega, aLess, by show k + 1 ≤ s.cores.length; omega, Grown.mk (by rw [hnx, ra, hl]; rfl) aNx aNx (by omega) aRow (by rw [hnx, ra, hl]; rfl)⟩
      · have ra := ra_run (o := o) (s := s) (q := k) (by assumption) hc
        exact ⟨(k + 1, .sl (n + 22) 1), by show s.cores.length - (k + 1) < s.cores.length - k; omega, aLess, by show k + 1 ≤ s.cores.length; omega, Grown.mk (by rw [hnx, ra, hl]; rfl) aNx aNx (by omega) aRow (by rw [hnx, ra, hl]; rfl)⟩
      · have ra := ra_drain (o := o) (s := s) (q := k) (by assumption) hc
        exact ⟨(k + 1, .sl (n + 29) 1), by show s.cores.length - (k + 1) < s.cores.length - k; omega, aLess, by show k + 1 ≤ s.cores.length; omega, Grown.mk (by rw [hnx, ra, hl]; rfl) aNx aNx (by omega) aRow (by rw [hnx, ra, hl]; rfl)⟩
      · have ra := ra_none (o := o) (s := s) (q := k) (by assumption) hc
        exact ⟨(k + 1, .sc (.slice none 0 0)), by show s.cores.length - (k + 1) < s.cores.length - k; omega, aLess, by show k + 1 ≤ s.cores.length; omega, .inl ⟨by rw [hnx, ra, hl]; rfl, rfl⟩⟩
    · have hesl : es.length = (readyN o s k).length := by rw [hes]; simp
      repeat' (first
          | ((with_reducible refine Go.red ?_); conv => whnf)
          | (with_reducible refine Go.and ?_ ?_)
          | (with_reducible exact True.intro)
          | (with_reducible refine Go.far ?_)
          | ((with_reducible refine Apt.mk ?_); (try dsimp only); omega)
          | ((with_reducible refine Ask.mk ?_); first | exact aAsk | exact aAsk2)
          | ((with_reducible refine Go.ari64 ?_ ?_ ?_); (· exact aBnd); (· exact aBnd))
          | ((with_reducible refine Go.ariu8 ?_ ?_ ?_); (· exact aBnd); (· exact aBnd))
          | (with_reducible refine Go.ari0 ?_)
          | (apply Go.elem; (· (first | exact frozen_at hkl _ | exact aElem)))
          | (apply Go.row; (· exact aRow))
          | (apply Go.gives; (· exact aGives))
          | (apply Go.gives; (· exact aRes))
          | (with_reducible refine Go.unroll ?_)
          | (with_reducible refine Go.drawn ?_)
          | ((with_reducible refine Go.callW (h2) ?_ ?_); (· exact aFit))
          | ((with_reducible refine Go.callJ (fun _ => h2) ?_ ?_); (· exact aFit))
          | ((with_reducible refine Go.callE (h2) ?_ ?_); (· exact aFit))
          | ((with_reducible refine Go.callF (fun _ => h2) ?_ ?_); (· exact aFit))
          | ((with_reducible refine Go.callW (h3) ?_ ?_); (· exact aFit))
          | ((with_reducible refine Go.callJ (fun _ => h3) ?_ ?_); (· exact aFit))
          | ((with_reducible refine Go.callE (h3) ?_ ?_); (· exact aFit))
          | ((with_reducible refine Go.callF (fun _ => h3) ?_ ?_); (· exact aFit))
          | (refine Go.gt rfl ?_)
          | (refine Go.gf rfl ?_)
          | (with_reducible refine Go.join ?_)
          | (refine Go.lt' rfl ?_)
          | (refine Go.lf' rfl ?_)
          | ((with_reducible refine Go.bool ?_ ?_) <;> intro hc <;> (try simp only [List.length_map, ne_eq, hcs] at hc) <;> try (exfalso; omega))
          | ((with_reducible refine Res.eq ?_ ?_); (· exact aFit)))
      · exact ⟨app_le2 rfl rfl (by omega)⟩
      · have ra := ra_both (o := o) (s := s) (q := k) (by assumption) hc
        exact ⟨(k + 1, .sl b ((readyN o s k).length + 2)), by show s.cores.length - (k + 1) < s.cores.length - k; omega, aLess, by show k + 1 ≤ s.cores.length; omega, Grown.mk (by rw [hnx, ra, List.length_append]; rfl) hb.1 (Nat.lt_of_lt_of_le hb.2 aNx) (by omega) aRow (by rw [hnx, ra, List.map_append, ← hes]; exact List.append_assoc _ [_] [_])⟩
      · have ra := ra_run (o := o) (s := s) (q := k) (by assumption) hc
        exact ⟨(k + 1, .sl b ((readyN o s k).length + 1)), by show s.cores.length - (k + 1) < s.cores.length - k; omega, aLess, by show k + 1 ≤ s.cores.length; omega, Grown.mk (by rw [hnx, ra, List.length_append]; rfl) hb.1 (Nat.lt_of_lt_of_le hb.2 aNx) (by omega) aRow (by rw [hnx, ra, List.map_append, ← hes]; exact rfl)⟩
      · have ra := ra_drain (o := o) (s := s) (q := k) (by assumption) hc
        exact ⟨(k + 1, .sl b ((readyN o s k).length + 1)), by show s.cores.length - (k + 1) < s.cores.length - k; omega, aLess, by show k + 1 ≤ s.cores.length; omega, Grown.mk (by rw [hnx, ra, List.length_append]; rfl) hb.1 (Nat.lt_of_lt_of_le hb.2 aNx) (by omega) aRow (by rw [hnx, ra, List.map_append, ← hes]; exact rfl)⟩
      · have ra := ra_none (o := o) (s := s) (q := k) (by assumption) hc
        exact ⟨(k + 1, .sl b (readyN o s k).length), by show s.cores.length - (k + 1) < s.cores.length - k; omega, aLess, by show k + 1 ≤ s.cores.length; omega, Grown.mk (by rw [hnx, ra, List.append_nil]) hb.1 (Nat.lt_of_lt_of_le hb.2 aNx) hl aRow (by rw [hnx, ra, List.append_nil]; exact hes)⟩
  · have hkn : k = s.cores.length := by omega
    subst hkn
    simp only [Mach.frozen]
    rcases hv with ⟨hl, rfl⟩ | ⟨b, rfl, hb, hl, d, es, r, hes⟩
    · repeat' (first
          | ((with_reducible refine Go.red ?_); conv => whnf)
          | (with_reducible refine Go.and ?_ ?_)
          | (with_reducible exact True.intro)
          | (with_reducible refine Go.far ?_)
          | ((with_reducible refine Apt.mk ?_); (try dsimp only); omega)
          | ((with_reducible refine Ask.mk ?_); first | exact aAsk | exact aAsk2)
          | ((with_reducible refine Go.ari64 ?_ ?_ ?_); (· exact aBnd); (· exact aBnd))
          | ((with_reducible refine Go.ariu8 ?_ ?_ ?_); (· exact aBnd); (· exact aBnd))
          | (with_reducible refine Go.ari0 ?_)
          | (apply Go.elem; (· exact aElem))
          | (apply Go.row; (· exact aRow))
          | (apply Go.gives; (· exact aGives))
          | (apply Go.gives; (· exact aRes))
          | (with_reducible refine Go.unroll ?_)
          | (with_reducible refine Go.drawn ?_)
          | (refine Go.gt rfl ?_)
          | (refine Go.gf rfl ?_)
          | (with_reducible refine Go.join ?_)
          | (refine Go.lt' rfl ?_)
          | (refine Go.lf' rfl ?_)
          | ((with_reducible refine Go.bool ?_ ?_) <;> intro hc <;> (try simp only [List.length_map, ne_eq, hcs] at hc) <;> try (exfalso; omega))
          | ((with_reducible refine Res.eq ?_ ?_); (· exact aFit)))
      exact ⟨.inl ⟨hl, rfl⟩⟩
    · repeat' (first
          | ((with_reducible refine Go.red ?_); conv => whnf)
          | (with_reducible refine Go.and ?_ ?_)
          | (with_reducible exact True.intro)
          | (with_reducible refine Go.far ?_)
          | ((with_reducible refine Apt.mk ?_); (try dsimp only); omega)
          | ((with_reducible refine Ask.mk ?_); first | exact aAsk | exact aAsk2)
          | ((with_reducible refine Go.ari64 ?_ ?_ ?_); (· exact aBnd); (· exact aBnd))
          | ((with_reducible refine Go.ariu8 ?_ ?_ ?_); (· exact aBnd); (· exact aBnd))
          | (with_reducible refine Go.ari0 ?_)
          | (apply Go.elem; (· exact aElem))
          | (apply Go.row; (· exact aRow))
          | (apply Go.gives; (· exact aGives))
          | (apply Go.gives; (· exact aRes))
          | (with_reducible refine Go.unroll ?_)
          | (with_reducible refine Go.drawn ?_)
          | (refine Go.gt rfl ?_)
          | (refine Go.gf rfl ?_)
          | (with_reducible refine Go.join ?_)
          | (refine Go.lt' rfl ?_)
          | (refine Go.lf' rfl ?_)
          | ((with_reducible refine Go.bool ?_ ?_) <;> intro hc <;> (try simp only [List.length_map, ne_eq, hcs] at hc) <;> try (exfalso; omega))
          | ((with_reducible refine Res.eq ?_ ?_); (· exact aFit)))
      exact ⟨.inr ⟨b, rfl, ⟨hb.1, Nat.lt_of_lt_of_le hb.2 aNx⟩, hl, d, es, aRow, hes⟩⟩
theorem ready_raw {o : Obj} {s : Mach} (g : Good o s) (hc : s.cores.length ≤ 8) : Pure Try.prog 31 [s.frozen o] (fun r => r = listAv (readyN o s s.cores.length)) := by
  refine pure_of_call ((ready_grown g hc).mono fun r H n hr => ?_) (by simp)
  rcases hr with ⟨h1, rfl⟩ | ⟨b, rfl, _, hl, d, es, hr, rfl⟩
  · rw [listAv, if_pos h1, frz_sc]
  · rw [frz_sl hr (by simp), frz_same 5 (by simp [fitL_map, fitA, fitL]), listAv, if_neg (fun h => by rw [h] at hl; exact absurd hl (by simp))]
theorem ready_mk {o : Obj} {s : Mach} (g : Good o s) (hc : s.cores.length ≤ 8) : CallN Try.prog 31 [s.frozen o] [] 0 (fun r1 H1 _ => ∃ b d0, r1 = .sl b ((readyN o s s.cores.length).map StepV.av).length ∧ getH H1 b = some (.row 46 2 d0 ((readyN o s s.cores.length).map StepV.av))) := by
  refine (ready_grown g hc).wk ?_
  rintro r H' n (⟨h1, rfl⟩ | ⟨b, rfl, _, hl, d, es, hr, rfl⟩)
  · refine ⟨_, _, _, Wk.nil (nx := n) 46 2 .any (by omega), n, .any, by rw [h1]; rfl, by rw [h1]; exact getH_here _ _ _⟩
  · exact ⟨_, H', n, Wk.refl _ _ _, b, d, by rw [List.length_map], hr⟩
theorem ready_call {o : Obj} {s : Mach} {L : Lay} {H : Hp} {nx : Nat} (h : MAt o s L H nx) (g : Good o s) (hc : s.cores.length ≤ 8) : CallN Try.prog 31 [.pt L.m 1 0 0] H nx (fun r H' n => r = .sl nx ((readyN o s s.cores.length).map StepV.av).length ∧ H' = (nx, some (.row 46 2 .any ((readyN o s s.cores.length).map StepV.av))) :: H ∧ n = nx + 1) :=
  (ready_mk g hc).freshN (fun i hi => by rw [getD_av _ _ _ _ (by simpa using hi)]; simp [flatR, flatL, StepV.cells]) (by rw [List.map_cons, List.map_nil, h.frz]) (by simp [fitL, fit_frozen])
theorem memory_mk (o : Obj) (s : Mach) (hm : s.mem.length ≤ 4096) : CallN Try.prog 18 [s.frozen o] [] 0 (fun r1 H1 _ => ∃ b d0, r1 = .sl b (s.mem.map i64).length ∧ getH H1 b = some (.row 2 1 d0 (s.mem.map i64))) := by
  refine Go.fn Try.func18 nm18 low18 res18 nt18 rfl ?_
  repeat' (first
    | ((with_reducible refine Go.red ?_); conv => whnf)
    | (with_reducible refine Go.and ?_ ?_)
    | (with_reducible exact True.intro)
    | (with_reducible refine Go.far ?_)
    | ((with_reducible refine Apt.mk ?_); (try dsimp only); omega)
    | ((with_reducible refine Ask.mk ?_); first | exact aAsk | exact aAsk2)
    | ((with_reducible refine Go.ari64 ?_ ?_ ?_); (· exact aBnd); (· exact aBnd))
    | ((with_reducible refine Go.ariu8 ?_ ?_ ?_); (· exact aBnd); (· exact aBnd))
    | (with_reducible refine Go.ari0 ?_)
    | (apply Go.elem; (· exact aElem))
    | (apply Go.row; (· exact aRow))
    | (apply Go.gives; (· exact aGives))
    | (apply Go.gives; (· exact aRes))
    | (with_reducible refine Go.unroll ?_)
    | (with_reducible refine Go.drawn ?_)
    | (refine Go.gt rfl ?_)
    | (refine Go.gf rfl ?_)
    | (with_reducible refine Go.join ?_)
    | (refine Go.lt' rfl ?_)
    | (refine Go.lf' rfl ?_)
    | ((with_reducible refine Go.bool ?_ ?_) <;> intro hc <;> (try simp only [List.length_map, ne_eq, hcs] at hc) <;> try (exfalso; omega))
    | ((with_reducible refine Res.eq ?_ ?_); (· exact aFit)))
  refine Go.callN (((clone_words_mk (es := s.mem.map i64) (by rw [List.length_map]; omega)).freshN (fun i hi => by rw [getD_av _ _ _ _ (by simpa using hi)]; trivial) rfl (by simp [fitL, fitA, fitL_map]))) ?_
  rintro _ _ _ ⟨rfl, rfl, rfl⟩
  repeat' (first
    | ((with_reducible refine Go.red ?_); conv => whnf)
    | (with_reducible refine Go.and ?_ ?_)
    | (with_reducible exact True.intro)
    | (with_reducible refine Go.far ?_)
    | ((with_reducible refine Apt.mk ?_); (try dsimp only); omega)
    | ((with_reducible refine Ask.mk ?_); first | exact aAsk | exact aAsk2)
    | ((with_reducible refine Go.ari64 ?_ ?_ ?_); (· exact aBnd); (· exact aBnd))
    | ((with_reducible refine Go.ariu8 ?_ ?_ ?_); (· exact aBnd); (· exact aBnd))
    | (with_reducible refine Go.ari0 ?_)
    | (apply Go.elem; (· exact aElem))
    | (apply Go.row; (· exact aRow))
    | (apply Go.gives; (· exact aGives))
    | (apply Go.gives; (· exact aRes))
    | (with_reducible refine Go.unroll ?_)
    | (with_reducible refine Go.drawn ?_)
    | (refine Go.gt rfl ?_)
    | (refine Go.gf rfl ?_)
    | (with_reducible refine Go.join ?_)
    | (refine Go.lt' rfl ?_)
    | (refine Go.lf' rfl ?_)
    | ((with_reducible refine Go.bool ?_ ?_) <;> intro hc <;> (try simp only [List.length_map, ne_eq, hcs] at hc) <;> try (exfalso; omega))
    | ((with_reducible refine Res.eq ?_ ?_); (· exact aFit)))
  exact ⟨⟨_, _, rfl, aRow⟩⟩
theorem memory_rows {o : Obj} {s : Mach} {L : Lay} {H : Hp} {nx : Nat} (h : MAt o s L H nx) (hm : s.mem.length ≤ 4096) : CallN Try.prog 18 [.pt L.m 1 0 0] H nx (fun r H' n => r = .sl nx (s.mem.map i64).length ∧ H' = (nx, some (.row 2 1 .any (s.mem.map i64))) :: H ∧ n = nx + 1) :=
  (memory_mk o s hm).freshN (fun i hi => by rw [getD_av _ _ _ _ (by simpa using hi)]; trivial) (by rw [List.map_cons, List.map_nil, h.frz]) (by simp [fitL, fit_frozen])
theorem prints_mk2 (o : Obj) (s : Mach) (hp : s.prints.length * 16 ≤ 140737488355328) : CallN Try.prog 27 [s.frozen o] [] 0 (fun r1 H1 _ => ∃ b d0, r1 = .sl b (s.prints.map PrintS.av).length ∧ getH H1 b = some (.row 75 2 d0 (s.prints.map PrintS.av))) := by
  refine Go.fn Try.func27 nm27 low27 res27 nt27 rfl ?_
  repeat' (first
    | ((with_reducible refine Go.red ?_); conv => whnf)
    | (with_reducible refine Go.and ?_ ?_)
    | (with_reducible exact True.intro)
    | (with_reducible refine Go.far ?_)
    | ((with_reducible refine Apt.mk ?_); (try dsimp only); omega)
    | ((with_reducible refine Ask.mk ?_); first | exact aAsk | exact aAsk2)
    | ((with_reducible refine Go.ari64 ?_ ?_ ?_); (· exact aBnd); (· exact aBnd))
    | ((with_reducible refine Go.ariu8 ?_ ?_ ?_); (· exact aBnd); (· exact aBnd))
    | (with_reducible refine Go.ari0 ?_)
    | (apply Go.elem; (· exact aElem))
    | (apply Go.row; (· exact aRow))
    | (apply Go.gives; (· exact aGives))
    | (apply Go.gives; (· exact aRes))
    | (with_reducible refine Go.unroll ?_)
    | (with_reducible refine Go.drawn ?_)
    | (refine Go.gt rfl ?_)
    | (refine Go.gf rfl ?_)
    | (with_reducible refine Go.join ?_)
    | (refine Go.lt' rfl ?_)
    | (refine Go.lf' rfl ?_)
    | ((with_reducible refine Go.bool ?_ ?_) <;> intro hc <;> (try simp only [List.length_map, ne_eq, hcs] at hc) <;> try (exfalso; omega))
    | ((with_reducible refine Res.eq ?_ ?_); (· exact aFit)))
  refine Go.callN (((clone_prints_mk (es := s.prints.map PrintS.av) (by rw [List.length_map]; omega)).freshN (fun i hi => by rw [getD_av _ _ _ _ (by simpa using hi)]; trivial) rfl (by simp [fitL, fitA, fitL_map]))) ?_
  rintro _ _ _ ⟨rfl, rfl, rfl⟩
  repeat' (first
    | ((with_reducible refine Go.red ?_); conv => whnf)
    | (with_reducible refine Go.and ?_ ?_)
    | (with_reducible exact True.intro)
    | (with_reducible refine Go.far ?_)
    | ((with_reducible refine Apt.mk ?_); (try dsimp only); omega)
    | ((with_reducible refine Ask.mk ?_); first | exact aAsk | exact aAsk2)
    | ((with_reducible refine Go.ari64 ?_ ?_ ?_); (· exact aBnd); (· exact aBnd))
    | ((with_reducible refine Go.ariu8 ?_ ?_ ?_); (· exact aBnd); (· exact aBnd))
    | (with_reducible refine Go.ari0 ?_)
    | (apply Go.elem; (· exact aElem))
    | (apply Go.row; (· exact aRow))
    | (apply Go.gives; (· exact aGives))
    | (apply Go.gives; (· exact aRes))
    | (with_reducible refine Go.unroll ?_)
    | (with_reducible refine Go.drawn ?_)
    | (refine Go.gt rfl ?_)
    | (refine Go.gf rfl ?_)
    | (with_reducible refine Go.join ?_)
    | (refine Go.lt' rfl ?_)
    | (refine Go.lf' rfl ?_)
    | ((with_reducible refine Go.bool ?_ ?_) <;> intro hc <;> (try simp only [List.length_map, ne_eq, hcs] at hc) <;> try (exfalso; omega))
    | ((with_reducible refine Res.eq ?_ ?_); (· exact aFit)))
  exact ⟨⟨_, _, rfl, aRow⟩⟩
theorem prints_rows {o : Obj} {s : Mach} {L : Lay} {H : Hp} {nx : Nat} (h : MAt o s L H nx) (hp : s.prints.length * 16 ≤ 140737488355328) : CallN Try.prog 27 [.pt L.m 1 0 0] H nx (fun r H' n => r = .sl nx (s.prints.map PrintS.av).length ∧ H' = (nx, some (.row 75 2 .any (s.prints.map PrintS.av))) :: H ∧ n = nx + 1) :=
  (prints_mk2 o s hp).freshN (fun i hi => by rw [getD_av _ _ _ _ (by simpa using hi)]; trivial) (by rw [List.map_cons, List.map_nil, h.frz]) (by simp [fitL, fit_frozen])
theorem view_none {o : Obj} {s : Mach} {L : Lay} {H : Hp} {nx : Nat} (h : MAt o s L H nx) (k : Int) (hk : out s k) : CallN Try.prog 20 [.pt L.m 1 0 0, i64 k] H nx (Kept H nx (.tup [zcore, i64 180])) := by
  refine Go.fn Try.func20 nm20 low20 res20 nt20 rfl ?_
  have he : hasE s k = 180 := by rw [hasE, if_pos hk]
  repeat' (first
    | ((with_reducible refine Go.red ?_); conv => whnf)
    | (with_reducible refine Go.and ?_ ?_)
    | (with_reducible exact True.intro)
    | (with_reducible refine Go.far ?_)
    | ((with_reducible refine Apt.mk ?_); (try dsimp only); omega)
    | ((with_reducible refine Ask.mk ?_); first | exact aAsk | exact aAsk2)
    | ((with_reducible refine Go.ari64 ?_ ?_ ?_); (· exact aBnd); (· exact aBnd))
    | ((with_reducible refine Go.ariu8 ?_ ?_ ?_); (· exact aBnd); (· exact aBnd))
    | (with_reducible refine Go.ari0 ?_)
    | (apply Go.elem; (· exact aElem))
    | (apply Go.row; (· exact aRow))
    | (apply Go.gives; (· exact aGives))
    | (apply Go.gives; (· exact aRes))
    | (with_reducible refine Go.unroll ?_)
    | (with_reducible refine Go.drawn ?_)
    | ((refine Go.lookW (he ▸ has_call (h.keep aKeep aNx) k) ?_ ?_); (· exact True.intro))
    | ((refine Go.lookJ (fun _ => he ▸ has_call (h.keep aKeep aNx) k) ?_ ?_); (· exact True.intro))
    | (refine Go.gt rfl ?_)
    | (refine Go.gf rfl ?_)
    | (with_reducible refine Go.join ?_)
    | (refine Go.lt' rfl ?_)
    | (refine Go.lf' rfl ?_)
    | ((with_reducible refine Go.bool ?_ ?_) <;> intro hc <;> (try simp only [List.length_map, ne_eq, hcs] at hc) <;> try (exfalso; omega))
    | ((with_reducible refine Res.eq ?_ ?_); (· exact aFit)))
  exact ⟨⟨rfl, aNx, aKeep⟩⟩
end Go.Proofs.Ytliabecchkolgaa
