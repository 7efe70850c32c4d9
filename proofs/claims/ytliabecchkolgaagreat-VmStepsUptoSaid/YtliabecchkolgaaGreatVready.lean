/- What is ready, and how a machine stands: by the program and by the document. -/
import Derived.Test.YtliabecchkolgaaGreatWc
namespace Go.Proofs.YtliabecchkolgaaGreat
open Go Go.Abs Go.Proofs
set_option linter.unusedSimpArgs false
set_option linter.unusedVariables false
def listAv (l : List StepV) : AV := if l = [] then .sc (.slice none 0 0) else .im 2 .any (l.map StepV.av)
@[simp] theorem fit_frozenS (n : Nat) (o : Obj) (s : Mach) : fitA n (s.frozen o) := by simp [Mach.frozen, fitA, fitL, fitL_map, CoreS.cells]
@[simp] theorem fit_zcore (n : Nat) : fitA n zcore := by simp [zcore, fitA, fitL, CoreS.cells]
@[simp] theorem fit_listAv (n : Nat) (l : List StepV) : fitA n (listAv l) := by
  unfold listAv
  split <;> simp [fitA, fitL, fitL_map]
theorem next_fr {o : Obj} {s : Mach} (g : Good o s) (q : Nat) (hq : q < s.cores.length) : Pure Tryz.prog 36 [s.frozen o, i64 q, .sc (.pointer none)] (fun r => r = .agg [s.frozen o, .ip 19 .any (s.cores.map CoreS.frozen) q 0, u8 (instrAt o s q).kind, u8 (instrAt o s q).op, i64 (instrAt o s q).d, i64 (instrAt o s q).a, i64 (instrAt o s q).b, i64 (instrAt o s q).addr, i64 (instrAt o s q).to, i64 (instrAt o s q).word, i64 (instrAt o s q).fr, .sc (.pointer none)]) := by
  refine Go.pure Tryz.func36 nm36 low36 res36 nt36 rfl ?_
  have hqo : q < o.cores.length := by rw [← g.n]; exact hq
  have hpc := g.pc q hq
  have hpc2 : (s.core q).pc.toNat < (o.core q).code.length := by omega
  have hpc3 : 0 ≤ (s.core q).pc := hpc.1
  repeat' (first
    | ((with_reducible refine Go.red ?_); conv => whnf)
    | (with_reducible refine Go.and ?_ ?_)
    | (with_reducible exact True.intro)
    | (with_reducible refine Go.far ?_)
    | ((with_reducible refine Apt.mk ?_); (try dsimp only); omega)
    | ((with_reducible refine Ask.mk ?_); first | exact aAsk | exact aAsk2)
    | ((with_reducible refine Go.ari64 ?_ ?_ ?_); (· exact aBnd); (· exact aBnd))
    | ((with_reducible refine Go.ariu8 ?_ ?_ ?_); (· exact aBnd); (· exact aBnd))
    | (with_reducible refine Go.ari0 ?_)
    | (apply Go.elem; (· (first | exact frozen_at hq _ | exact getD_av _ _ _ _ hpc2 | exact aElem)))
    | (apply Go.row; (· exact aRow))
    | (apply Go.gives; (· exact aGives))
    | (apply Go.gives; (· exact aRes))
    | (with_reducible refine Go.unroll ?_)
    | (refine Go.gt rfl ?_)
    | (refine Go.gf rfl ?_)
    | (with_reducible refine Go.join ?_)
    | (refine Go.lt' rfl ?_)
    | (refine Go.lf' rfl ?_)
    | ((with_reducible refine Go.bool ?_ ?_) <;> intro hc <;> (try simp only [List.length_map, ne_eq, hcs] at hc) <;> try (exfalso; omega))
    | ((with_reducible refine Res.eq ?_ ?_); (· exact aFit)))
  show AV.agg (List.map (Abs.frz _ 5) [s.frozen o, .ip 19 .any (s.cores.map CoreS.frozen) q 0, u8 (instrAt o s q).kind, u8 (instrAt o s q).op, i64 (instrAt o s q).d, i64 (instrAt o s q).a, i64 (instrAt o s q).b, i64 (instrAt o s q).addr, i64 (instrAt o s q).to, i64 (instrAt o s q).word, i64 (instrAt o s q).fr, .sc (.pointer none)]) = _
  rw [frz_same 5 (by simp [fitL, fitA, fitL_map, CoreS.cells])]
theorem stalls_fr (o : Obj) (s : Mach) (q : Nat) (hq : q < s.cores.length) (i : Instr) : Pure Tryz.prog 37 [.agg [s.frozen o, .ip 19 .any (s.cores.map CoreS.frozen) q 0, u8 i.kind, u8 i.op, i64 i.d, i64 i.a, i64 i.b, i64 i.addr, i64 i.to, i64 i.word, i64 i.fr, .sc (.pointer none)]] (fun r => r = bl (stallsF o s q i)) := by
  refine Go.pure Tryz.func37 nm37 low37 res37 nt37 rfl ?_
  repeat' (first
    | ((with_reducible refine Go.red ?_); conv => whnf)
    | (with_reducible refine Go.and ?_ ?_)
    | (with_reducible exact True.intro)
    | (with_reducible refine Go.far ?_)
    | ((with_reducible refine Apt.mk ?_); (try dsimp only); omega)
    | ((with_reducible refine Ask.mk ?_); first | exact aAsk | exact aAsk2)
    | ((with_reducible refine Go.ari64 ?_ ?_ ?_); (· exact aBnd); (· exact aBnd))
    | ((with_reducible refine Go.ariu8 ?_ ?_ ?_); (· exact aBnd); (· exact aBnd))
    | (with_reducible refine Go.ari0 ?_)
    | (apply Go.elem; (· (first | exact frozen_at hq _ | exact aElem)))
    | (apply Go.row; (· exact aRow))
    | (apply Go.gives; (· exact aGives))
    | (apply Go.gives; (· exact aRes))
    | (with_reducible refine Go.unroll ?_)
    | (refine Go.gt rfl ?_)
    | (refine Go.gf rfl ?_)
    | (with_reducible refine Go.join ?_)
    | (refine Go.lt' rfl ?_)
    | (refine Go.lf' rfl ?_)
    | ((with_reducible refine Go.bool ?_ ?_) <;> intro hc <;> (try simp only [List.length_map, ne_eq, hcs] at hc) <;> try (exfalso; omega))
    | ((with_reducible refine Res.eq ?_ ?_); (· exact aFit)))
  all_goals simp only [stallsF]
  all_goals (try simp only [List.length_map])
  · rw [if_pos (by assumption)]
  · rw [if_neg (by omega), if_pos (by omega)]
  · rw [if_neg (by omega), if_pos (by omega)]
  · rw [if_neg (by omega), if_pos (by omega)]
  · rw [if_neg (by omega), if_neg (by omega)]
def readyAt (o : Obj) (s : Mach) (q : Nat) : List StepV := (if (s.core q).halted = false ∧ stallsF o s q (instrAt o s q) = false then [⟨1, q⟩] else []) ++ (if 0 < (s.core q).buf.length then [⟨2, q⟩] else [])
def readyN (o : Obj) (s : Mach) (n : Nat) : List StepV := (List.range n).flatMap (readyAt o s)
theorem readyN_next (o : Obj) (s : Mach) (n : Nat) : readyN o s (n + 1) = readyN o s n ++ readyAt o s n := by simp [readyN, List.range_succ]
theorem readyAt_le (o : Obj) (s : Mach) (n : Nat) : (readyAt o s n).length ≤ 2 := by
  simp only [readyAt, List.length_append]
  split <;> split <;> simp
theorem readyN_le (o : Obj) (s : Mach) : ∀ n, (readyN o s n).length ≤ 2 * n
  | 0 => by simp [readyN]
  | n + 1 => by rw [readyN_next, List.length_append]; have := readyN_le o s n; have := readyAt_le o s n; omega
/-- A list that grows from nothing. -/
def Grown (lo : Nat) (l : List StepV) (v : AV) (H : Hp) (n : Nat) : Prop := (l = [] ∧ v = .sc (.slice none 0 0)) ∨ ∃ b, v = .sl b l.length ∧ (lo ≤ b ∧ b < n) ∧ 0 < l.length ∧ ∃ d es, getH H b = some (.row 49 2 d es) ∧ es = l.map StepV.av
theorem app_le2 {l m : List AV} {n k : Nat} (hl : l.length = 1) (hm : m.length = 1) (h : (n + 2) * k ≤ 140737488355328) : (n + l.length + m.length) * k ≤ maxB := by rw [hl, hm]; exact h
theorem Grown.mk {l : List StepV} {lo b n len : Nat} {H : Hp} {d : AV} {es : List AV} (hlen : l.length = len) (h0 : lo ≤ b) (hb : b < n) (hp : 0 < len) (r : getH H b = some (.row 49 2 d es)) (he : es = l.map StepV.av) : Grown lo l (.sl b len) H n := by
  subst hlen; exact .inr ⟨b, rfl, ⟨h0, hb⟩, hp, d, es, r, he⟩
theorem ra_both {o : Obj} {s : Mach} {q : Nat} (h1 : (s.core q).halted = false ∧ stallsF o s q (instrAt o s q) = false) (h2 : (0 : Int) < (s.core q).buf.length) : readyAt o s q = [⟨1, q⟩, ⟨2, q⟩] := by
  rw [readyAt, if_pos h1, if_pos (by omega)]; rfl
theorem ra_run {o : Obj} {s : Mach} {q : Nat} (h1 : (s.core q).halted = false ∧ stallsF o s q (instrAt o s q) = false) (h2 : ((s.core q).buf.length : Int) ≤ 0) : readyAt o s q = [⟨1, q⟩] := by
  rw [readyAt, if_pos h1, if_neg (by omega)]; rfl
theorem ra_drain {o : Obj} {s : Mach} {q : Nat} (h1 : ¬(s.core q).halted = false ∨ stallsF o s q (instrAt o s q) = true) (h2 : (0 : Int) < (s.core q).buf.length) : readyAt o s q = [⟨2, q⟩] := by
  rw [readyAt, if_neg (by rcases h1 with h | h <;> simp_all), if_pos (by omega)]; rfl
theorem ra_none {o : Obj} {s : Mach} {q : Nat} (h1 : ¬(s.core q).halted = false ∨ stallsF o s q (instrAt o s q) = true) (h2 : ((s.core q).buf.length : Int) ≤ 0) : readyAt o s q = [] := by
  rw [readyAt, if_neg (by rcases h1 with h | h <;> simp_all), if_neg (by omega)]; rfl
theorem unforce1 {x : AV} {R : AV → Prop} (h : R x) : forceD x R := by rw [forceD_eq]; exact h
set_option maxHeartbeats 4000000 in
theorem ready_raw {o : Obj} {s : Mach} (g : Good o s) (hc : s.cores.length ≤ 8) : Pure Tryz.prog 29 [s.frozen o] (fun r => r = listAv (readyN o s s.cores.length)) := by
  refine Go.pure Tryz.func29 nm29 low29 res29 nt29 rfl ?_
  have h1 := cores_pure o s
  simp only [Mach.frozen] at h1 ⊢
  repeat' (first
    | ((with_reducible refine Go.red ?_); conv => whnf)
    | (with_reducible refine Go.and ?_ ?_)
    | (with_reducible exact True.intro)
    | (with_reducible refine Go.far ?_)
    | ((with_reducible refine Apt.mk ?_); (try dsimp only); omega)
    | ((with_reducible refine Ask.mk ?_); first | exact aAsk | exact aAsk2)
    | ((with_reducible refine Go.ari64 ?_ ?_ ?_); (· exact aBnd); (· exact aBnd))
    | ((with_reducible refine Go.ariu8 ?_ ?_ ?_); (· exact aBnd); (· exact aBnd))
    | (with_reducible refine Go.ari0 ?_)
    | (apply Go.elem; (· exact aElem))
    | (apply Go.row; (· exact aRow))
    | (apply Go.gives; (· exact aGives))
    | (apply Go.gives; (· exact aRes))
    | (with_reducible refine Go.unroll ?_)
    | ((with_reducible refine Go.callW (h1) ?_ ?_); (· exact aFit))
    | ((with_reducible refine Go.callJ (fun _ => h1) ?_ ?_); (· exact aFit))
    | ((with_reducible refine Go.callE (h1) ?_ ?_); (· exact aFit))
    | ((with_reducible refine Go.callF (fun _ => h1) ?_ ?_); (· exact aFit))
    | (refine Go.gt rfl ?_)
    | (refine Go.gf rfl ?_)
    | (with_reducible refine Go.join ?_)
    | (refine Go.lt' rfl ?_)
    | (refine Go.lf' rfl ?_)
    | ((with_reducible refine Go.bool ?_ ?_) <;> intro hc <;> (try simp only [List.length_map, ne_eq, hcs] at hc) <;> try (exfalso; omega))
    | ((with_reducible refine Res.eq ?_ ?_); (· exact aFit)))
  refine Go.loop (fun p : Nat × AV => [(0, s.frozen o), (7, i64 s.cores.length), (8, i64 p.1), (3, p.2)]) (fun p H n => p.1 ≤ s.cores.length ∧ Grown 0 (readyN o s p.1) p.2 H n) (fun p => s.cores.length - p.1) (0, .sc (.slice none 0 0)) aLess ⟨Nat.zero_le _, .inl ⟨rfl, rfl⟩⟩ ?_
  rintro ⟨k, v⟩ H n ⟨hk, hv⟩
  simp only at hk hv
  dsimp only
  have hle := readyN_le o s k
  by_cases hkl : k < s.cores.length
  · have h2 := next_fr g k hkl
    have h3 := stalls_fr o s k hkl (instrAt o s k)
    simp only [Mach.frozen] at h2 h3 ⊢
    have hnx := readyN_next o s k
    rcases hv with ⟨hl, rfl⟩ | ⟨b, rfl, hb, hl, d, es, r, hes⟩
    · repeat' (first
          | ((with_reducible refine Go.red ?_); conv => whnf)
          | (with_reducible refine Go.and ?_ ?_)
          | (with_reducible exact True.intro)
          | (with_reducible refine Go.far ?_)
          | ((with_reducible refine Apt.mk ?_); (try dsimp only); omega)
          | ((with_reducible refine Ask.mk ?_); first | exact aAsk | exact aAsk2)
          | ((with_reducible refine Go.ari64 ?_ ?_ ?_); (· exact aBnd); (· exact aBnd))
          | ((with_reducible refine Go.ariu8 ?_ ?_ ?_); (· exact aBnd); (· exact aBnd))
          | (with_reducible refine Go.ari0 ?_)
          | (apply Go.elem; (· (first | exact frozen_at hkl _ | exact aElem)))
          | (apply Go.row; (· exact aRow))
          | (apply Go.gives; (· exact aGives))
          | (apply Go.gives; (· exact aRes))
          | (with_reducible refine Go.unroll ?_)
          | ((with_reducible refine Go.callW (h2) ?_ ?_); (· exact aFit))
          | ((with_reducible refine Go.callJ (fun _ => h2) ?_ ?_); (· exact aFit))
          | ((with_reducible refine Go.callE (h2) ?_ ?_); (· exact aFit))
          | ((with_reducible refine Go.callF (fun _ => h2) ?_ ?_); (· exact aFit))
          | ((with_reducible refine Go.callW (h3) ?_ ?_); (· exact aFit))
          | ((with_reducible refine Go.callJ (fun _ => h3) ?_ ?_); (· exact aFit))
          | ((with_reducible refine Go.callE (h3) ?_ ?_); (· exact aFit))
          | ((with_reducible refine Go.callF (fun _ => h3) ?_ ?_); (· exact aFit))
          | (refine Go.gt rfl ?_)
          | (refine Go.gf rfl ?_)
          | (with_reducible refine Go.join ?_)
          | (refine Go.lt' rfl ?_)
          | (refine Go.lf' rfl ?_)
          | ((with_reducible refine Go.bool ?_ ?_) <;> intro hc <;> (try simp only [List.length_map, ne_eq, hcs] at hc) <;> try (exfalso; omega))
          | ((with_reducible refine Res.eq ?_ ?_); (· exact aFit)))
      · have ra := ra_both (o := o) (s := s) (q := k) (by assumption) hc
        exact ⟨(k + 1, .sl (n + 22) 2), by show s.cores.length - (k + 1) < s.cores.length - k; omega, aLess, by show k + 1 ≤ s.cores.length; omega, Grown.mk (by rw [hnx, ra, hl]; rfl) aNx aNx (by omega) aRow (by rw [hnx, ra, hl]; rfl)⟩
      · have ra := ra_run (o := o) (s := s) (q := k) (by assumption) hc
        exact ⟨(k + 1, .sl (n + 22) 1), by show s.cores.length - (k + 1) < s.cores.length - k; omega, aLess, by show k + 1 ≤ s.cores.length; omega, Grown.mk (by rw [hnx, ra, hl]; rfl) aNx aNx (by omega) aRow (by rw [hnx, ra, hl]; rfl)⟩
      · have ra := ra_drain (o := o) (s := s) (q := k) (by assumption) hc
        exact ⟨(k + 1, .sl (n + 29) 1), by show s.cores.length - (k + 1) < s.cores.length - k; omega, aLess, by show k + 1 ≤ s.cores.length; omega, Grown.mk (by rw [hnx, ra, hl]; rfl) aNx aNx (by omega) aRow (by rw [hnx, ra, hl]; rfl)⟩
      · have ra := ra_none (o := o) (s := s) (q := k) (by assumption) hc
        exact ⟨(k + 1, .sc (.slice none 0 0)), by show s.cores.length - (k + 1) < s.cores.length - k; omega, aLess, by show k + 1 ≤ s.cores.length; omega, .inl ⟨by rw [hnx, ra, hl]; rfl, rfl⟩⟩
    · have hesl : es.length = (readyN o s k).length := by rw [hes]; simp
      repeat' (first
          | ((with_reducible refine Go.red ?_); conv => whnf)
          | (with_reducible refine Go.and ?_ ?_)
          | (with_reducible exact True.intro)
          | (with_reducible refine Go.far ?_)
          | ((with_reducible refine Apt.mk ?_); (try dsimp only); omega)
          | ((with_reducible refine Ask.mk ?_); first | exact aAsk | exact aAsk2)
          | ((with_reducible refine Go.ari64 ?_ ?_ ?_); (· exact aBnd); (· exact aBnd))
          | ((with_reducible refine Go.ariu8 ?_ ?_ ?_); (· exact aBnd); (· exact aBnd))
          | (with_reducible refine Go.ari0 ?_)
          | (apply Go.elem; (· (first | exact frozen_at hkl _ | exact aElem)))
          | (apply Go.row; (· exact aRow))
          | (apply Go.gives; (· exact aGives))
          | (apply Go.gives; (· exact aRes))
          | (with_reducible refine Go.unroll ?_)
          | ((with_reducible refine Go.callW (h2) ?_ ?_); (· exact aFit))
          | ((with_reducible refine Go.callJ (fun _ => h2) ?_ ?_); (· exact aFit))
          | ((with_reducible refine Go.callE (h2) ?_ ?_); (· exact aFit))
          | ((with_reducible refine Go.callF (fun _ => h2) ?_ ?_); (· exact aFit))
          | ((with_reducible refine Go.callW (h3) ?_ ?_); (· exact aFit))
          | ((with_reducible refine Go.callJ (fun _ => h3) ?_ ?_); (· exact aFit))
          | ((with_reducible refine Go.callE (h3) ?_ ?_); (· exact aFit))
          | ((with_reducible refine Go.callF (fun _ => h3) ?_ ?_); (· exact aFit))
          | (refine Go.gt rfl ?_)
          | (refine Go.gf rfl ?_)
          | (with_reducible refine Go.join ?_)
          | (refine Go.lt' rfl ?_)
          | (refine Go.lf' rfl ?_)
          | ((with_reducible refine Go.bool ?_ ?_) <;> intro hc <;> (try simp only [List.length_map, ne_eq, hcs] at hc) <;> try (exfalso; omega))
          | ((with_reducible refine Res.eq ?_ ?_); (· exact aFit)))
      · exact ⟨app_le2 rfl rfl (by omega)⟩
      · have ra := ra_both (o := o) (s := s) (q := k) (by assumption) hc
        exact ⟨(k + 1, .sl b ((readyN o s k).length + 2)), by show s.cores.length - (k + 1) < s.cores.length - k; omega, aLess, by show k + 1 ≤ s.cores.length; omega, Grown.mk (by rw [hnx, ra, List.length_append]; rfl) hb.1 (Nat.lt_of_lt_of_le hb.2 aNx) (by omega) aRow (by rw [hnx, ra, List.map_append, ← hes]; exact List.append_assoc _ [_] [_])⟩
      · have ra := ra_run (o := o) (s := s) (q := k) (by assumption) hc
        exact ⟨(k + 1, .sl b ((readyN o s k).length + 1)), by show s.cores.length - (k + 1) < s.cores.length - k; omega, aLess, by show k + 1 ≤ s.cores.length; omega, Grown.mk (by rw [hnx, ra, List.length_append]; rfl) hb.1 (Nat.lt_of_lt_of_le hb.2 aNx) (by omega) aRow (by rw [hnx, ra, List.map_append, ← hes]; exact rfl)⟩
      · have ra := ra_drain (o := o) (s := s) (q := k) (by assumption) hc
        exact ⟨(k + 1, .sl b ((readyN o s k).length + 1)), by show s.cores.length - (k + 1) < s.cores.length - k; omega, aLess, by show k + 1 ≤ s.cores.length; omega, Grown.mk (by rw [hnx, ra, List.length_append]; rfl) hb.1 (Nat.lt_of_lt_of_le hb.2 aNx) (by omega) aRow (by rw [hnx, ra, List.map_append, ← hes]; exact rfl)⟩
      · have ra := ra_none (o := o) (s := s) (q := k) (by assumption) hc
        exact ⟨(k + 1, .sl b (readyN o s k).length), by show s.cores.length - (k + 1) < s.cores.length - k; omega, aLess, by show k + 1 ≤ s.cores.length; omega, Grown.mk (by rw [hnx, ra, List.append_nil]) hb.1 (Nat.lt_of_lt_of_le hb.2 aNx) hl aRow (by rw [hnx, ra, List.append_nil]; exact hes)⟩
  · have hkn : k = s.cores.length := by omega
    subst hkn
    simp only [Mach.frozen]
    rcases hv with ⟨hl, rfl⟩ | ⟨b, rfl, hb, hl, d, es, r, hes⟩
    · repeat' (first
          | ((with_reducible refine Go.red ?_); conv => whnf)
          | (with_reducible refine Go.and ?_ ?_)
          | (with_reducible exact True.intro)
          | (with_reducible refine Go.far ?_)
          | ((with_reducible refine Apt.mk ?_); (try dsimp only); omega)
          | ((with_reducible refine Ask.mk ?_); first | exact aAsk | exact aAsk2)
          | ((with_reducible refine Go.ari64 ?_ ?_ ?_); (· exact aBnd); (· exact aBnd))
          | ((with_reducible refine Go.ariu8 ?_ ?_ ?_); (· exact aBnd); (· exact aBnd))
          | (with_reducible refine Go.ari0 ?_)
          | (apply Go.elem; (· exact aElem))
          | (apply Go.row; (· exact aRow))
          | (apply Go.gives; (· exact aGives))
          | (apply Go.gives; (· exact aRes))
          | (with_reducible refine Go.unroll ?_)
          | (refine Go.gt rfl ?_)
          | (refine Go.gf rfl ?_)
          | (with_reducible refine Go.join ?_)
          | (refine Go.lt' rfl ?_)
          | (refine Go.lf' rfl ?_)
          | ((with_reducible refine Go.bool ?_ ?_) <;> intro hc <;> (try simp only [List.length_map, ne_eq, hcs] at hc) <;> try (exfalso; omega))
          | ((with_reducible refine Res.eq ?_ ?_); (· exact aFit)))
      rw [hl]; rfl
    · repeat' (first
          | ((with_reducible refine Go.red ?_); conv => whnf)
          | (with_reducible refine Go.and ?_ ?_)
          | (with_reducible exact True.intro)
          | (with_reducible refine Go.far ?_)
          | ((with_reducible refine Apt.mk ?_); (try dsimp only); omega)
          | ((with_reducible refine Ask.mk ?_); first | exact aAsk | exact aAsk2)
          | ((with_reducible refine Go.ari64 ?_ ?_ ?_); (· exact aBnd); (· exact aBnd))
          | ((with_reducible refine Go.ariu8 ?_ ?_ ?_); (· exact aBnd); (· exact aBnd))
          | (with_reducible refine Go.ari0 ?_)
          | (apply Go.elem; (· exact aElem))
          | (apply Go.row; (· exact aRow))
          | (apply Go.gives; (· exact aGives))
          | (apply Go.gives; (· exact aRes))
          | (with_reducible refine Go.unroll ?_)
          | (refine Go.gt rfl ?_)
          | (refine Go.gf rfl ?_)
          | (with_reducible refine Go.join ?_)
          | (refine Go.lt' rfl ?_)
          | (refine Go.lf' rfl ?_)
          | ((with_reducible refine Go.bool ?_ ?_) <;> intro hc <;> (try simp only [List.length_map, ne_eq, hcs] at hc) <;> try (exfalso; omega))
          | ((with_reducible refine Res.eq ?_ ?_); (· exact aFit)))
      have hesl : es.length = (readyN o s s.cores.length).length := by rw [hes]; simp
      have e : Abs.frz H 6 (.sl b (readyN o s s.cores.length).length) = listAv (readyN o s s.cores.length) := by
        rw [frz_sl r hesl, hes, frz_same 5 (by simp [fitL_map, fitA, fitL]), listAv, if_neg (fun h => by rw [h] at hl; exact absurd hl (by simp))]
      refine unforce1 (x := Abs.frz H 6 (.sl b (readyN o s s.cores.length).length)) (R := Res _) ?_
      rw [e]
      exact Res.eq (by simp) rfl
theorem rready_raw {o : Obj} {s : Mach} (g : Good o s) (ok : ObjOk o) (hc : s.cores.length ≤ 8) : Pure Tryz.prog 30 [stAv o s] (fun r => r = listAv (readyN o s s.cores.length)) := by
  refine Go.pure Tryz.func30 nm30 low30 res30 nt30 rfl ?_
  repeat' (first
    | ((with_reducible refine Go.red ?_); conv => whnf)
    | (with_reducible refine Go.and ?_ ?_)
    | (with_reducible exact True.intro)
    | (with_reducible refine Go.far ?_)
    | ((with_reducible refine Apt.mk ?_); (try dsimp only); omega)
    | ((with_reducible refine Ask.mk ?_); first | exact aAsk | exact aAsk2)
    | ((with_reducible refine Go.ari64 ?_ ?_ ?_); (· exact aBnd); (· exact aBnd))
    | ((with_reducible refine Go.ariu8 ?_ ?_ ?_); (· exact aBnd); (· exact aBnd))
    | (with_reducible refine Go.ari0 ?_)
    | (apply Go.elem; (· exact aElem))
    | (apply Go.row; (· exact aRow))
    | (apply Go.gives; (· exact aGives))
    | (apply Go.gives; (· exact aRes))
    | (with_reducible refine Go.unroll ?_)
    | (refine Go.gt rfl ?_)
    | (refine Go.gf rfl ?_)
    | (with_reducible refine Go.join ?_)
    | (refine Go.lt' rfl ?_)
    | (refine Go.lf' rfl ?_)
    | ((with_reducible refine Go.bool ?_ ?_) <;> intro hc <;> (try simp only [List.length_map, ne_eq, hcs] at hc) <;> try (exfalso; omega))
    | ((with_reducible refine Res.eq ?_ ?_); (· exact aFit)))
  refine Go.loop (fun p : Nat × AV => [(1, .pt 0 1 0 0), (4, i64 p.1), (3, p.2)]) (fun p H n => p.1 ≤ s.cores.length ∧ 1 ≤ n ∧ getH H 0 = some (.row 39 8 .any [stAv o s]) ∧ Grown 1 (readyN o s p.1) p.2 H n) (fun p => s.cores.length - p.1) (0, .sc (.slice none 0 0)) aLess ⟨Nat.zero_le _, aNx, aRow, .inl ⟨rfl, rfl⟩⟩ ?_
  rintro ⟨k, v⟩ H n ⟨hk, h1n, hr0, hv⟩
  simp only at hk hv
  dsimp only
  have hle := readyN_le o s k
  by_cases hkl : k < s.cores.length
  · have h2 := waits_pure g ok k hkl
    have hnx := readyN_next o s k
    rcases hv with ⟨hl, rfl⟩ | ⟨b, rfl, hb, hl, d, es, r, hes⟩
    · repeat' (first
          | ((with_reducible refine Go.red ?_); conv => whnf)
          | (with_reducible refine Go.and ?_ ?_)
          | (with_reducible exact True.intro)
          | (with_reducible refine Go.far ?_)
          | ((with_reducible refine Apt.mk ?_); (try dsimp only); omega)
          | ((with_reducible refine Ask.mk ?_); first | exact aAsk | exact aAsk2)
          | ((with_reducible refine Go.ari64 ?_ ?_ ?_); (· exact aBnd); (· exact aBnd))
          | ((with_reducible refine Go.ariu8 ?_ ?_ ?_); (· exact aBnd); (· exact aBnd))
          | (with_reducible refine Go.ari0 ?_)
          | (apply Go.elem; (· (first | exact frozen_at hkl _ | exact aElem)))
          | (apply Go.row; (· exact aRow))
          | (apply Go.gives; (· exact aGives))
          | (apply Go.gives; (· exact aRes))
          | (with_reducible refine Go.unroll ?_)
          | ((with_reducible refine Go.callW (h2) ?_ ?_); (· exact aFit))
          | ((with_reducible refine Go.callJ (fun _ => h2) ?_ ?_); (· exact aFit))
          | ((with_reducible refine Go.callE (h2) ?_ ?_); (· exact aFit))
          | ((with_reducible refine Go.callF (fun _ => h2) ?_ ?_); (· exact aFit))
          | (refine Go.gt rfl ?_)
          | (refine Go.gf rfl ?_)
          | (with_reducible refine Go.join ?_)
          | (refine Go.lt' rfl ?_)
          | (refine Go.lf' rfl ?_)
          | ((with_reducible refine Go.bool ?_ ?_) <;> intro hc <;> (try simp only [List.length_map, ne_eq, hcs] at hc) <;> try (exfalso; omega))
          | ((with_reducible refine Res.eq ?_ ?_); (· exact aFit)))
      · have ra := ra_both (o := o) (s := s) (q := k) (by assumption) hc
        exact ⟨(k + 1, .sl (n + 22) 2), by show s.cores.length - (k + 1) < s.cores.length - k; omega, aLess, by show k + 1 ≤ s.cores.length; omega, aNx, aRow, Grown.mk (by rw [hnx, ra, hl]; rfl) aNx aNx (by omega) aRow (by rw [hnx, ra, hl]; rfl)⟩
      · have ra := ra_run (o := o) (s := s) (q := k) (by assumption) hc
        exact ⟨(k + 1, .sl (n + 22) 1), by show s.cores.length - (k + 1) < s.cores.length - k; omega, aLess, by show k + 1 ≤ s.cores.length; omega, aNx, aRow, Grown.mk (by rw [hnx, ra, hl]; rfl) aNx aNx (by omega) aRow (by rw [hnx, ra, hl]; rfl)⟩
      · have ra := ra_drain (o := o) (s := s) (q := k) (by assumption) hc
        exact ⟨(k + 1, .sl (n + 30) 1), by show s.cores.length - (k + 1) < s.cores.length - k; omega, aLess, by show k + 1 ≤ s.cores.length; omega, aNx, aRow, Grown.mk (by rw [hnx, ra, hl]; rfl) aNx aNx (by omega) aRow (by rw [hnx, ra, hl]; rfl)⟩
      · have ra := ra_none (o := o) (s := s) (q := k) (by assumption) hc
        exact ⟨(k + 1, .sc (.slice none 0 0)), by show s.cores.length - (k + 1) < s.cores.length - k; omega, aLess, by show k + 1 ≤ s.cores.length; omega, aNx, aRow, .inl ⟨by rw [hnx, ra, hl]; rfl, rfl⟩⟩
    · have hesl : es.length = (readyN o s k).length := by rw [hes]; simp
      repeat' (first
          | ((with_reducible refine Go.red ?_); conv => whnf)
          | (with_reducible refine Go.and ?_ ?_)
          | (with_reducible exact True.intro)
          | (with_reducible refine Go.far ?_)
          | ((with_reducible refine Apt.mk ?_); (try dsimp only); omega)
          | ((with_reducible refine Ask.mk ?_); first | exact aAsk | exact aAsk2)
          | ((with_reducible refine Go.ari64 ?_ ?_ ?_); (· exact aBnd); (· exact aBnd))
          | ((with_reducible refine Go.ariu8 ?_ ?_ ?_); (· exact aBnd); (· exact aBnd))
          | (with_reducible refine Go.ari0 ?_)
          | (apply Go.elem; (· (first | exact frozen_at hkl _ | exact aElem)))
          | (apply Go.row; (· exact aRow))
          | (apply Go.gives; (· exact aGives))
          | (apply Go.gives; (· exact aRes))
          | (with_reducible refine Go.unroll ?_)
          | ((with_reducible refine Go.callW (h2) ?_ ?_); (· exact aFit))
          | ((with_reducible refine Go.callJ (fun _ => h2) ?_ ?_); (· exact aFit))
          | ((with_reducible refine Go.callE (h2) ?_ ?_); (· exact aFit))
          | ((with_reducible refine Go.callF (fun _ => h2) ?_ ?_); (· exact aFit))
          | (refine Go.gt rfl ?_)
          | (refine Go.gf rfl ?_)
          | (with_reducible refine Go.join ?_)
          | (refine Go.lt' rfl ?_)
          | (refine Go.lf' rfl ?_)
          | ((with_reducible refine Go.bool ?_ ?_) <;> intro hc <;> (try simp only [List.length_map, ne_eq, hcs] at hc) <;> try (exfalso; omega))
          | ((with_reducible refine Res.eq ?_ ?_); (· exact aFit)))
      · exact ⟨app_le2 rfl rfl (by omega)⟩
      · have ra := ra_both (o := o) (s := s) (q := k) (by assumption) hc
        exact ⟨(k + 1, .sl b ((readyN o s k).length + 2)), by show s.cores.length - (k + 1) < s.cores.length - k; omega, aLess, by show k + 1 ≤ s.cores.length; omega, aNx, aRow, Grown.mk (by rw [hnx, ra, List.length_append]; rfl) hb.1 (Nat.lt_of_lt_of_le hb.2 aNx) (by omega) aRow (by rw [hnx, ra, List.map_append, ← hes]; exact List.append_assoc _ [_] [_])⟩
      · have ra := ra_run (o := o) (s := s) (q := k) (by assumption) hc
        exact ⟨(k + 1, .sl b ((readyN o s k).length + 1)), by show s.cores.length - (k + 1) < s.cores.length - k; omega, aLess, by show k + 1 ≤ s.cores.length; omega, aNx, aRow, Grown.mk (by rw [hnx, ra, List.length_append]; rfl) hb.1 (Nat.lt_of_lt_of_le hb.2 aNx) (by omega) aRow (by rw [hnx, ra, List.map_append, ← hes]; exact rfl)⟩
      · have ra := ra_drain (o := o) (s := s) (q := k) (by assumption) hc
        exact ⟨(k + 1, .sl b ((readyN o s k).length + 1)), by show s.cores.length - (k + 1) < s.cores.length - k; omega, aLess, by show k + 1 ≤ s.cores.length; omega, aNx, aRow, Grown.mk (by rw [hnx, ra, List.length_append]; rfl) hb.1 (Nat.lt_of_lt_of_le hb.2 aNx) (by omega) aRow (by rw [hnx, ra, List.map_append, ← hes]; exact rfl)⟩
      · have ra := ra_none (o := o) (s := s) (q := k) (by assumption) hc
        exact ⟨(k + 1, .sl b (readyN o s k).length), by show s.cores.length - (k + 1) < s.cores.length - k; omega, aLess, by show k + 1 ≤ s.cores.length; omega, aNx, aRow, Grown.mk (by rw [hnx, ra, List.append_nil]) hb.1 (Nat.lt_of_lt_of_le hb.2 aNx) hl aRow (by rw [hnx, ra, List.append_nil]; exact hes)⟩
  · have hkn : k = s.cores.length := by omega
    subst hkn
    rcases hv with ⟨hl, rfl⟩ | ⟨b, rfl, hb, hl, d, es, r, hes⟩
    · repeat' (first
          | ((with_reducible refine Go.red ?_); conv => whnf)
          | (with_reducible refine Go.and ?_ ?_)
          | (with_reducible exact True.intro)
          | (with_reducible refine Go.far ?_)
          | ((with_reducible refine Apt.mk ?_); (try dsimp only); omega)
          | ((with_reducible refine Ask.mk ?_); first | exact aAsk | exact aAsk2)
          | ((with_reducible refine Go.ari64 ?_ ?_ ?_); (· exact aBnd); (· exact aBnd))
          | ((with_reducible refine Go.ariu8 ?_ ?_ ?_); (· exact aBnd); (· exact aBnd))
          | (with_reducible refine Go.ari0 ?_)
          | (apply Go.elem; (· exact aElem))
          | (apply Go.row; (· exact aRow))
          | (apply Go.gives; (· exact aGives))
          | (apply Go.gives; (· exact aRes))
          | (with_reducible refine Go.unroll ?_)
          | (refine Go.gt rfl ?_)
          | (refine Go.gf rfl ?_)
          | (with_reducible refine Go.join ?_)
          | (refine Go.lt' rfl ?_)
          | (refine Go.lf' rfl ?_)
          | ((with_reducible refine Go.bool ?_ ?_) <;> intro hc <;> (try simp only [List.length_map, ne_eq, hcs] at hc) <;> try (exfalso; omega))
          | ((with_reducible refine Res.eq ?_ ?_); (· exact aFit)))
      rw [hl]; rfl
    · repeat' (first
          | ((with_reducible refine Go.red ?_); conv => whnf)
          | (with_reducible refine Go.and ?_ ?_)
          | (with_reducible exact True.intro)
          | (with_reducible refine Go.far ?_)
          | ((with_reducible refine Apt.mk ?_); (try dsimp only); omega)
          | ((with_reducible refine Ask.mk ?_); first | exact aAsk | exact aAsk2)
          | ((with_reducible refine Go.ari64 ?_ ?_ ?_); (· exact aBnd); (· exact aBnd))
          | ((with_reducible refine Go.ariu8 ?_ ?_ ?_); (· exact aBnd); (· exact aBnd))
          | (with_reducible refine Go.ari0 ?_)
          | (apply Go.elem; (· exact aElem))
          | (apply Go.row; (· exact aRow))
          | (apply Go.gives; (· exact aGives))
          | (apply Go.gives; (· exact aRes))
          | (with_reducible refine Go.unroll ?_)
          | (refine Go.gt rfl ?_)
          | (refine Go.gf rfl ?_)
          | (with_reducible refine Go.join ?_)
          | (refine Go.lt' rfl ?_)
          | (refine Go.lf' rfl ?_)
          | ((with_reducible refine Go.bool ?_ ?_) <;> intro hc <;> (try simp only [List.length_map, ne_eq, hcs] at hc) <;> try (exfalso; omega))
          | ((with_reducible refine Res.eq ?_ ?_); (· exact aFit)))
      have hesl : es.length = (readyN o s s.cores.length).length := by rw [hes]; simp
      have e : Abs.frz H 6 (.sl b (readyN o s s.cores.length).length) = listAv (readyN o s s.cores.length) := by
        rw [frz_sl r hesl, hes, frz_same 5 (by simp [fitL_map, fitA, fitL]), listAv, if_neg (fun h => by rw [h] at hl; exact absurd hl (by simp))]
      refine unforce1 (x := Abs.frz H 6 (.sl b (readyN o s s.cores.length).length)) (R := Res _) ?_
      rw [e]
      exact Res.eq (by simp) rfl
theorem rended_pure (o : Obj) (s : Mach) (hc : s.cores.length ≤ 8) : Pure Tryz.prog 27 [stAv o s] (fun r => r = bl (s.cores.all endedB)) := by
  refine Go.pure Tryz.func27 nm27 low27 res27 nt27 rfl ?_
  repeat' (first
    | ((with_reducible refine Go.red ?_); conv => whnf)
    | (with_reducible refine Go.and ?_ ?_)
    | (with_reducible exact True.intro)
    | (with_reducible refine Go.far ?_)
    | ((with_reducible refine Apt.mk ?_); (try dsimp only); omega)
    | ((with_reducible refine Ask.mk ?_); first | exact aAsk | exact aAsk2)
    | ((with_reducible refine Go.ari64 ?_ ?_ ?_); (· exact aBnd); (· exact aBnd))
    | ((with_reducible refine Go.ariu8 ?_ ?_ ?_); (· exact aBnd); (· exact aBnd))
    | (with_reducible refine Go.ari0 ?_)
    | (apply Go.elem; (· exact aElem))
    | (apply Go.row; (· exact aRow))
    | (apply Go.gives; (· exact aGives))
    | (apply Go.gives; (· exact aRes))
    | (with_reducible refine Go.unroll ?_)
    | (refine Go.gt rfl ?_)
    | (refine Go.gf rfl ?_)
    | (with_reducible refine Go.join ?_)
    | (refine Go.lt' rfl ?_)
    | (refine Go.lf' rfl ?_)
    | ((with_reducible refine Go.bool ?_ ?_) <;> intro hc <;> (try simp only [List.length_map, ne_eq, hcs] at hc) <;> try (exfalso; omega))
    | ((with_reducible refine Res.eq ?_ ?_); (· exact aFit)))
  refine Go.loop (fun i : Nat => [(1, .pt 0 1 0 0), (3, i64 i)]) (fun i H n => i ≤ s.cores.length ∧ 1 ≤ n ∧ getH H 0 = some (.row 39 8 .any [stAv o s]) ∧ ∀ j, j < i → endedB (s.core j) = true) (fun i => s.cores.length - i) 0 aLess ⟨Nat.zero_le _, aNx, aRow, fun j hj => by omega⟩ ?_
  rintro i H n ⟨hi, hn, r0, hall⟩
  by_cases hil : i < s.cores.length
  · repeat' (first
        | ((with_reducible refine Go.red ?_); conv => whnf)
        | (with_reducible refine Go.and ?_ ?_)
        | (with_reducible exact True.intro)
        | (with_reducible refine Go.far ?_)
        | ((with_reducible refine Apt.mk ?_); (try dsimp only); omega)
        | ((with_reducible refine Ask.mk ?_); first | exact aAsk | exact aAsk2)
        | ((with_reducible refine Go.ari64 ?_ ?_ ?_); (· exact aBnd); (· exact aBnd))
        | ((with_reducible refine Go.ariu8 ?_ ?_ ?_); (· exact aBnd); (· exact aBnd))
        | (with_reducible refine Go.ari0 ?_)
        | (apply Go.elem; (· (first | exact frozen_at hil _ | exact aElem)))
        | (apply Go.row; (· exact aRow))
        | (apply Go.gives; (· exact aGives))
        | (apply Go.gives; (· exact aRes))
        | (with_reducible refine Go.unroll ?_)
        | (refine Go.gt rfl ?_)
        | (refine Go.gf rfl ?_)
        | (with_reducible refine Go.join ?_)
        | (refine Go.lt' rfl ?_)
        | (refine Go.lf' rfl ?_)
        | ((with_reducible refine Go.bool ?_ ?_) <;> intro hc <;> (try simp only [List.length_map, ne_eq, hcs] at hc) <;> try (exfalso; omega))
        | ((with_reducible refine Res.eq ?_ ?_); (· exact aFit)))
    · have : s.cores.all endedB = false := all_getD_false default (j := i) hil (by
        show ((s.core i).halted && decide ((s.core i).buf.length = 0)) = false
        rcases hc with h | h
        · rw [h]; rfl
        · rw [decide_eq_false (by omega)]; simp)
      rw [this]
    · refine ⟨i + 1, by omega, aLess, by omega, aNx, aRow, fun j hj => ?_⟩
      by_cases hji : j = i
      · subst hji
        have h1 : (s.core j).halted = true := by simpa using hc.1
        have h2 : (s.core j).buf.length = 0 := by omega
        show ((s.core j).halted && decide ((s.core j).buf.length = 0)) = true
        rw [h1, decide_eq_true h2]; rfl
      · exact hall j (by omega)
  · repeat' (first
        | ((with_reducible refine Go.red ?_); conv => whnf)
        | (with_reducible refine Go.and ?_ ?_)
        | (with_reducible exact True.intro)
        | (with_reducible refine Go.far ?_)
        | ((with_reducible refine Apt.mk ?_); (try dsimp only); omega)
        | ((with_reducible refine Ask.mk ?_); first | exact aAsk | exact aAsk2)
        | ((with_reducible refine Go.ari64 ?_ ?_ ?_); (· exact aBnd); (· exact aBnd))
        | ((with_reducible refine Go.ariu8 ?_ ?_ ?_); (· exact aBnd); (· exact aBnd))
        | (with_reducible refine Go.ari0 ?_)
        | (apply Go.elem; (· exact aElem))
        | (apply Go.row; (· exact aRow))
        | (apply Go.gives; (· exact aGives))
        | (apply Go.gives; (· exact aRes))
        | (with_reducible refine Go.unroll ?_)
        | (refine Go.gt rfl ?_)
        | (refine Go.gf rfl ?_)
        | (with_reducible refine Go.join ?_)
        | (refine Go.lt' rfl ?_)
        | (refine Go.lf' rfl ?_)
        | ((with_reducible refine Go.bool ?_ ?_) <;> intro hc <;> (try simp only [List.length_map, ne_eq, hcs] at hc) <;> try (exfalso; omega))
        | ((with_reducible refine Res.eq ?_ ?_); (· exact aFit)))
    have : s.cores.all endedB = true := all_getD default fun j hj => hall j (by omega)
    rw [this]
theorem steps_refl (l : List StepV) (hl : l.length ≤ 140737488355328) : Pure Tryz.prog 28 [.im 2 .any (l.map StepV.av), .im 2 .any (l.map StepV.av)] (fun r => r = bl true) := by
  refine Go.pure Tryz.func28 nm28 low28 res28 nt28 rfl ?_
  repeat' (first
    | ((with_reducible refine Go.red ?_); conv => whnf)
    | (with_reducible refine Go.and ?_ ?_)
    | (with_reducible exact True.intro)
    | (with_reducible refine Go.far ?_)
    | ((with_reducible refine Apt.mk ?_); (try dsimp only); omega)
    | ((with_reducible refine Ask.mk ?_); first | exact aAsk | exact aAsk2)
    | ((with_reducible refine Go.ari64 ?_ ?_ ?_); (· exact aBnd); (· exact aBnd))
    | ((with_reducible refine Go.ariu8 ?_ ?_ ?_); (· exact aBnd); (· exact aBnd))
    | (with_reducible refine Go.ari0 ?_)
    | (apply Go.elem; (· exact aElem))
    | (apply Go.row; (· exact aRow))
    | (apply Go.gives; (· exact aGives))
    | (apply Go.gives; (· exact aRes))
    | (with_reducible refine Go.unroll ?_)
    | (refine Go.lf' aSimp ?_)
    | (refine Go.gt rfl ?_)
    | (refine Go.gf rfl ?_)
    | (with_reducible refine Go.join ?_)
    | (refine Go.lt' rfl ?_)
    | (refine Go.lf' rfl ?_)
    | ((with_reducible refine Go.bool ?_ ?_) <;> intro hc <;> (try simp only [List.length_map, ne_eq, hcs] at hc) <;> try (exfalso; omega))
    | ((with_reducible refine Res.eq ?_ ?_); (· exact aFit)))
  refine Go.loop (fun i : Nat => [(0, .im 2 .any (l.map StepV.av)), (1, .im 2 .any (l.map StepV.av)), (5, i64 i)]) (fun i H' n => i ≤ l.length) (fun i => l.length - i) 0 aLess (Nat.zero_le _) ?_
  rintro i H' n hi
  repeat' (first
      | ((with_reducible refine Go.red ?_); conv => whnf)
      | (with_reducible refine Go.and ?_ ?_)
      | (with_reducible exact True.intro)
      | (with_reducible refine Go.far ?_)
      | ((with_reducible refine Apt.mk ?_); (try dsimp only); omega)
      | ((with_reducible refine Ask.mk ?_); first | exact aAsk | exact aAsk2)
      | ((with_reducible refine Go.ari64 ?_ ?_ ?_); (· exact aBnd); (· exact aBnd))
      | ((with_reducible refine Go.ariu8 ?_ ?_ ?_); (· exact aBnd); (· exact aBnd))
      | (with_reducible refine Go.ari0 ?_)
      | (apply Go.elem; (· exact aElem))
      | (apply Go.row; (· exact aRow))
      | (apply Go.gives; (· exact aGives))
      | (apply Go.gives; (· exact aRes))
      | (with_reducible refine Go.unroll ?_)
      | (refine Go.lf' aSimp ?_)
      | (refine Go.gt rfl ?_)
      | (refine Go.gf rfl ?_)
      | (with_reducible refine Go.join ?_)
      | (refine Go.lt' rfl ?_)
      | (refine Go.lf' rfl ?_)
      | ((with_reducible refine Go.bool ?_ ?_) <;> intro hc <;> (try simp only [List.length_map, ne_eq, hcs] at hc) <;> try (exfalso; omega))
      | ((with_reducible refine Res.eq ?_ ?_); (· exact aFit)))
  · exact ⟨i + 1, by omega, aLess, by omega⟩
  · exact rfl
theorem view_out (o : Obj) (s : Mach) : Pure Tryz.prog 31 [s.frozen o, i64 s.cores.length] (fun r => r = .tup [zcore, i64 180]) := by
  refine Go.pure Tryz.func31 nm31 low31 res31 nt31 rfl ?_
  have hk : out s s.cores.length := by unfold out; omega
  have he : hasE s s.cores.length = 180 := by rw [hasE, if_pos hk]
  have h2 := has_fr o s s.cores.length
  rw [he, Mach.frozen] at h2
  repeat' (first
    | ((with_reducible refine Go.red ?_); conv => whnf)
    | (with_reducible refine Go.and ?_ ?_)
    | (with_reducible exact True.intro)
    | (with_reducible refine Go.far ?_)
    | ((with_reducible refine Apt.mk ?_); (try dsimp only); omega)
    | ((with_reducible refine Ask.mk ?_); first | exact aAsk | exact aAsk2)
    | ((with_reducible refine Go.ari64 ?_ ?_ ?_); (· exact aBnd); (· exact aBnd))
    | ((with_reducible refine Go.ariu8 ?_ ?_ ?_); (· exact aBnd); (· exact aBnd))
    | (with_reducible refine Go.ari0 ?_)
    | (apply Go.elem; (· exact aElem))
    | (apply Go.row; (· exact aRow))
    | (apply Go.gives; (· exact aGives))
    | (apply Go.gives; (· exact aRes))
    | (with_reducible refine Go.unroll ?_)
    | ((with_reducible refine Go.callW (h2) ?_ ?_); (· exact aFit))
    | ((with_reducible refine Go.callJ (fun _ => h2) ?_ ?_); (· exact aFit))
    | ((with_reducible refine Go.callE (h2) ?_ ?_); (· exact aFit))
    | ((with_reducible refine Go.callF (fun _ => h2) ?_ ?_); (· exact aFit))
    | (refine Go.gt rfl ?_)
    | (refine Go.gf rfl ?_)
    | (with_reducible refine Go.join ?_)
    | (refine Go.lt' rfl ?_)
    | (refine Go.lf' rfl ?_)
    | ((with_reducible refine Go.bool ?_ ?_) <;> intro hc <;> (try simp only [List.length_map, ne_eq, hcs] at hc) <;> try (exfalso; omega))
    | ((with_reducible refine Res.eq ?_ ?_); (· exact aFit)))
  exact rfl
theorem same_zero : Pure Tryz.prog 32 [zcore, zcore] (fun r => r = bl true) := run_pure2 (by simp [fitA]) (by kernel_rfl)
theorem steps_same (l : List StepV) (hl : l.length ≤ 140737488355328) : Pure Tryz.prog 28 [listAv l, listAv l] (fun r => r = bl true) := by
  unfold listAv
  split
  · exact run_pure2 (by simp [fitA]) (by kernel_rfl)
  · exact steps_refl l hl
set_option maxRecDepth 100000 in
theorem stands_pure {o : Obj} {s : Mach} (g : Good o s) (ok : ObjOk o) (h : Lookable s) : Pure Tryz.prog 10 [s.frozen o, stAv o s] (fun r => r = bl true) := by
  refine Go.pure Tryz.func10 nm10 low10 res10 nt10 rfl ?_
  have hm := h.mem
  have hp := h.prints
  have hc8 := h.cores
  have h1 := cores_pure o s
  have h2 := memory_fr o s hm
  have h3 := prints_fr o s hp
  have h4 := ended_fr o s h.cores
  have h5 := words_refl s.mem (by omega)
  have h6 := prints_refl s.prints (by omega)
  have h7 := rended_pure o s hc8
  have h8 := ready_raw g hc8
  have h9 := rready_raw g ok hc8
  have h10 := steps_same (readyN o s s.cores.length) (by have := readyN_le o s s.cores.length; omega)
  have h11 := view_out o s
  simp only [Mach.frozen] at h1 h2 h3 h4 h8 h11 ⊢
  repeat' (first
    | ((with_reducible refine Go.red ?_); conv => whnf)
    | (with_reducible refine Go.and ?_ ?_)
    | (with_reducible exact True.intro)
    | (with_reducible refine Go.far ?_)
    | ((with_reducible refine Apt.mk ?_); (try dsimp only); omega)
    | ((with_reducible refine Ask.mk ?_); first | exact aAsk | exact aAsk2)
    | ((with_reducible refine Go.ari64 ?_ ?_ ?_); (· exact aBnd); (· exact aBnd))
    | ((with_reducible refine Go.ariu8 ?_ ?_ ?_); (· exact aBnd); (· exact aBnd))
    | (with_reducible refine Go.ari0 ?_)
    | (apply Go.elem; (· exact aElem))
    | (apply Go.row; (· exact aRow))
    | (apply Go.gives; (· exact aGives))
    | (apply Go.gives; (· exact aRes))
    | (with_reducible refine Go.unroll ?_)
    | ((with_reducible refine Go.callW (h1) ?_ ?_); (· exact aFit))
    | ((with_reducible refine Go.callJ (fun _ => h1) ?_ ?_); (· exact aFit))
    | ((with_reducible refine Go.callE (h1) ?_ ?_); (· exact aFit))
    | ((with_reducible refine Go.callF (fun _ => h1) ?_ ?_); (· exact aFit))
    | ((with_reducible refine Go.callW (h2) ?_ ?_); (· exact aFit))
    | ((with_reducible refine Go.callJ (fun _ => h2) ?_ ?_); (· exact aFit))
    | ((with_reducible refine Go.callE (h2) ?_ ?_); (· exact aFit))
    | ((with_reducible refine Go.callF (fun _ => h2) ?_ ?_); (· exact aFit))
    | ((with_reducible refine Go.callW (h3) ?_ ?_); (· exact aFit))
    | ((with_reducible refine Go.callJ (fun _ => h3) ?_ ?_); (· exact aFit))
    | ((with_reducible refine Go.callE (h3) ?_ ?_); (· exact aFit))
    | ((with_reducible refine Go.callF (fun _ => h3) ?_ ?_); (· exact aFit))
    | ((with_reducible refine Go.callW (h4) ?_ ?_); (· exact aFit))
    | ((with_reducible refine Go.callJ (fun _ => h4) ?_ ?_); (· exact aFit))
    | ((with_reducible refine Go.callE (h4) ?_ ?_); (· exact aFit))
    | ((with_reducible refine Go.callF (fun _ => h4) ?_ ?_); (· exact aFit))
    | ((with_reducible refine Go.callW (h5) ?_ ?_); (· exact aFit))
    | ((with_reducible refine Go.callJ (fun _ => h5) ?_ ?_); (· exact aFit))
    | ((with_reducible refine Go.callE (h5) ?_ ?_); (· exact aFit))
    | ((with_reducible refine Go.callF (fun _ => h5) ?_ ?_); (· exact aFit))
    | ((with_reducible refine Go.callW (h6) ?_ ?_); (· exact aFit))
    | ((with_reducible refine Go.callJ (fun _ => h6) ?_ ?_); (· exact aFit))
    | ((with_reducible refine Go.callE (h6) ?_ ?_); (· exact aFit))
    | ((with_reducible refine Go.callF (fun _ => h6) ?_ ?_); (· exact aFit))
    | ((with_reducible refine Go.callW (h7) ?_ ?_); (· exact aFit))
    | ((with_reducible refine Go.callJ (fun _ => h7) ?_ ?_); (· exact aFit))
    | ((with_reducible refine Go.callE (h7) ?_ ?_); (· exact aFit))
    | ((with_reducible refine Go.callF (fun _ => h7) ?_ ?_); (· exact aFit))
    | ((with_reducible refine Go.callW (h8) ?_ ?_); (· exact aFit))
    | ((with_reducible refine Go.callJ (fun _ => h8) ?_ ?_); (· exact aFit))
    | ((with_reducible refine Go.callE (h8) ?_ ?_); (· exact aFit))
    | ((with_reducible refine Go.callF (fun _ => h8) ?_ ?_); (· exact aFit))
    | ((with_reducible refine Go.callW (h9) ?_ ?_); (· exact aFit))
    | ((with_reducible refine Go.callJ (fun _ => h9) ?_ ?_); (· exact aFit))
    | ((with_reducible refine Go.callE (h9) ?_ ?_); (· exact aFit))
    | ((with_reducible refine Go.callF (fun _ => h9) ?_ ?_); (· exact aFit))
    | ((with_reducible refine Go.callW (h10) ?_ ?_); (· exact aFit))
    | ((with_reducible refine Go.callJ (fun _ => h10) ?_ ?_); (· exact aFit))
    | ((with_reducible refine Go.callE (h10) ?_ ?_); (· exact aFit))
    | ((with_reducible refine Go.callF (fun _ => h10) ?_ ?_); (· exact aFit))
    | (refine Go.gt aSimp ?_)
    | (refine Go.lf' aSimp ?_)
    | (refine Go.gt rfl ?_)
    | (refine Go.gf rfl ?_)
    | (with_reducible refine Go.join ?_)
    | (refine Go.lt' rfl ?_)
    | (refine Go.lf' rfl ?_)
    | ((with_reducible refine Go.bool ?_ ?_) <;> intro hc <;> (try simp only [List.length_map, ne_eq, hcs] at hc) <;> try (exfalso; omega))
    | ((with_reducible refine Res.eq ?_ ?_); (· exact aFit)))
  refine Go.loop (fun i : Nat => [(0, s.frozen o), (3, .pt 0 1 0 0), (5, i64 i)]) (fun i H n => i ≤ s.cores.length ∧ 1 ≤ n ∧ getH H 0 = some (.row 39 8 .any [stAv o s])) (fun i => s.cores.length - i) 0 aLess ⟨Nat.zero_le _, aNx, aRow⟩ ?_
  rintro i H' n ⟨hi, hn, r0⟩
  simp only [Mach.frozen]
  by_cases hi2 : i < s.cores.length
  · have h7 := view_fr o s i hi2 (h.buf i hi2)
    have h8 := same_refl (s.core i) (h.buf i hi2)
    simp only [Mach.frozen] at h7
    repeat' (first
        | ((with_reducible refine Go.red ?_); conv => whnf)
        | (with_reducible refine Go.and ?_ ?_)
        | (with_reducible exact True.intro)
        | (with_reducible refine Go.far ?_)
        | ((with_reducible refine Apt.mk ?_); (try dsimp only); omega)
        | ((with_reducible refine Ask.mk ?_); first | exact aAsk | exact aAsk2)
        | ((with_reducible refine Go.ari64 ?_ ?_ ?_); (· exact aBnd); (· exact aBnd))
        | ((with_reducible refine Go.ariu8 ?_ ?_ ?_); (· exact aBnd); (· exact aBnd))
        | (with_reducible refine Go.ari0 ?_)
        | (apply Go.elem; (· (first | exact frozen_at hi2 _ | exact aElem)))
        | (apply Go.row; (· exact aRow))
        | (apply Go.gives; (· exact aGives))
        | (apply Go.gives; (· exact aRes))
        | (with_reducible refine Go.unroll ?_)
        | ((with_reducible refine Go.callW (h7) ?_ ?_); (· exact aFit))
        | ((with_reducible refine Go.callJ (fun _ => h7) ?_ ?_); (· exact aFit))
        | ((with_reducible refine Go.callE (h7) ?_ ?_); (· exact aFit))
        | ((with_reducible refine Go.callF (fun _ => h7) ?_ ?_); (· exact aFit))
        | ((with_reducible refine Go.callW (h8) ?_ ?_); (· exact aFit))
        | ((with_reducible refine Go.callJ (fun _ => h8) ?_ ?_); (· exact aFit))
        | ((with_reducible refine Go.callE (h8) ?_ ?_); (· exact aFit))
        | ((with_reducible refine Go.callF (fun _ => h8) ?_ ?_); (· exact aFit))
        | (refine Go.gt aSimp ?_)
        | (refine Go.lf' aSimp ?_)
        | (refine Go.gt rfl ?_)
        | (refine Go.gf rfl ?_)
        | (with_reducible refine Go.join ?_)
        | (refine Go.lt' rfl ?_)
        | (refine Go.lf' rfl ?_)
        | ((with_reducible refine Go.bool ?_ ?_) <;> intro hc <;> (try simp only [List.length_map, ne_eq, hcs] at hc) <;> try (exfalso; omega))
        | ((with_reducible refine Res.eq ?_ ?_); (· exact aFit)))
    · exact ⟨i + 1, by omega, aLess, by omega, aNx, aRow⟩
  · have hil : i = s.cores.length := by omega
    subst hil
    have h14 : Pure Tryz.prog 31 [s.frozen o, i64 ((s.cores.map CoreS.frozen).length : Nat)] (fun r => r = .tup [zcore, i64 180]) := by rw [List.length_map]; exact view_out o s
    simp only [Mach.frozen] at h14
    repeat' (first
        | ((with_reducible refine Go.red ?_); conv => whnf)
        | (with_reducible refine Go.and ?_ ?_)
        | (with_reducible exact True.intro)
        | (with_reducible refine Go.far ?_)
        | ((with_reducible refine Apt.mk ?_); (try dsimp only); omega)
        | ((with_reducible refine Ask.mk ?_); first | exact aAsk | exact aAsk2)
        | ((with_reducible refine Go.ari64 ?_ ?_ ?_); (· exact aBnd); (· exact aBnd))
        | ((with_reducible refine Go.ariu8 ?_ ?_ ?_); (· exact aBnd); (· exact aBnd))
        | (with_reducible refine Go.ari0 ?_)
        | (apply Go.elem; (· exact aElem))
        | (apply Go.row; (· exact aRow))
        | (apply Go.gives; (· exact aGives))
        | (apply Go.gives; (· exact aRes))
        | (with_reducible refine Go.unroll ?_)
        | ((with_reducible refine Go.callW (h14) ?_ ?_); (· exact aFit))
        | ((with_reducible refine Go.callJ (fun _ => h14) ?_ ?_); (· exact aFit))
        | ((with_reducible refine Go.callE (h14) ?_ ?_); (· exact aFit))
        | ((with_reducible refine Go.callF (fun _ => h14) ?_ ?_); (· exact aFit))
        | (refine Go.gt aSimp ?_)
        | (refine Go.lf' aSimp ?_)
        | (refine Go.callW same_zero ?_ ?_; (· simp [fitL]))
        | (refine Go.gt rfl ?_)
        | (refine Go.gf rfl ?_)
        | (with_reducible refine Go.join ?_)
        | (refine Go.lt' rfl ?_)
        | (refine Go.lf' rfl ?_)
        | ((with_reducible refine Go.bool ?_ ?_) <;> intro hc <;> (try simp only [List.length_map, ne_eq, hcs] at hc) <;> try (exfalso; omega))
        | ((with_reducible refine Res.eq ?_ ?_); (· exact aFit)))
    refine Go.callW same_zero ?_ ?_
    · exact (show fitL 0 [zcore, zcore] by simp [fitL])
    repeat' (first
        | ((with_reducible refine Go.red ?_); conv => whnf)
        | (with_reducible refine Go.and ?_ ?_)
        | (with_reducible exact True.intro)
        | (with_reducible refine Go.far ?_)
        | ((with_reducible refine Apt.mk ?_); (try dsimp only); omega)
        | ((with_reducible refine Ask.mk ?_); first | exact aAsk | exact aAsk2)
        | ((with_reducible refine Go.ari64 ?_ ?_ ?_); (· exact aBnd); (· exact aBnd))
        | ((with_reducible refine Go.ariu8 ?_ ?_ ?_); (· exact aBnd); (· exact aBnd))
        | (with_reducible refine Go.ari0 ?_)
        | (apply Go.elem; (· exact aElem))
        | (apply Go.row; (· exact aRow))
        | (apply Go.gives; (· exact aGives))
        | (apply Go.gives; (· exact aRes))
        | (with_reducible refine Go.unroll ?_)
        | (refine Go.gt aSimp ?_)
        | (refine Go.lf' aSimp ?_)
        | (refine Go.gt rfl ?_)
        | (refine Go.gf rfl ?_)
        | (with_reducible refine Go.join ?_)
        | (refine Go.lt' rfl ?_)
        | (refine Go.lf' rfl ?_)
        | ((with_reducible refine Go.bool ?_ ?_) <;> intro hc <;> (try simp only [List.length_map, ne_eq, hcs] at hc) <;> try (exfalso; omega))
        | ((with_reducible refine Res.eq ?_ ?_); (· exact aFit)))
    exact rfl
end Go.Proofs.YtliabecchkolgaaGreat
