/- Right objects. -/
import Derived.Test.YtliabecchkolgaaVb
namespace Go.Proofs.Ytliabecchkolgaa
open Go Go.Abs Go.Proofs
set_option linter.unusedSimpArgs false
theorem same_call (c d : Core) (b : Nat) (H : Hp) (nx : Nat) (e : TypeId) (df : AV) (hb : getH H b = some (.row e 2 df [c.av])) (hlt : b < nx) : Look Try.prog 81 [d.av, .pt b 1 0 0] H nx (bl (d.name == c.name)) := by
  refine Go.lookAt Try.func81 nm81 low81 res81 nt81 rfl ?_
  repeat' (first
    | ((with_reducible refine Go.red ?_); conv => whnf)
    | (with_reducible refine Go.and ?_ ?_)
    | (with_reducible exact True.intro)
    | (with_reducible refine Go.far ?_)
    | ((with_reducible refine Apt.mk ?_); (try dsimp only); omega)
    | ((with_reducible refine Ask.mk ?_); first | exact aAsk | exact aAsk2)
    | ((with_reducible refine Go.ari64 ?_ ?_ ?_); (· exact aBnd); (· exact aBnd))
    | ((with_reducible refine Go.ariu8 ?_ ?_ ?_); (· exact aBnd); (· exact aBnd))
    | (with_reducible refine Go.ari0 ?_)
    | (apply Go.elem; (· exact aElem))
    | (apply Go.row; (· exact aRow))
    | (apply Go.gives; (· exact aGives))
    | (apply Go.gives; (· exact aRes))
    | (with_reducible refine Go.unroll ?_)
    | (refine Go.gt rfl ?_)
    | (refine Go.gf rfl ?_)
    | (with_reducible refine Go.join ?_)
    | (refine Go.lt' rfl ?_)
    | (refine Go.lf' rfl ?_)
    | ((with_reducible refine Go.bool ?_ ?_) <;> intro hc <;> (try simp only [List.length_map, ne_eq, hcs] at hc) <;> try (exfalso; omega))
    | ((with_reducible refine Res.eq ?_ ?_); (· exact aFit)))
  exact ResN.look rfl aKeep
theorem drop_cons {α : Type} [Inhabited α] {l : List α} {i : Nat} (h : i < l.length) : l.drop i = l.getD i default :: l.drop (i + 1) := by
  rw [List.drop_eq_getElem_cons h]
  simp [List.getD, h]
def idxName (name : ByteArray) : List Core → Nat → Int
  | [], _ => -1
  | d :: r, k => if (d.name == name) = true then k else idxName name r (k + 1)
theorem idx_call (c : Core) (l : List Core) (hl : l.length * 40 ≤ 140737488351232) (b : Nat) (H : Hp) (nx : Nat) (e : TypeId) (df : AV) (hb : getH H b = some (.row e 2 df [c.av])) (hlt : b < nx) : Look Try.prog 93 [.im 2 .any (l.map Core.av), .fn (.func 81) [] [.pt b 1 0 0]] H nx (i64 (idxName c.name l 0)) := by
  refine Go.lookAt Try.func93 nm93 low93 res93 nt93 rfl ?_
  repeat' (first
    | ((with_reducible refine Go.red ?_); conv => whnf)
    | (with_reducible refine Go.and ?_ ?_)
    | (with_reducible exact True.intro)
    | (with_reducible refine Go.far ?_)
    | ((with_reducible refine Apt.mk ?_); (try dsimp only); omega)
    | ((with_reducible refine Ask.mk ?_); first | exact aAsk | exact aAsk2)
    | ((with_reducible refine Go.ari64 ?_ ?_ ?_); (· exact aBnd); (· exact aBnd))
    | ((with_reducible refine Go.ariu8 ?_ ?_ ?_); (· exact aBnd); (· exact aBnd))
    | (with_reducible refine Go.ari0 ?_)
    | (apply Go.elem; (· exact aElem))
    | (apply Go.row; (· exact aRow))
    | (apply Go.gives; (· exact aGives))
    | (apply Go.gives; (· exact aRes))
    | (with_reducible refine Go.unroll ?_)
    | (refine Go.gt rfl ?_)
    | (refine Go.gf rfl ?_)
    | (with_reducible refine Go.join ?_)
    | (refine Go.lt' rfl ?_)
    | (refine Go.lf' rfl ?_)
    | ((with_reducible refine Go.bool ?_ ?_) <;> intro hc <;> (try simp only [List.length_map, ne_eq, hcs] at hc) <;> try (exfalso; omega))
    | ((with_reducible refine Res.eq ?_ ?_); (· exact aFit)))
  refine Go.loop (fun i : Nat => [(0, .im 2 .any (l.map Core.av)), (1, .fn (.func 81) [] [.pt b 1 0 0]), (7, i64 l.length), (8, i64 i)]) (fun i H' n => i ≤ l.length ∧ H' = H ∧ nx ≤ n ∧ idxName c.name l 0 = idxName c.name (l.drop i) i) (fun i => l.length - i) 0 aLess ⟨Nat.zero_le _, rfl, by omega, rfl⟩ ?_
  rintro i H' n ⟨hi, rfl, hn, hs⟩
  repeat' (first
    | ((with_reducible refine Go.red ?_); conv => whnf)
    | (with_reducible refine Go.and ?_ ?_)
    | (with_reducible exact True.intro)
    | (with_reducible refine Go.far ?_)
    | ((with_reducible refine Apt.mk ?_); (try dsimp only); omega)
    | ((with_reducible refine Ask.mk ?_); first | exact aAsk | exact aAsk2)
    | ((with_reducible refine Go.ari64 ?_ ?_ ?_); (· exact aBnd); (· exact aBnd))
    | ((with_reducible refine Go.ariu8 ?_ ?_ ?_); (· exact aBnd); (· exact aBnd))
    | (with_reducible refine Go.ari0 ?_)
    | (apply Go.elem; (· exact aElem))
    | (apply Go.row; (· exact aRow))
    | (apply Go.gives; (· exact aGives))
    | (apply Go.gives; (· exact aRes))
    | (with_reducible refine Go.unroll ?_)
    | ((refine Go.lookW (same_call c _ b _ _ e df hb (by omega)) ?_ ?_); (· exact True.intro))
    | ((refine Go.lookJ (fun _ => same_call c _ b _ _ e df hb (by omega)) ?_ ?_); (· exact True.intro))
    | (refine Go.gt rfl ?_)
    | (refine Go.gf rfl ?_)
    | (with_reducible refine Go.join ?_)
    | (refine Go.lt' rfl ?_)
    | (refine Go.lf' rfl ?_)
    | ((with_reducible refine Go.bool ?_ ?_) <;> intro hc <;> (try simp only [List.length_map, ne_eq, hcs] at hc) <;> try (exfalso; omega))
    | ((with_reducible refine Res.eq ?_ ?_); (· exact aFit)))
  · try simp only [Int.toNat_natCast] at hc
    refine ResN.look ?_ aKeep
    rw [hs, drop_cons (by omega), idxName, if_pos hc]
  · try simp only [Int.toNat_natCast] at hc
    refine ⟨i + 1, by omega, aLess, by omega, rfl, by omega, ?_⟩
    rw [hs, drop_cons (by omega), idxName, if_neg (by rw [hc]; simp)]
  · refine ResN.look ?_ aKeep
    rw [hs, List.drop_eq_nil_of_le (by omega), idxName]
theorem idxName_le (name : ByteArray) : ∀ (l : List Core) (k : Nat), -1 ≤ idxName name l k ∧ idxName name l k ≤ k + l.length
  | [], k => by simp only [idxName, List.length_nil]; omega
  | d :: r, k => by
    simp only [idxName, List.length_cons]
    have := idxName_le name r (k + 1)
    split <;> omega
theorem idxName_iff (name : ByteArray) : ∀ (l : List Core) (k : Nat), 0 ≤ idxName name l k ↔ (l.any (fun d => d.name == name)) = true
  | [], k => by simp [idxName]
  | d :: r, k => by
    have ih := idxName_iff name r (k + 1)
    simp only [idxName, List.any_cons, Bool.or_eq_true]
    by_cases h : (d.name == name) = true
    · rw [if_pos h]; exact ⟨fun _ => Or.inl h, fun _ => by omega⟩
    · rw [if_neg h, ih]; exact ⟨Or.inr, fun hh => hh.resolve_left h⟩
theorem idxName_any (name : ByteArray) (l : List Core) (k : Nat) : (decide (0 ≤ idxName name l k)) = l.any (fun d => d.name == name) := by
  rw [Bool.eq_iff_iff, decide_eq_true_eq]
  exact idxName_iff name l k
theorem any_call (c : Core) (l : List Core) (hl : l.length * 40 ≤ 140737488351232) (b : Nat) (H : Hp) (nx : Nat) (e : TypeId) (df : AV) (hb : getH H b = some (.row e 2 df [c.av])) (hlt : b < nx) : Look Try.prog 83 [.im 2 .any (l.map Core.av), .fn (.func 81) [] [.pt b 1 0 0]] H nx (bl (l.any fun d => d.name == c.name)) := by
  refine Go.lookAt Try.func83 nm83 low83 res83 nt83 rfl ?_
  repeat' (first
    | ((with_reducible refine Go.red ?_); conv => whnf)
    | (with_reducible refine Go.and ?_ ?_)
    | (with_reducible exact True.intro)
    | (with_reducible refine Go.far ?_)
    | ((with_reducible refine Apt.mk ?_); (try dsimp only); omega)
    | ((with_reducible refine Ask.mk ?_); first | exact aAsk | exact aAsk2)
    | ((with_reducible refine Go.ari64 ?_ ?_ ?_); (· exact aBnd); (· exact aBnd))
    | ((with_reducible refine Go.ariu8 ?_ ?_ ?_); (· exact aBnd); (· exact aBnd))
    | (with_reducible refine Go.ari0 ?_)
    | (apply Go.elem; (· exact aElem))
    | (apply Go.row; (· exact aRow))
    | (apply Go.gives; (· exact aGives))
    | (apply Go.gives; (· exact aRes))
    | (with_reducible refine Go.unroll ?_)
    | ((refine Go.lookW (idx_call c l hl b _ _ e df hb (by omega)) ?_ ?_); (· exact True.intro))
    | ((refine Go.lookJ (fun _ => idx_call c l hl b _ _ e df hb (by omega)) ?_ ?_); (· exact True.intro))
    | (refine Go.gt rfl ?_)
    | (refine Go.gf rfl ?_)
    | (with_reducible refine Go.join ?_)
    | (refine Go.lt' rfl ?_)
    | (refine Go.lf' rfl ?_)
    | ((with_reducible refine Go.bool ?_ ?_) <;> intro hc <;> (try simp only [List.length_map, ne_eq, hcs] at hc) <;> try (exfalso; omega))
    | ((with_reducible refine Res.eq ?_ ?_); (· exact aFit)))
  refine ResN.look ?_ aKeep
  rw [← idxName_any c.name l 0]
def lastOk (c : Core) : Bool := decide ((c.code.getD ((c.code.length : Int) - 1).toNat default).kind = 10) || decide ((c.code.getD ((c.code.length : Int) - 1).toNat default).kind = 8)
def coreOk (pre : List Core) (c : Core) : Bool := isName c.name && !(pre.any fun d => d.name == c.name) && decide (1 ≤ c.code.length) && decide (c.code.length ≤ 16384) && lastOk c
def coresOk : List Core → List Core → Bool
  | _, [] => true
  | pre, c :: r => coreOk pre c && coresOk (pre ++ [c]) r
def shapedOk (o : Obj) : Bool := decide (0 ≤ o.shared) && decide (o.shared ≤ 64) && decide (0 ≤ o.locks) && decide (o.locks ≤ 16) && decide (o.shared + o.locks ≤ o.mem.length) && decide (o.mem.length ≤ 4096) && decide (1 ≤ o.buffer) && decide (o.buffer ≤ 16) && decide (o.cores.length ≤ 8) && coresOk [] o.cores
theorem coresOk_at {l : List Core} {i : Nat} (h : i < l.length) : coresOk (l.take i) (l.drop i) = (coreOk (l.take i) (l.getD i default) && coresOk (l.take (i + 1)) (l.drop (i + 1))) := by
  rw [drop_cons h, coresOk, List.take_succ_eq_append_getElem h]
  simp [List.getD, h]
theorem Obj.Wf.at {o : Obj} (ho : o.Wf) (i : Nat) : (o.cores.getD i default).Wf := by
  by_cases h : i < o.cores.length
  · have : o.cores.getD i default = o.cores[i] := by simp [List.getD, h]
    rw [this]; exact ho.cores _ (List.getElem_mem h)
  · have : o.cores.getD i default = default := by simp [List.getD, h]
    rw [this]; exact ⟨by decide, (fun _ hi => nomatch hi), by decide⟩
theorem any_pre (c : Core) (l : List Core) (i : Nat) (hl : l.length * 40 ≤ 140737488351232) (b : Nat) (H : Hp) (nx : Nat) (e : TypeId) (df : AV) (hb : getH H b = some (.row e 2 df [c.av])) (hlt : b < nx) : Look Try.prog 83 [.im 2 .any (((l.map Core.av).drop 0).take (((i : Nat) : Int).toNat - 0)), .fn (.func 81) [] [.pt b 1 0 0]] H nx (bl ((l.take i).any fun d => d.name == c.name)) := by
  have h := any_call c (l.take i) (by rw [List.length_take]; omega) b H nx e df hb hlt
  rw [List.map_take] at h
  exact h
theorem shaped_pure (o : Obj) (ho : o.Wf) : Pure Try.prog 71 [o.av] (fun r => r = bl (shapedOk o)) := by
  refine Go.pure Try.func71 nm71 low71 res71 nt71 rfl ?_
  repeat' (first
    | ((with_reducible refine Go.red ?_); conv => whnf)
    | (with_reducible refine Go.and ?_ ?_)
    | (with_reducible exact True.intro)
    | (with_reducible refine Go.far ?_)
    | ((with_reducible refine Apt.mk ?_); (try dsimp only); omega)
    | ((with_reducible refine Ask.mk ?_); first | exact aAsk | exact aAsk2)
    | ((with_reducible refine Go.ari64 ?_ ?_ ?_); (· exact aBnd); (· exact aBnd))
    | ((with_reducible refine Go.ariu8 ?_ ?_ ?_); (· exact aBnd); (· exact aBnd))
    | (with_reducible refine Go.ari0 ?_)
    | (apply Go.elem; (· exact aElem))
    | (apply Go.row; (· exact aRow))
    | (apply Go.gives; (· exact aGives))
    | (apply Go.gives; (· exact aRes))
    | (with_reducible refine Go.unroll ?_)
    | (refine Go.gt rfl ?_)
    | (refine Go.gf rfl ?_)
    | (with_reducible refine Go.join ?_)
    | (refine Go.lt' rfl ?_)
    | (refine Go.lf' rfl ?_)
    | ((with_reducible refine Go.bool ?_ ?_) <;> intro hc <;> (try simp only [List.length_map, ne_eq, hcs] at hc) <;> try (exfalso; omega))
    | ((with_reducible refine Res.eq ?_ ?_); (· exact aFit)))
  · congr 2
    simp only [shapedOk]
    grind
  · refine Go.loop (fun i : Nat => [(1, .pt 0 1 0 0), (60, .im 2 .any (o.cores.map Core.av)), (61, i64 o.cores.length), (62, i64 i)]) (fun i H' n => i ≤ o.cores.length ∧ 1 ≤ n ∧ getH H' 0 = some (.row 25 5 .any [o.av]) ∧ coresOk [] o.cores = coresOk (o.cores.take i) (o.cores.drop i)) (fun i => o.cores.length - i) 0 aLess ⟨Nat.zero_le _, by omega, rfl, rfl⟩ ?_
    rintro i H' n ⟨hi, hn, hr, hs⟩
    repeat' (first
    | ((with_reducible refine Go.red ?_); conv => whnf)
    | (with_reducible refine Go.and ?_ ?_)
    | (with_reducible exact True.intro)
    | (with_reducible refine Go.far ?_)
    | ((with_reducible refine Apt.mk ?_); (try dsimp only); omega)
    | ((with_reducible refine Ask.mk ?_); first | exact aAsk | exact aAsk2)
    | ((with_reducible refine Go.ari64 ?_ ?_ ?_); (· exact aBnd); (· exact aBnd))
    | ((with_reducible refine Go.ariu8 ?_ ?_ ?_); (· exact aBnd); (· exact aBnd))
    | (with_reducible refine Go.ari0 ?_)
    | (apply Go.elem; (· exact aElem))
    | (apply Go.row; (· exact aRow))
    | (apply Go.gives; (· exact aGives))
    | (apply Go.gives; (· exact aRes))
    | (with_reducible refine Go.unroll ?_)
    | ((with_reducible refine Go.callW (name_pure _ (ho.at _).name) ?_ ?_); (· exact aFit))
    | ((with_reducible refine Go.callJ (fun _ => name_pure _ (ho.at _).name) ?_ ?_); (· exact aFit))
    | ((with_reducible refine Go.callE (name_pure _ (ho.at _).name) ?_ ?_); (· exact aFit))
    | ((with_reducible refine Go.callF (fun _ => name_pure _ (ho.at _).name) ?_ ?_); (· exact aFit))
    | ((refine Go.lookW (any_pre _ o.cores i ho.corelen _ _ _ _ _ aRow (by omega)) ?_ ?_); (· exact True.intro))
    | ((refine Go.lookJ (fun _ => any_pre _ o.cores i ho.corelen _ _ _ _ _ aRow (by omega)) ?_ ?_); (· exact True.intro))
    | (refine Go.gt rfl ?_)
    | (refine Go.gf rfl ?_)
    | (with_reducible refine Go.join ?_)
    | (refine Go.lt' rfl ?_)
    | (refine Go.lf' rfl ?_)
    | ((with_reducible refine Go.bool ?_ ?_) <;> intro hc <;> (try simp only [List.length_map, ne_eq, hcs] at hc) <;> try (exfalso; omega))
    | ((with_reducible refine Res.eq ?_ ?_); (· exact aFit)))
    · have hb : shapedOk o = false := by
        have : coreOk (o.cores.take i) (o.cores.getD i default) = false := by
          simp only [coreOk]
          grind
        simp only [shapedOk]
        rw [hs, coresOk_at (by omega), this]
        simp
      rw [hb]
    · have hb : shapedOk o = false := by
        have : coreOk (o.cores.take i) (o.cores.getD i default) = false := by
          simp only [coreOk, lastOk]
          grind
        simp only [shapedOk]
        rw [hs, coresOk_at (by omega), this]
        simp
      rw [hb]
    · have hb : coreOk (o.cores.take i) (o.cores.getD i default) = true := by
        simp only [coreOk, lastOk]
        grind
      refine ⟨i + 1, by omega, aLess, by omega, by omega, aRow, ?_⟩
      rw [hs, coresOk_at (by omega), hb, Bool.true_and]
    · rw [List.drop_eq_nil_of_le (by omega), coresOk] at hs
      have hb : shapedOk o = true := by
        simp only [shapedOk]
        rw [hs]
        grind
      rw [hb]
def bad1 (len mem : Int) : List Instr → Nat → Option Nat
  | [], _ => none
  | i :: r, k => if instrOk i len mem = true then bad1 len mem r (k + 1) else some k
def bad2 (mem : Int) : List Core → Nat → Option (Nat × Nat)
  | [], _ => none
  | c :: r, k => match bad1 c.code.length mem c.code 0 with
    | some n => some (k, n)
    | none => bad2 mem r (k + 1)
def checkAv (o : Obj) : AV := if shapedOk o = true then (match bad2 o.mem.length o.cores 0 with
    | none => .tup [i64 0, i64 0, i64 0]
    | some (k, n) => .tup [i64 160, i64 k, i64 n]) else .tup [i64 160, i64 0, i64 0]
@[simp] theorem fit_check (n : Nat) (o : Obj) : fitA n (checkAv o) := by
  simp only [checkAv]
  split
  · split <;> simp [fitA, fitL]
  · simp [fitA, fitL]
theorem Core.Wf.at {c : Core} (hc : c.Wf) (i : Nat) : (c.code.getD i default).Wf := by
  by_cases h : i < c.code.length
  · have : c.code.getD i default = c.code[i] := by simp [List.getD, h]
    rw [this]; exact hc.code _ (List.getElem_mem h)
  · have : c.code.getD i default = default := by simp [List.getD, h]
    rw [this]
    constructor <;> first | decide | (unfold wf64; decide)
theorem check_pure (o : Obj) (ho : o.Wf) : Pure Try.prog 49 [o.av] (fun r => r = checkAv o) := by
  refine Go.pure Try.func49 nm49 low49 res49 nt49 rfl ?_
  repeat' (first
    | ((with_reducible refine Go.red ?_); conv => whnf)
    | (with_reducible refine Go.and ?_ ?_)
    | (with_reducible exact True.intro)
    | (with_reducible refine Go.far ?_)
    | ((with_reducible refine Apt.mk ?_); (try dsimp only); omega)
    | ((with_reducible refine Ask.mk ?_); first | exact aAsk | exact aAsk2)
    | ((with_reducible refine Go.ari64 ?_ ?_ ?_); (· exact aBnd); (· exact aBnd))
    | ((with_reducible refine Go.ariu8 ?_ ?_ ?_); (· exact aBnd); (· exact aBnd))
    | (with_reducible refine Go.ari0 ?_)
    | (apply Go.elem; (· exact aElem))
    | (apply Go.row; (· exact aRow))
    | (apply Go.gives; (· exact aGives))
    | (apply Go.gives; (· exact aRes))
    | (with_reducible refine Go.unroll ?_)
    | ((with_reducible refine Go.callW (shaped_pure o ho) ?_ ?_); (· exact aFit))
    | ((with_reducible refine Go.callJ (fun _ => shaped_pure o ho) ?_ ?_); (· exact aFit))
    | ((with_reducible refine Go.callE (shaped_pure o ho) ?_ ?_); (· exact aFit))
    | ((with_reducible refine Go.callF (fun _ => shaped_pure o ho) ?_ ?_); (· exact aFit))
    | (refine Go.gt rfl ?_)
    | (refine Go.gf rfl ?_)
    | (with_reducible refine Go.join ?_)
    | (refine Go.lt' rfl ?_)
    | (refine Go.lf' rfl ?_)
    | ((with_reducible refine Go.bool ?_ ?_) <;> intro hc <;> (try simp only [List.length_map, ne_eq, hcs] at hc) <;> try (exfalso; omega))
    | ((with_reducible refine Res.eq ?_ ?_); (· exact aFit)))
  · simp [checkAv, hc]
  · refine Go.loop (fun i : Nat => [(1, .pt 0 1 0 0), (13, .im 2 .any (o.cores.map Core.av)), (14, i64 o.cores.length), (15, i64 i)]) (fun i H' n => i ≤ o.cores.length ∧ 1 ≤ n ∧ getH H' 0 = some (.row 25 5 .any [o.av]) ∧ bad2 o.mem.length o.cores 0 = bad2 o.mem.length (o.cores.drop i) i) (fun i => o.cores.length - i) 0 aLess ⟨Nat.zero_le _, by omega, rfl, rfl⟩ ?_
    rintro i H' n ⟨hi, hn, hr, hs⟩
    have hol := ho.corelen
    repeat' (first
    | ((with_reducible refine Go.red ?_); conv => whnf)
    | (with_reducible refine Go.and ?_ ?_)
    | (with_reducible exact True.intro)
    | (with_reducible refine Go.far ?_)
    | ((with_reducible refine Apt.mk ?_); (try dsimp only); omega)
    | ((with_reducible refine Ask.mk ?_); first | exact aAsk | exact aAsk2)
    | ((with_reducible refine Go.ari64 ?_ ?_ ?_); (· exact aBnd); (· exact aBnd))
    | ((with_reducible refine Go.ariu8 ?_ ?_ ?_); (· exact aBnd); (· exact aBnd))
    | (with_reducible refine Go.ari0 ?_)
    | (apply Go.elem; (· exact aElem))
    | (apply Go.row; (· exact aRow))
    | (apply Go.gives; (· exact aGives))
    | (apply Go.gives; (· exact aRes))
    | (with_reducible refine Go.unroll ?_)
    | (refine Go.gt rfl ?_)
    | (refine Go.gf rfl ?_)
    | (with_reducible refine Go.join ?_)
    | (refine Go.lt' rfl ?_)
    | (refine Go.lf' rfl ?_)
    | ((with_reducible refine Go.bool ?_ ?_) <;> intro hc <;> (try simp only [List.length_map, ne_eq, hcs] at hc) <;> try (exfalso; omega))
    | ((with_reducible refine Res.eq ?_ ?_); (· exact aFit)))
    · refine Go.loop (fun k : Nat => [(1, .pt 0 1 0 0), (5, i64 i), (6, .pt (n+1+1+1+1) 1 0 0), (13, .im 2 .any (o.cores.map Core.av)), (14, i64 o.cores.length), (15, i64 i), (21, .im 9 .any ((o.cores.getD i default).code.map Instr.av)), (22, i64 (o.cores.getD i default).code.length), (23, i64 k)]) (fun k H2 n2 => k ≤ (o.cores.getD i default).code.length ∧ n + 5 ≤ n2 ∧ getH H2 0 = some (.row 25 5 .any [o.av]) ∧ (∃ df, getH H2 (n+1+1+1+1) = some (.row 81 2 df [(o.cores.getD i default).av])) ∧ bad1 (o.cores.getD i default).code.length o.mem.length (o.cores.getD i default).code 0 = bad1 (o.cores.getD i default).code.length o.mem.length ((o.cores.getD i default).code.drop k) k) (fun k => (o.cores.getD i default).code.length - k) 0 aLess ⟨Nat.zero_le _, by omega, aRow, ⟨_, aRow⟩, rfl⟩ ?_
      rintro k H2 n2 ⟨hk, hn2, hr2, ⟨df, hr3⟩, hs2⟩
      have hcl := (ho.at i).len
      repeat' (first
    | ((with_reducible refine Go.red ?_); conv => whnf)
    | (with_reducible refine Go.and ?_ ?_)
    | (with_reducible exact True.intro)
    | (with_reducible refine Go.far ?_)
    | ((with_reducible refine Apt.mk ?_); (try dsimp only); omega)
    | ((with_reducible refine Ask.mk ?_); first | exact aAsk | exact aAsk2)
    | ((with_reducible refine Go.ari64 ?_ ?_ ?_); (· exact aBnd); (· exact aBnd))
    | ((with_reducible refine Go.ariu8 ?_ ?_ ?_); (· exact aBnd); (· exact aBnd))
    | (with_reducible refine Go.ari0 ?_)
    | (apply Go.elem; (· exact aElem))
    | (apply Go.row; (· exact aRow))
    | (apply Go.gives; (· exact aGives))
    | (apply Go.gives; (· exact aRes))
    | (with_reducible refine Go.unroll ?_)
    | ((with_reducible refine Go.callW (Right_pure _ ((ho.at _).at _) _ _) ?_ ?_); (· exact aFit))
    | ((with_reducible refine Go.callJ (fun _ => Right_pure _ ((ho.at _).at _) _ _) ?_ ?_); (· exact aFit))
    | ((with_reducible refine Go.callE (Right_pure _ ((ho.at _).at _) _ _) ?_ ?_); (· exact aFit))
    | ((with_reducible refine Go.callF (fun _ => Right_pure _ ((ho.at _).at _) _ _) ?_ ?_); (· exact aFit))
    | (refine Go.gt rfl ?_)
    | (refine Go.gf rfl ?_)
    | (with_reducible refine Go.join ?_)
    | (refine Go.lt' rfl ?_)
    | (refine Go.lf' rfl ?_)
    | ((with_reducible refine Go.bool ?_ ?_) <;> intro hc <;> (try simp only [List.length_map, ne_eq, hcs] at hc) <;> try (exfalso; omega))
    | ((with_reducible refine Res.eq ?_ ?_); (· exact aFit)))
      · have h1 : bad1 (o.cores.getD i default).code.length o.mem.length (o.cores.getD i default).code 0 = some k := by
          rw [hs2, drop_cons (by omega), bad1, if_neg (by rw [hc]; simp)]
        have h2 : bad2 o.mem.length o.cores 0 = some (i, k) := by
          rw [hs, drop_cons (by omega), bad2, h1]
        rw [checkAv, if_pos (by assumption), h2]
      · refine ⟨k + 1, by omega, aLess, by omega, by omega, aRow, ⟨_, aRow⟩, ?_⟩
        rw [hs2, drop_cons (by omega), bad1, if_pos hc]
      · have h1 : bad1 (o.cores.getD i default).code.length o.mem.length (o.cores.getD i default).code 0 = none := by
          rw [hs2, List.drop_eq_nil_of_le (by omega), bad1]
        refine ⟨i + 1, by omega, aLess, by omega, by omega, aRow, ?_⟩
        rw [hs, drop_cons (by omega), bad2, h1]
    · rw [List.drop_eq_nil_of_le (by omega), bad2] at hs
      rw [checkAv, if_pos (by assumption), hs]
end Go.Proofs.Ytliabecchkolgaa
