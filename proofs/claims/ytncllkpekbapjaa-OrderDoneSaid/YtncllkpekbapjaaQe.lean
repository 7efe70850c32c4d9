/- The walk of OrderDone: what comes next. -/
import Derived.Test.YtncllkpekbapjaaQd
namespace Go.Proofs.Ytncllkpekbapjaa
open Go Go.Abs Go.Proofs
set_option linter.unusedSimpArgs false
set_option linter.unusedVariables false
def preT (x : Exec) (D : Nat → Bool) (a k : Nat) : Bool := !D a && (List.range k).all fun j => D j || decide ((x.ev j).thread ≠ (x.ev a).thread)
def freeL (x : Exec) (D : Nat → Bool) (i : Nat) : List Int := (iota i).filter fun a => preT x D a.toNat a.toNat
theorem preT_zero {x : Exec} {D : Nat → Bool} {a : Nat} : preT x D a 0 = !D a := by simp [preT]
theorem preT_succ {x : Exec} {D : Nat → Bool} {a k : Nat} : preT x D a (k + 1) = (preT x D a k && (D k || decide ((x.ev k).thread ≠ (x.ev a).thread))) := by
  simp only [preT, List.range_succ, List.all_append, List.all_cons, List.all_nil, Bool.and_true, Bool.and_assoc]
theorem iota_succ (i : Nat) : iota (i + 1) = iota i ++ [(i : Int)] := by simp [iota, List.range_succ]
theorem freeL_succ {x : Exec} {D : Nat → Bool} {i : Nat} : freeL x D (i + 1) = freeL x D i ++ (if preT x D i i = true then [(i : Int)] else []) := by
  unfold freeL
  rw [iota_succ, List.filter_append]
  simp only [List.filter_cons, List.filter_nil, Int.toNat_natCast]
theorem freeL_len {x : Exec} {D : Nat → Bool} {i : Nat} : (freeL x D i).length ≤ i := by
  unfold freeL
  have := List.length_filter_le (fun a : Int => preT x D a.toNat a.toNat) (iota i)
  rw [iota_len] at this; exact this
theorem freeL_mem {x : Exec} {D : Nat → Bool} {i : Nat} {a : Int} : a ∈ freeL x D i ↔ (0 ≤ a ∧ a < i) ∧ preT x D a.toNat a.toNat = true := by
  unfold freeL
  rw [List.mem_filter, iota_mem]
theorem preT_iff {x : Exec} {D : Nat → Bool} {a k : Nat} : preT x D a k = true ↔ D a = false ∧ ∀ j, j < k → (x.ev j).thread = (x.ev a).thread → D j = true := by
  simp only [preT, Bool.and_eq_true, Bool.not_eq_true', List.all_eq_true, List.mem_range, Bool.or_eq_true, decide_eq_true_eq]
  refine and_congr_right fun _ => forall_congr' fun j => forall_congr' fun _ => ?_
  exact ⟨fun hh ht => hh.elim id (fun hn => absurd ht hn), fun hh => (Decidable.em ((x.ev j).thread = (x.ev a).thread)).elim (fun ht => .inl (hh ht)) .inr⟩
theorem least_of (p : Nat → Bool) : ∀ n, (∃ i, i < n ∧ p i = true) → ∃ m, m < n ∧ p m = true ∧ ∀ j, j < m → p j = false
  | 0, ⟨i, h, _⟩ => by omega
  | n + 1, ⟨i, h1, h2⟩ => by
    by_cases h : ∃ i, i < n ∧ p i = true
    · obtain ⟨m, g1, g2⟩ := least_of p n h
      exact ⟨m, by omega, g2⟩
    · have hi : i = n := Decidable.byContradiction fun hne => h ⟨i, by omega, h2⟩
      subst hi
      refine ⟨i, h1, h2, fun j hj => ?_⟩
      rw [Bool.eq_false_iff]
      exact fun hp => h ⟨j, hj, hp⟩
theorem freeL_pos {x : Exec} {D : Nat → Bool} {n : Nat} (h : 0 < todo n D) : 0 < (freeL x D n).length := by
  obtain ⟨i, h1, h2⟩ := List.countP_pos_iff.1 h
  obtain ⟨m, hm1, hm2, hm3⟩ := least_of (fun k => !D k) n ⟨i, by simpa using h1, h2⟩
  refine List.length_pos_of_mem (a := (m : Int)) (freeL_mem.2 ⟨⟨by omega, by omega⟩, preT_iff.2 ⟨?_, fun j hj _ => ?_⟩⟩)
  · rw [Int.toNat_natCast]; simpa using hm2
  · rw [Int.toNat_natCast] at hj
    have := hm3 j hj
    simpa using this
structure Half2 (x : Exec) (D : Nat → Bool) (out : List Int) : Prop where
  ord : Ord (thrM x) out
  mem : ∀ b : Nat, D b = true ↔ (b : Int) ∈ out
  nd : out.Nodup
  ran : ∀ k ∈ out, 0 ≤ k ∧ k < (x.events.length : Int)
  cnt : out.length + todo x.events.length D = x.events.length
theorem Half2.nil (x : Exec) : Half2 x (fun _ => false) [] := ⟨fun i hi => by simp at hi, fun b => by simp, by simp, by simp, by rw [todo_none]; simp⟩
theorem Half2.next {x : Exec} {D : Nat → Bool} {out : List Int} (h : Half2 x D out) {a : Nat} (ha : a < x.events.length) (hf : preT x D a a = true) : Half2 x (setD D a) (out ++ [(a : Int)]) := by
  obtain ⟨h1, h2⟩ := preT_iff.1 hf
  have ht := todo_set ha h1
  have hc := h.cnt
  refine ⟨h.ord.add fun b hb => ?_, fun b => ?_, ?_, fun k hk => ?_, by simp; omega⟩
  · simp only [thrM, Bool.and_eq_true, decide_eq_true_eq] at hb
    exact (h.mem b).1 (h2 b hb.1.1 hb.2)
  · simp only [setD, Bool.or_eq_true, decide_eq_true_eq, List.mem_append, List.mem_singleton, h.mem b]
    exact or_congr_right ⟨fun e => by rw [e], fun e => by omega⟩
  · rw [List.nodup_append]
    refine ⟨h.nd, by simp, fun b hb c hcm => ?_⟩
    simp only [List.mem_singleton] at hcm
    subst hcm
    intro e
    subst e
    have := (h.mem a).2 hb
    rw [h1] at this; cases this
  · rcases List.mem_append.1 hk with hk | hk
    · exact h.ran k hk
    · simp only [List.mem_singleton] at hk; omega
theorem Half2.line {x : Exec} {D : Nat → Bool} {out : List Int} (h : Half2 x D out) (hl : out.length = x.events.length) : isLine x.events.length out = true := by
  simp only [isLine, Bool.and_eq_true, decide_eq_true_eq]
  exact ⟨⟨hl, h.ran⟩, h.nd⟩
def evMix (x : Exec) (l : List Int) (i : Nat) : List Deed := (List.range x.events.length).map fun j => if j < i then evF x l j else x.ev j
theorem evMix_zero (x : Exec) (l : List Int) : evMix x l 0 = x.events := by
  refine ext_getD default (by simp [evMix]) fun j hj => ?_
  have hj : j < x.events.length := by simpa [evMix] using hj
  simp [evMix, List.getD, hj]
theorem evMix_len (x : Exec) (l : List Int) (i : Nat) : (evMix x l i).length = x.events.length := by simp [evMix]
theorem evMix_get {x : Exec} {l : List Int} {i j : Nat} (h : j < x.events.length) : (evMix x l i).getD j default = if j < i then evF x l j else x.ev j := by simp [evMix, List.getD, h]
theorem evMix_all (x : Exec) (l : List Int) : evMix x l x.events.length = (doneX x l).events := by
  refine List.map_congr_left fun j hj => ?_
  rw [if_pos (by simpa using hj)]
theorem evMix_set {x : Exec} {l : List Int} {i : Nat} (hi : i < x.events.length) : (evMix x l i).set i (evF x l i) = evMix x l (i + 1) := by
  refine ext_getD default (by simp [evMix]) fun j hj => ?_
  have hj : j < x.events.length := by simpa [evMix] using hj
  rw [evMix_get hj]
  by_cases h1 : i = j
  · subst h1
    rw [if_pos (by omega)]
    simp [List.getD, evMix_len, hi]
  · have e : ((evMix x l i).set i (evF x l i)).getD j default = (evMix x l i).getD j default := by simp [List.getD, List.getElem?_set, h1]
    rw [e, evMix_get hj]
    by_cases h2 : j < i
    · rw [if_pos h2, if_pos (by omega)]
    · rw [if_neg h2, if_neg (by omega)]
theorem evMix_skip {x : Exec} {l : List Int} {i : Nat} (hi : i < x.events.length) (hr : (x.ev i).rd = false) : evMix x l i = evMix x l (i + 1) := by
  refine List.map_congr_left fun j hj => ?_
  by_cases h1 : j = i
  · subst h1
    rw [if_neg (by omega), if_pos (by omega)]
    unfold evF; rw [hr]; rfl
  · by_cases h2 : j < i
    · rw [if_pos h2, if_pos (by omega)]
    · rw [if_neg h2, if_neg (by omega)]
def afS (x : Exec) (l : List Int) (i : Nat) : List (List Int) := (List.range x.first.length).map fun t => (l.take i).filter (wrTo x t)
theorem afS_len (x : Exec) (l : List Int) (i : Nat) : (afS x l i).length = x.first.length := by simp [afS]
theorem afS_get {x : Exec} {l : List Int} {i t : Nat} (h : t < x.first.length) : (afS x l i).getD t [] = (l.take i).filter (wrTo x t) := by simp [afS, List.getD, h]
theorem afS_next {x : Exec} {l : List Int} {i t : Nat} (hi : i < l.length) (ht : t < x.first.length) (hw : (x.ev (l.getD i 0).toNat).wr = true) (hth : (x.ev (l.getD i 0).toNat).thing = t) : (afS x l i).set t ((afS x l i).getD t [] ++ [l.getD i 0]) = afS x l (i + 1) := by
  refine ext_getD [] (by simp [afS]) fun u hu => ?_
  have hu : u < x.first.length := by simpa [afS] using hu
  have e : l.take (i + 1) = l.take i ++ [l.getD i 0] := by rw [List.take_succ_eq_append_getElem hi, getD_el 0 hi]
  rw [afS_get hu, e, List.filter_append]
  by_cases h1 : t = u
  · subst h1
    have hwt : wrTo x t (l.getD i 0) = true := by simp only [wrTo, Bool.and_eq_true, decide_eq_true_eq]; exact ⟨hw, hth⟩
    rw [List.filter_cons, if_pos hwt, List.filter_nil, afS_get ht]
    simp [List.getD, afS_len, ht]
  · have hwt : wrTo x u (l.getD i 0) = false := by
      simp only [wrTo, hw, hth, Bool.true_and, decide_eq_false_iff_not]
      omega
    rw [List.filter_cons, hwt, List.filter_nil]
    simp [List.getD, List.getElem?_set, h1, afS, hu]
theorem afS_skip {x : Exec} {l : List Int} {i : Nat} (hi : i < l.length) (hw : (x.ev (l.getD i 0).toNat).wr = false) : afS x l i = afS x l (i + 1) := by
  refine List.map_congr_left fun u hu => ?_
  have e : l.take (i + 1) = l.take i ++ [l.getD i 0] := by rw [List.take_succ_eq_append_getElem hi, getD_el 0 hi]
  have hwt : wrTo x u (l.getD i 0) = false := by simp only [wrTo, hw, Bool.false_and]
  rw [e, List.filter_append, List.filter_cons, hwt, List.filter_nil]
  simp
theorem afS_zero (x : Exec) (l : List Int) : afS x l 0 = List.replicate x.first.length [] := by simp [afS, List.map_const']
theorem afS_all {x : Exec} {l : List Int} (hl : l.length = x.events.length) : afS x l x.events.length = (doneX x l).after := by
  unfold afS doneX
  rw [← hl, List.take_length]
theorem reads_fresh (x : Exec) (hx : x.Wf) (hok : okB x = true) (out : List Int) (hL : isLine x.events.length out = true) (V : AV) (hV : ∀ c, AVle c c V (imI out)) :
    CallN Try.prog 23 [x.av, V] [] 0 (fun r H _ => ∃ b d, r = .tup (.sl b (((List.range x.events.length).map (gotF x out)).map i64).length :: [i64 0]) ∧ getH H b = some (.row 3 1 d (((List.range x.events.length).map (gotF x out)).map i64))) := by
  have hlen : out.length = x.events.length := by
    simp only [isLine, Bool.and_eq_true, decide_eq_true_eq] at hL
    exact hL.1.1
  have hx1 := (fine_of hx hok).few
  have e2 : readsE x out = 0 := by simp [readsE, hok, hL]
  have e3 : readsL x out = (List.range x.events.length).map (gotF x out) := by simp only [readsL, hok, hL, and_self, if_true]; rfl
  refine CallN.args (CallN.mono (reads_call x hx out (by omega)) ?_) (fun c => .cons (fun _ h => h) (.cons (hV c) .nil))
  rintro r H n ⟨s, rfl, h1⟩
  rcases h1 with ⟨h1, _⟩ | ⟨b, d, rfl, h1, h2⟩
  · exact absurd e2 h1
  · rw [e3] at h1 h2
    exact ⟨b, d, by rw [e2, List.length_map, h1], h2⟩
theorem QAt_same {te e : TypeId} {sz b : Nat} {ids : List Nat} {S : List (List AV)} {H : Hp} (h : QAt te e sz b ids S H) {H' : Hp} {q : Nat} (hq : q < S.length) (l : List AV)
    (h1 : ∃ d es, getH H' b = some (.row te 1 d es) ∧ es = (qRow ids S).set q (.sl (ids.getD q 0) l.length)) (h2 : ∃ d es, getH H' (ids.getD q 0) = some (.row e sz d es) ∧ es = l)
    (h3 : ∀ j, j < S.length → j ≠ q → ids.getD j 0 ≠ b → ids.getD j 0 ≠ ids.getD q 0 → getH H' (ids.getD j 0) = getH H (ids.getD j 0)) : QAt te e sz b ids (S.set q l) H' := by
  have h4 := h.next hq l (.inl rfl) h1 h2 (fun j a1 a2 a3 a4 _ => h3 j a1 a2 a3 a4)
  have hqb : q < ids.length := by rw [h.lens]; exact hq
  have e : ids.getD q 0 = ids[q] := by simp [List.getD, hqb]
  rw [e, List.set_getElem_self] at h4
  exact h4
def SI (S : List (List Int)) : List (List AV) := S.map (List.map i64)
theorem SI_get (S : List (List Int)) (q : Nat) : (SI S).getD q [] = (S.getD q []).map i64 := by
  simp only [SI, List.getD, List.getElem?_map]
  cases S[q]? <;> rfl
theorem SI_set (S : List (List Int)) (q : Nat) (l : List Int) : SI (S.set q l) = (SI S).set q (l.map i64) := by simp [SI, List.map_set]
theorem SI_len (S : List (List Int)) : (SI S).length = S.length := by simp [SI]
theorem frz_qrow {te e : TypeId} {b : Nat} {ids : List Nat} {S : List (List Int)} {H : Hp} (h : QAt te e 1 b ids (SI S) H) (k : Nat) : (qRow ids (SI S)).map (Abs.frz H (k + 1)) = S.map imF := by
  apply List.ext_getElem
  · rw [List.length_map, h.len, SI_len, List.length_map]
  · intro i p1 p2
    have hi : i < S.length := by simpa using p2
    have hi2 : i < (SI S).length := by rw [SI_len]; exact hi
    obtain ⟨d, hd⟩ := h.qs i hi2
    have hg := h.get hi2 .any
    rw [SI_get] at hd hg
    have hq : (qRow ids (SI S))[i]'(by simpa using p1) = .sl (ids.getD i 0) ((S.getD i []).map i64).length := by
      rw [← hg]; simp [List.getD, h.len, hi2]
    simp only [List.getElem_map, hq]
    rw [frz_sl hd rfl, frz_same _ ((fitL_map _ _).2 fun _ _ => by simp [fitA])]
    simp [List.getD, hi, imF]
theorem frz_exec {H : Hp} {y : Exec} {b1 b2 b3 b4 k1 k2 k3 k4 : Nat} {ids : List Nat} {t1 t2 t3 te e : TypeId} {d1 d2 d3 : AV} (h1 : getH H b1 = some (.row t1 1 d1 (y.first.map i64))) (h2 : getH H b2 = some (.row t2 5 d2 (y.events.map Deed.av))) (h3 : getH H b3 = some (.row t3 1 d3 (y.frm.map i64))) (h4 : QAt te e 1 b4 ids (SI y.after) H)
    (e1 : y.first.length = k1) (e2 : y.events.length = k2) (e3 : y.frm.length = k3) (e4 : y.after.length = k4) : [AV.agg [.sl b1 k1, .sl b2 k2, .sl b3 k3, .sl b4 k4]].map (Abs.frz H 6) = [y.fz] := by
  obtain ⟨d4, h5⟩ := h4.row
  show [AV.agg [Abs.frz H 5 (.sl b1 k1), Abs.frz H 5 (.sl b2 k2), Abs.frz H 5 (.sl b3 k3), Abs.frz H 5 (.sl b4 k4)]] = _
  rw [frz_sl h1 (by simpa using e1), frz_sl h2 (by simpa using e2), frz_sl h3 (by simpa using e3), frz_sl h5 (by rw [h4.len, SI_len]; exact e4), frz_qrow h4 3,
    frz_same _ ((fitL_map _ _).2 fun _ _ => by simp [fitA]), frz_same _ ((fitL_map _ _).2 fun _ _ => by simp [fitA]), frz_same _ ((fitL_map _ _).2 fun _ _ => by simp [fitA])]
  rfl
theorem flat_plain (a b : Value) : flatR (.tup [.sc a, .sc b]) := by
  intro z hz
  simp only [List.mem_cons, List.not_mem_nil, or_false] at hz
  rcases hz with rfl | rfl <;> exact .inl ⟨_, rfl⟩
theorem plain_done (x : Exec) (l : List Int) (hw : (doneX x l).Wf) (hp : plainB (doneX x l) = true) : Pure Try.prog 14 [(doneX x l).av] (fun r => r = .tup [bl true, i64 0]) := by
  have h := plain_pure _ hw
  have he : errN (doneX x l) = 0 := by
    simp only [plainB, Bool.and_eq_true] at hp
    simp [errN, hp.1]
  rw [hp, he] at h
  exact h
end Go.Proofs.Ytncllkpekbapjaa
