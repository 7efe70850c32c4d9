/- Check, Coherent, Plain and Tso of the program. -/
import Derived.Test.YtncllkpekbapjaaOg
namespace Go.Proofs.Ytncllkpekbapjaa
open Go Go.Abs Go.Proofs
set_option linter.unusedSimpArgs false
set_option linter.unusedVariables false
def goodAt (x : Exec) (i : Nat) : Bool := evOk x.first.length (x.ev i) && frOk x i
def badFrom (x : Exec) : Nat → Nat → Option Nat
  | 0, _ => none
  | m + 1, i => if goodAt x i = true then badFrom x m (i + 1) else some i
def shapeB (x : Exec) : Bool := decide (x.events.length ≤ 64) && decide (x.frm.length = x.events.length) && decide (x.after.length = x.first.length)
def checkS (x : Exec) : Int × Int :=
  if shapeB x = true then (match badFrom x x.events.length 0 with
    | some i => (220, (i : Int))
    | none => if aftOk x then (0, 0) else (220, 0)) else (220, 0)
def okB (x : Exec) : Bool := decide ((checkS x).1 = 0)
theorem badFrom_none {x : Exec} : ∀ {m i : Nat}, badFrom x m i = none → ∀ j, i ≤ j → j < i + m → goodAt x j = true
  | 0, i, _, j, h1, h2 => by omega
  | m + 1, i, h, j, h1, h2 => by
    simp only [badFrom] at h
    split at h
    · rename_i hg
      by_cases hji : j = i
      · subst hji; exact hg
      · exact badFrom_none h j (by omega) (by omega)
    · cases h
theorem fine_of {x : Exec} (hx : x.Wf) (h : okB x = true) : Fine x := by
  simp only [okB, checkS, decide_eq_true_eq] at h
  split at h
  · rename_i hs
    simp only [shapeB, Bool.and_eq_true, decide_eq_true_eq] at hs
    split at h
    · simp at h
    · rename_i hb
      split at h
      · rename_i ha
        have hg := badFrom_none hb
        refine ⟨hx, hs.1.1, hs.1.2, hs.2, fun i hi => ?_, fun i hi => ?_, ha⟩
        · have := hg i (by omega) (by omega); simp only [goodAt, Bool.and_eq_true] at this; exact this.1
        · have := hg i (by omega) (by omega); simp only [goodAt, Bool.and_eq_true] at this; exact this.2
      · simp at h
  · simp at h
set_option maxHeartbeats 2000000 in
theorem check_pure (x : Exec) (hx : x.Wf) : Pure Try.prog 10 [x.av] (fun r => r = .tup [i64 (checkS x).1, i64 (checkS x).2]) := by
  refine Go.pure Try.func10 nm10 low10 res10 nt10 rfl ?_
  have h1 := hx.eventslen
  have h2 := hx.frmlen
  have h3 := hx.afterlen
  have h4 := hx.firstlen
  repeat' (first | ((with_reducible refine Go.red ?_); conv => whnf) | with_reducible (first | refine Go.and ?_ ?_ | exact True.intro | refine Go.far ?_ | exact Go.askRep | refine Go.unroll ?_ | refine Go.drawn ?_) | ((with_reducible refine Apt.mk ?_); (try dsimp only); omega) | ((with_reducible refine Ask.mk ?_); first | exact aAsk | exact aAsk2 | (intro h; simp_all [Exec.cells, Deed.cells] <;> fail) | (simp_all [Exec.cells, Deed.cells] <;> fail)) | ((with_reducible refine Go.ari64 ?_ ?_ ?_); (· exact aBnd); (· exact aBnd)) | ((with_reducible refine Go.ariu8 ?_ ?_ ?_); (· exact aBnd); (· exact aBnd)) | (with_reducible refine Go.ari0 ?_) | (apply Go.elem; (· (first | exact ev_get | exact int_get | exact lst_get | exact aElem))) | (apply Go.row; (· exact aRow)) | (apply Go.map; (· exact aRow)) | (apply Go.gives; (· exact aGives)) | (apply Go.gives; (· exact aRes)) | (refine Go.gt rfl ?_) | (refine Go.gf rfl ?_) | (with_reducible refine Go.join ?_) | (refine Go.lt' rfl ?_) | (refine Go.lf' rfl ?_) | ((with_reducible refine Go.bool ?_ ?_) <;> intro hc <;> (try simp only [List.length_map, ne_eq, hcs] at hc) <;> try (exfalso; omega)) | ((with_reducible refine Res.eq ?_ ?_); (· exact aFit)))
  · have hs : shapeB x = false := by
      rw [Bool.eq_false_iff]
      simp only [shapeB, ne_eq, Bool.and_eq_true, decide_eq_true_eq]
      omega
    have e : checkS x = (220, 0) := by simp [checkS, hs]
    rw [e]
  · have hs : shapeB x = true := by
      simp only [shapeB, Bool.and_eq_true, decide_eq_true_eq]
      omega
    refine Go.loop (fun i : Nat => [(1, .pt 0 1 0 0), (2, i64 0), (3, i64 0), (29, i64 x.events.length), (30, i64 i)])
      (fun i H n => i ≤ x.events.length ∧ 1 ≤ n ∧ getH H 0 = some (.row 27 4 .any [x.av]) ∧ badFrom x x.events.length 0 = badFrom x (x.events.length - i) i) (fun i => x.events.length - i) 0 aLess ⟨Nat.zero_le _, aNx, aRow, by simp⟩ ?_
    rintro i H n ⟨hi, hn, r0, hb⟩
    have hfew : x.events.length ≤ 64 := by omega
    by_cases hlt : i < x.events.length
    · have hd := deed_pure x i hlt (by omega)
      have e : x.events.length - i = (x.events.length - (i + 1)) + 1 := by omega
      rw [e, badFrom] at hb
      cases hg : goodAt x i with
      | true =>
        rw [if_pos hg] at hb
        have hg2 := hg
        unfold goodAt at hg2
        rw [hg2] at hd
        repeat' (first | ((with_reducible refine Go.red ?_); conv => whnf) | with_reducible (first | refine Go.and ?_ ?_ | exact True.intro | refine Go.far ?_ | exact Go.askRep | refine Go.unroll ?_ | refine Go.drawn ?_) | ((with_reducible refine Apt.mk ?_); (try dsimp only); omega) | ((with_reducible refine Ask.mk ?_); first | exact aAsk | exact aAsk2 | (intro h; simp_all [Exec.cells, Deed.cells] <;> fail) | (simp_all [Exec.cells, Deed.cells] <;> fail)) | ((with_reducible refine Go.ari64 ?_ ?_ ?_); (· exact aBnd); (· exact aBnd)) | ((with_reducible refine Go.ariu8 ?_ ?_ ?_); (· exact aBnd); (· exact aBnd)) | (with_reducible refine Go.ari0 ?_) | (apply Go.elem; (· (first | exact ev_get | exact int_get | exact lst_get | exact aElem))) | (apply Go.row; (· exact aRow)) | (apply Go.map; (· exact aRow)) | (apply Go.gives; (· exact aGives)) | (apply Go.gives; (· exact aRes)) | ((with_reducible refine Go.callW (hd) ?_ ?_); (· exact aFit)) | ((with_reducible refine Go.callJ (fun _ => hd) ?_ ?_); (· exact aFit)) | ((with_reducible refine Go.callE (hd) ?_ ?_); (· exact aFit)) | ((with_reducible refine Go.callF (fun _ => hd) ?_ ?_); (· exact aFit)) | (refine Go.gt rfl ?_) | (refine Go.gf rfl ?_) | (with_reducible refine Go.join ?_) | (refine Go.lt' rfl ?_) | (refine Go.lf' rfl ?_) | ((with_reducible refine Go.bool ?_ ?_) <;> intro hc <;> (try simp only [List.length_map, ne_eq, hcs] at hc) <;> try (exfalso; omega)) | ((with_reducible refine Res.eq ?_ ?_); (· exact aFit)))
        exact ⟨i + 1, by omega, aLess, by omega, aNx, aRow, hb⟩
      | false =>
        rw [if_neg (by simp [hg])] at hb
        have hg2 := hg
        unfold goodAt at hg2
        rw [hg2] at hd
        repeat' (first | ((with_reducible refine Go.red ?_); conv => whnf) | with_reducible (first | refine Go.and ?_ ?_ | exact True.intro | refine Go.far ?_ | exact Go.askRep | refine Go.unroll ?_ | refine Go.drawn ?_) | ((with_reducible refine Apt.mk ?_); (try dsimp only); omega) | ((with_reducible refine Ask.mk ?_); first | exact aAsk | exact aAsk2 | (intro h; simp_all [Exec.cells, Deed.cells] <;> fail) | (simp_all [Exec.cells, Deed.cells] <;> fail)) | ((with_reducible refine Go.ari64 ?_ ?_ ?_); (· exact aBnd); (· exact aBnd)) | ((with_reducible refine Go.ariu8 ?_ ?_ ?_); (· exact aBnd); (· exact aBnd)) | (with_reducible refine Go.ari0 ?_) | (apply Go.elem; (· (first | exact ev_get | exact int_get | exact lst_get | exact aElem))) | (apply Go.row; (· exact aRow)) | (apply Go.map; (· exact aRow)) | (apply Go.gives; (· exact aGives)) | (apply Go.gives; (· exact aRes)) | ((with_reducible refine Go.callW (hd) ?_ ?_); (· exact aFit)) | ((with_reducible refine Go.callJ (fun _ => hd) ?_ ?_); (· exact aFit)) | ((with_reducible refine Go.callE (hd) ?_ ?_); (· exact aFit)) | ((with_reducible refine Go.callF (fun _ => hd) ?_ ?_); (· exact aFit)) | (refine Go.gt rfl ?_) | (refine Go.gf rfl ?_) | (with_reducible refine Go.join ?_) | (refine Go.lt' rfl ?_) | (refine Go.lf' rfl ?_) | ((with_reducible refine Go.bool ?_ ?_) <;> intro hc <;> (try simp only [List.length_map, ne_eq, hcs] at hc) <;> try (exfalso; omega)) | ((with_reducible refine Res.eq ?_ ?_); (· exact aFit)))
        have e2 : checkS x = (220, (i : Int)) := by simp only [checkS, hs, if_true, hb]
        rw [e2]
    · have hil : i = x.events.length := by omega
      subst hil
      rw [Nat.sub_self, badFrom] at hb
      have ha := after_pure x hx hfew
      by_cases haf : aftOk x
      · have e2 : checkS x = (0, 0) := by simp only [checkS, hs, if_true, hb, haf]
        rw [decide_eq_true haf] at ha
        repeat' (first | ((with_reducible refine Go.red ?_); conv => whnf) | with_reducible (first | refine Go.and ?_ ?_ | exact True.intro | refine Go.far ?_ | exact Go.askRep | refine Go.unroll ?_ | refine Go.drawn ?_) | ((with_reducible refine Apt.mk ?_); (try dsimp only); omega) | ((with_reducible refine Ask.mk ?_); first | exact aAsk | exact aAsk2 | (intro h; simp_all [Exec.cells, Deed.cells] <;> fail) | (simp_all [Exec.cells, Deed.cells] <;> fail)) | ((with_reducible refine Go.ari64 ?_ ?_ ?_); (· exact aBnd); (· exact aBnd)) | ((with_reducible refine Go.ariu8 ?_ ?_ ?_); (· exact aBnd); (· exact aBnd)) | (with_reducible refine Go.ari0 ?_) | (apply Go.elem; (· (first | exact ev_get | exact int_get | exact lst_get | exact aElem))) | (apply Go.row; (· exact aRow)) | (apply Go.map; (· exact aRow)) | (apply Go.gives; (· exact aGives)) | (apply Go.gives; (· exact aRes)) | ((with_reducible refine Go.callW (ha) ?_ ?_); (· exact aFit)) | ((with_reducible refine Go.callJ (fun _ => ha) ?_ ?_); (· exact aFit)) | ((with_reducible refine Go.callE (ha) ?_ ?_); (· exact aFit)) | ((with_reducible refine Go.callF (fun _ => ha) ?_ ?_); (· exact aFit)) | (refine Go.gt rfl ?_) | (refine Go.gf rfl ?_) | (with_reducible refine Go.join ?_) | (refine Go.lt' rfl ?_) | (refine Go.lf' rfl ?_) | ((with_reducible refine Go.bool ?_ ?_) <;> intro hc <;> (try simp only [List.length_map, ne_eq, hcs] at hc) <;> try (exfalso; omega)) | ((with_reducible refine Res.eq ?_ ?_); (· exact aFit)))
        rw [e2]
      · have e2 : checkS x = (220, 0) := by simp only [checkS, hs, if_true, hb, haf, if_false]
        rw [decide_eq_false haf] at ha
        repeat' (first | ((with_reducible refine Go.red ?_); conv => whnf) | with_reducible (first | refine Go.and ?_ ?_ | exact True.intro | refine Go.far ?_ | exact Go.askRep | refine Go.unroll ?_ | refine Go.drawn ?_) | ((with_reducible refine Apt.mk ?_); (try dsimp only); omega) | ((with_reducible refine Ask.mk ?_); first | exact aAsk | exact aAsk2 | (intro h; simp_all [Exec.cells, Deed.cells] <;> fail) | (simp_all [Exec.cells, Deed.cells] <;> fail)) | ((with_reducible refine Go.ari64 ?_ ?_ ?_); (· exact aBnd); (· exact aBnd)) | ((with_reducible refine Go.ariu8 ?_ ?_ ?_); (· exact aBnd); (· exact aBnd)) | (with_reducible refine Go.ari0 ?_) | (apply Go.elem; (· (first | exact ev_get | exact int_get | exact lst_get | exact aElem))) | (apply Go.row; (· exact aRow)) | (apply Go.map; (· exact aRow)) | (apply Go.gives; (· exact aGives)) | (apply Go.gives; (· exact aRes)) | ((with_reducible refine Go.callW (ha) ?_ ?_); (· exact aFit)) | ((with_reducible refine Go.callJ (fun _ => ha) ?_ ?_); (· exact aFit)) | ((with_reducible refine Go.callE (ha) ?_ ?_); (· exact aFit)) | ((with_reducible refine Go.callF (fun _ => ha) ?_ ?_); (· exact aFit)) | (refine Go.gt rfl ?_) | (refine Go.gf rfl ?_) | (with_reducible refine Go.join ?_) | (refine Go.lt' rfl ?_) | (refine Go.lf' rfl ?_) | ((with_reducible refine Go.bool ?_ ?_) <;> intro hc <;> (try simp only [List.length_map, ne_eq, hcs] at hc) <;> try (exfalso; omega)) | ((with_reducible refine Res.eq ?_ ?_); (· exact aFit)))
        rw [e2]
theorem check_err {x : Exec} : (checkS x).1 = 0 ∨ (checkS x).1 = 220 := by
  unfold checkS
  repeat' split
  all_goals simp
theorem okB_true {x : Exec} (h : okB x = true) : (checkS x).1 = 0 := by simpa [okB] using h
theorem okB_false {x : Exec} (h : okB x = false) : (checkS x).1 = 220 := by
  have := check_err (x := x)
  simp only [okB, decide_eq_false_iff_not] at h
  omega
def errN (x : Exec) : Int := if okB x = true then 0 else 220
def cohB (x : Exec) : Bool := okB x && !ringB x.events.length (arrM x (cohF x))
def plainB (x : Exec) : Bool := okB x && !ringB x.events.length (arrM x fun _ _ _ => true)
def tsoB (x : Exec) : Bool := okB x && (cohB x && !ringB x.events.length (arrM x (tsoF x)))
set_option maxHeartbeats 2000000 in
theorem coherent_pure (x : Exec) (hx : x.Wf) : Pure Try.prog 12 [x.av] (fun r => r = .tup [bl (cohB x), i64 (errN x)]) := by
  refine Go.pure Try.func12 nm12 low12 res12 nt12 rfl ?_
  have hck := check_pure x hx
  cases hok : okB x with
  | true =>
    have h := fine_of hx hok
    have e : cohB x = !ringB x.events.length (arrM x (cohF x)) := by simp [cohB, hok]
    have e2 : errN x = 0 := by simp [errN, hok]
    rw [okB_true hok] at hck
    rw [e, e2]
    repeat' (first | ((with_reducible refine Go.red ?_); conv => whnf) | with_reducible (first | refine Go.and ?_ ?_ | exact True.intro | refine Go.far ?_ | exact Go.askRep | refine Go.unroll ?_ | refine Go.drawn ?_) | ((with_reducible refine Apt.mk ?_); (try dsimp only); omega) | ((with_reducible refine Ask.mk ?_); first | exact aAsk | exact aAsk2) | ((with_reducible refine Go.ari64 ?_ ?_ ?_); (· exact aBnd); (· exact aBnd)) | ((with_reducible refine Go.ariu8 ?_ ?_ ?_); (· exact aBnd); (· exact aBnd)) | (with_reducible refine Go.ari0 ?_) | (apply Go.elem; (· exact aElem)) | (apply Go.row; (· exact aRow)) | (apply Go.map; (· exact aRow)) | (apply Go.gives; (· exact aGives)) | (apply Go.gives; (· exact aRes)) | ((with_reducible refine Go.callW (hck) ?_ ?_); (· exact aFit)) | ((with_reducible refine Go.callJ (fun _ => hck) ?_ ?_); (· exact aFit)) | ((with_reducible refine Go.callE (hck) ?_ ?_); (· exact aFit)) | ((with_reducible refine Go.callF (fun _ => hck) ?_ ?_); (· exact aFit)) | ((refine Go.lookW ((free_v x h 34 (cohF x) (fun k a b _ ha hb => coh_pure x k a b ha hb) 0 _ _ _ .any aNx aRow)) ?_ ?_); (· exact True.intro)) | ((refine Go.lookJ (fun _ => (free_v x h 34 (cohF x) (fun k a b _ ha hb => coh_pure x k a b ha hb) 0 _ _ _ .any aNx aRow)) ?_ ?_); (· exact True.intro)) | (refine Go.gt rfl ?_) | (refine Go.gf rfl ?_) | (with_reducible refine Go.join ?_) | (refine Go.lt' rfl ?_) | (refine Go.lf' rfl ?_) | ((with_reducible refine Go.bool ?_ ?_) <;> intro hc <;> (try simp only [List.length_map, ne_eq, hcs] at hc) <;> try (exfalso; omega)) | ((with_reducible refine Res.eq ?_ ?_); (· exact aFit)))
    exact rfl
  | false =>
    have e : cohB x = false := by simp [cohB, hok]
    have e2 : errN x = 220 := by simp [errN, hok]
    rw [okB_false hok] at hck
    rw [e, e2]
    repeat' (first | ((with_reducible refine Go.red ?_); conv => whnf) | with_reducible (first | refine Go.and ?_ ?_ | exact True.intro | refine Go.far ?_ | exact Go.askRep | refine Go.unroll ?_ | refine Go.drawn ?_) | ((with_reducible refine Apt.mk ?_); (try dsimp only); omega) | ((with_reducible refine Ask.mk ?_); first | exact aAsk | exact aAsk2) | ((with_reducible refine Go.ari64 ?_ ?_ ?_); (· exact aBnd); (· exact aBnd)) | ((with_reducible refine Go.ariu8 ?_ ?_ ?_); (· exact aBnd); (· exact aBnd)) | (with_reducible refine Go.ari0 ?_) | (apply Go.elem; (· exact aElem)) | (apply Go.row; (· exact aRow)) | (apply Go.map; (· exact aRow)) | (apply Go.gives; (· exact aGives)) | (apply Go.gives; (· exact aRes)) | ((with_reducible refine Go.callW (hck) ?_ ?_); (· exact aFit)) | ((with_reducible refine Go.callJ (fun _ => hck) ?_ ?_); (· exact aFit)) | ((with_reducible refine Go.callE (hck) ?_ ?_); (· exact aFit)) | ((with_reducible refine Go.callF (fun _ => hck) ?_ ?_); (· exact aFit)) | (refine Go.gt rfl ?_) | (refine Go.gf rfl ?_) | (with_reducible refine Go.join ?_) | (refine Go.lt' rfl ?_) | (refine Go.lf' rfl ?_) | ((with_reducible refine Go.bool ?_ ?_) <;> intro hc <;> (try simp only [List.length_map, ne_eq, hcs] at hc) <;> try (exfalso; omega)) | ((with_reducible refine Res.eq ?_ ?_); (· exact aFit)))
    exact rfl
set_option maxHeartbeats 2000000 in
theorem plain_pure (x : Exec) (hx : x.Wf) : Pure Try.prog 14 [x.av] (fun r => r = .tup [bl (plainB x), i64 (errN x)]) := by
  refine Go.pure Try.func14 nm14 low14 res14 nt14 rfl ?_
  have hck := check_pure x hx
  cases hok : okB x with
  | true =>
    have h := fine_of hx hok
    have e : plainB x = !ringB x.events.length (arrM x fun _ _ _ => true) := by simp [plainB, hok]
    have e2 : errN x = 0 := by simp [errN, hok]
    rw [okB_true hok] at hck
    rw [e, e2]
    repeat' (first | ((with_reducible refine Go.red ?_); conv => whnf) | with_reducible (first | refine Go.and ?_ ?_ | exact True.intro | refine Go.far ?_ | exact Go.askRep | refine Go.unroll ?_ | refine Go.drawn ?_) | ((with_reducible refine Apt.mk ?_); (try dsimp only); omega) | ((with_reducible refine Ask.mk ?_); first | exact aAsk | exact aAsk2) | ((with_reducible refine Go.ari64 ?_ ?_ ?_); (· exact aBnd); (· exact aBnd)) | ((with_reducible refine Go.ariu8 ?_ ?_ ?_); (· exact aBnd); (· exact aBnd)) | (with_reducible refine Go.ari0 ?_) | (apply Go.elem; (· exact aElem)) | (apply Go.row; (· exact aRow)) | (apply Go.map; (· exact aRow)) | (apply Go.gives; (· exact aGives)) | (apply Go.gives; (· exact aRes)) | ((with_reducible refine Go.callW (hck) ?_ ?_); (· exact aFit)) | ((with_reducible refine Go.callJ (fun _ => hck) ?_ ?_); (· exact aFit)) | ((with_reducible refine Go.callE (hck) ?_ ?_); (· exact aFit)) | ((with_reducible refine Go.callF (fun _ => hck) ?_ ?_); (· exact aFit)) | ((refine Go.lookW ((free_e x h 0 _ _)) ?_ ?_); (· exact True.intro)) | ((refine Go.lookJ (fun _ => (free_e x h 0 _ _)) ?_ ?_); (· exact True.intro)) | (refine Go.gt rfl ?_) | (refine Go.gf rfl ?_) | (with_reducible refine Go.join ?_) | (refine Go.lt' rfl ?_) | (refine Go.lf' rfl ?_) | ((with_reducible refine Go.bool ?_ ?_) <;> intro hc <;> (try simp only [List.length_map, ne_eq, hcs] at hc) <;> try (exfalso; omega)) | ((with_reducible refine Res.eq ?_ ?_); (· exact aFit)))
    exact rfl
  | false =>
    have e : plainB x = false := by simp [plainB, hok]
    have e2 : errN x = 220 := by simp [errN, hok]
    rw [okB_false hok] at hck
    rw [e, e2]
    repeat' (first | ((with_reducible refine Go.red ?_); conv => whnf) | with_reducible (first | refine Go.and ?_ ?_ | exact True.intro | refine Go.far ?_ | exact Go.askRep | refine Go.unroll ?_ | refine Go.drawn ?_) | ((with_reducible refine Apt.mk ?_); (try dsimp only); omega) | ((with_reducible refine Ask.mk ?_); first | exact aAsk | exact aAsk2) | ((with_reducible refine Go.ari64 ?_ ?_ ?_); (· exact aBnd); (· exact aBnd)) | ((with_reducible refine Go.ariu8 ?_ ?_ ?_); (· exact aBnd); (· exact aBnd)) | (with_reducible refine Go.ari0 ?_) | (apply Go.elem; (· exact aElem)) | (apply Go.row; (· exact aRow)) | (apply Go.map; (· exact aRow)) | (apply Go.gives; (· exact aGives)) | (apply Go.gives; (· exact aRes)) | ((with_reducible refine Go.callW (hck) ?_ ?_); (· exact aFit)) | ((with_reducible refine Go.callJ (fun _ => hck) ?_ ?_); (· exact aFit)) | ((with_reducible refine Go.callE (hck) ?_ ?_); (· exact aFit)) | ((with_reducible refine Go.callF (fun _ => hck) ?_ ?_); (· exact aFit)) | (refine Go.gt rfl ?_) | (refine Go.gf rfl ?_) | (with_reducible refine Go.join ?_) | (refine Go.lt' rfl ?_) | (refine Go.lf' rfl ?_) | ((with_reducible refine Go.bool ?_ ?_) <;> intro hc <;> (try simp only [List.length_map, ne_eq, hcs] at hc) <;> try (exfalso; omega)) | ((with_reducible refine Res.eq ?_ ?_); (· exact aFit)))
    exact rfl
set_option maxHeartbeats 2000000 in
theorem tso_pure (x : Exec) (hx : x.Wf) : Pure Try.prog 16 [x.av] (fun r => r = .tup [bl (tsoB x), i64 (errN x)]) := by
  refine Go.pure Try.func16 nm16 low16 res16 nt16 rfl ?_
  have hck := coherent_pure x hx
  cases hok : okB x with
  | true =>
    have h := fine_of hx hok
    have e2 : errN x = 0 := by simp [errN, hok]
    rw [e2] at hck ⊢
    cases hco : cohB x with
    | true =>
      have e : tsoB x = !ringB x.events.length (arrM x (tsoF x)) := by simp [tsoB, hok, hco]
      rw [hco] at hck
      rw [e]
      repeat' (first | ((with_reducible refine Go.red ?_); conv => whnf) | with_reducible (first | refine Go.and ?_ ?_ | exact True.intro | refine Go.far ?_ | exact Go.askRep | refine Go.unroll ?_ | refine Go.drawn ?_) | ((with_reducible refine Apt.mk ?_); (try dsimp only); omega) | ((with_reducible refine Ask.mk ?_); first | exact aAsk | exact aAsk2) | ((with_reducible refine Go.ari64 ?_ ?_ ?_); (· exact aBnd); (· exact aBnd)) | ((with_reducible refine Go.ariu8 ?_ ?_ ?_); (· exact aBnd); (· exact aBnd)) | (with_reducible refine Go.ari0 ?_) | (apply Go.elem; (· exact aElem)) | (apply Go.row; (· exact aRow)) | (apply Go.map; (· exact aRow)) | (apply Go.gives; (· exact aGives)) | (apply Go.gives; (· exact aRes)) | ((with_reducible refine Go.callW (hck) ?_ ?_); (· exact aFit)) | ((with_reducible refine Go.callJ (fun _ => hck) ?_ ?_); (· exact aFit)) | ((with_reducible refine Go.callE (hck) ?_ ?_); (· exact aFit)) | ((with_reducible refine Go.callF (fun _ => hck) ?_ ?_); (· exact aFit)) | ((refine Go.lookW ((free_v x h 37 (tsoF x) (fun k a b _ ha hb => tsof_pure x k a b ha hb) 0 _ _ _ .any aNx aRow)) ?_ ?_); (· exact True.intro)) | ((refine Go.lookJ (fun _ => (free_v x h 37 (tsoF x) (fun k a b _ ha hb => tsof_pure x k a b ha hb) 0 _ _ _ .any aNx aRow)) ?_ ?_); (· exact True.intro)) | (refine Go.gt rfl ?_) | (refine Go.gf rfl ?_) | (with_reducible refine Go.join ?_) | (refine Go.lt' rfl ?_) | (refine Go.lf' rfl ?_) | ((with_reducible refine Go.bool ?_ ?_) <;> intro hc <;> (try simp only [List.length_map, ne_eq, hcs] at hc) <;> try (exfalso; omega)) | ((with_reducible refine Res.eq ?_ ?_); (· exact aFit)))
      exact rfl
    | false =>
      have e : tsoB x = false := by simp [tsoB, hco]
      rw [hco] at hck
      rw [e]
      repeat' (first | ((with_reducible refine Go.red ?_); conv => whnf) | with_reducible (first | refine Go.and ?_ ?_ | exact True.intro | refine Go.far ?_ | exact Go.askRep | refine Go.unroll ?_ | refine Go.drawn ?_) | ((with_reducible refine Apt.mk ?_); (try dsimp only); omega) | ((with_reducible refine Ask.mk ?_); first | exact aAsk | exact aAsk2) | ((with_reducible refine Go.ari64 ?_ ?_ ?_); (· exact aBnd); (· exact aBnd)) | ((with_reducible refine Go.ariu8 ?_ ?_ ?_); (· exact aBnd); (· exact aBnd)) | (with_reducible refine Go.ari0 ?_) | (apply Go.elem; (· exact aElem)) | (apply Go.row; (· exact aRow)) | (apply Go.map; (· exact aRow)) | (apply Go.gives; (· exact aGives)) | (apply Go.gives; (· exact aRes)) | ((with_reducible refine Go.callW (hck) ?_ ?_); (· exact aFit)) | ((with_reducible refine Go.callJ (fun _ => hck) ?_ ?_); (· exact aFit)) | ((with_reducible refine Go.callE (hck) ?_ ?_); (· exact aFit)) | ((with_reducible refine Go.callF (fun _ => hck) ?_ ?_); (· exact aFit)) | (refine Go.gt rfl ?_) | (refine Go.gf rfl ?_) | (with_reducible refine Go.join ?_) | (refine Go.lt' rfl ?_) | (refine Go.lf' rfl ?_) | ((with_reducible refine Go.bool ?_ ?_) <;> intro hc <;> (try simp only [List.length_map, ne_eq, hcs] at hc) <;> try (exfalso; omega)) | ((with_reducible refine Res.eq ?_ ?_); (· exact aFit)))
      exact rfl
  | false =>
    have e : tsoB x = false := by simp [tsoB, hok]
    have e2 : errN x = 220 := by simp [errN, hok]
    rw [e2] at hck ⊢
    rw [e]
    repeat' (first | ((with_reducible refine Go.red ?_); conv => whnf) | with_reducible (first | refine Go.and ?_ ?_ | exact True.intro | refine Go.far ?_ | exact Go.askRep | refine Go.unroll ?_ | refine Go.drawn ?_) | ((with_reducible refine Apt.mk ?_); (try dsimp only); omega) | ((with_reducible refine Ask.mk ?_); first | exact aAsk | exact aAsk2) | ((with_reducible refine Go.ari64 ?_ ?_ ?_); (· exact aBnd); (· exact aBnd)) | ((with_reducible refine Go.ariu8 ?_ ?_ ?_); (· exact aBnd); (· exact aBnd)) | (with_reducible refine Go.ari0 ?_) | (apply Go.elem; (· exact aElem)) | (apply Go.row; (· exact aRow)) | (apply Go.map; (· exact aRow)) | (apply Go.gives; (· exact aGives)) | (apply Go.gives; (· exact aRes)) | ((with_reducible refine Go.callW (hck) ?_ ?_); (· exact aFit)) | ((with_reducible refine Go.callJ (fun _ => hck) ?_ ?_); (· exact aFit)) | ((with_reducible refine Go.callE (hck) ?_ ?_); (· exact aFit)) | ((with_reducible refine Go.callF (fun _ => hck) ?_ ?_); (· exact aFit)) | (refine Go.gt rfl ?_) | (refine Go.gf rfl ?_) | (with_reducible refine Go.join ?_) | (refine Go.lt' rfl ?_) | (refine Go.lf' rfl ?_) | ((with_reducible refine Go.bool ?_ ?_) <;> intro hc <;> (try simp only [List.length_map, ne_eq, hcs] at hc) <;> try (exfalso; omega)) | ((with_reducible refine Res.eq ?_ ?_); (· exact aFit)))
    exact rfl
end Go.Proofs.Ytncllkpekbapjaa
