/- An event by itself, and what it saw. -/
import Derived.Test.YtncllkpekbapjaaOa
namespace Go.Proofs.Ytncllkpekbapjaa
open Go Go.Abs Go.Proofs
set_option linter.unusedSimpArgs false
set_option linter.unusedVariables false
def evOk (n : Nat) (d : Deed) : Bool := decide (d.kind ≠ 0) && decide (d.kind < 5) && decide (0 ≤ d.thread) && decide (d.thread < 8) && decide (d.rd = true ∨ d.saw = 0) && decide (d.wr = true ∨ d.put = 0) &&
  (if d.kind = 4 then decide (d.thing = 0) else decide (0 ≤ d.thing) && decide (d.thing < n))
def frOk (x : Exec) (i : Nat) : Bool :=
  if (x.ev i).rd = true then (if x.fr i = -1 then decide ((x.ev i).saw = x.fst (x.ev i).thing.toNat)
    else decide (0 ≤ x.fr i) && decide (x.fr i < x.events.length) && decide (x.fr i ≠ i) && (x.ev (x.fr i).toNat).wr && decide ((x.ev (x.fr i).toNat).thing = (x.ev i).thing) && decide ((x.ev (x.fr i).toNat).put = (x.ev i).saw))
  else decide (x.fr i = -1)
theorem getD_mapd {α β : Type} (f : α → β) (l : List α) (i : Nat) (a : α) : (l.map f).getD i (f a) = f (l.getD i a) := by
  simp only [List.getD, List.getElem?_map]
  cases l[i]? <;> rfl
theorem ev_get {x : Exec} {i : Nat} : (x.events.map Deed.av).getD i (Deed.av default) = (x.ev i).av := getD_mapd _ _ _ _
theorem int_get {l : List Int} {i : Nat} : (l.map i64).getD i (i64 0) = i64 (l.getD i 0) := getD_mapd i64 _ _ _
theorem lst_get {l : List (List Int)} {i : Nat} : (l.map imI).getD i (imI []) = imI (l.getD i []) := getD_mapd imI _ _ _
theorem bl_eq {a b : Bool} (h : a = b) : AV.sc (.bool a) = bl b := by rw [h]
theorem def_int : (default : Int) = 0 := rfl
theorem ev_fold (x : Exec) (k : Nat) : x.events.getD k default = x.ev k := rfl
theorem fr_fold (x : Exec) (k : Nat) : x.frm.getD k 0 = x.fr k := rfl
theorem fst_fold (x : Exec) (k : Nat) : x.first.getD k 0 = x.fst k := rfl
theorem rd_kind {d : Deed} : d.rd = true ↔ d.kind = 1 ∨ d.kind = 3 := by simp [Deed.rd]
theorem wr_kind {d : Deed} : d.wr = true ↔ d.kind = 2 ∨ d.kind = 3 := by simp [Deed.wr]
set_option maxHeartbeats 2000000 in
theorem deed_pure (x : Exec) (i : Nat) (hi : i < x.events.length) (hf : i < x.frm.length) : Pure Try.prog 28 [x.av, i64 i] (fun r => r = bl (evOk x.first.length (x.ev i) && frOk x i)) := by
  refine Go.pure Try.func28 nm28 low28 res28 nt28 rfl ?_
  repeat' (first | ((with_reducible refine Go.red ?_); conv => whnf) | with_reducible (first | refine Go.and ?_ ?_ | exact True.intro | refine Go.far ?_ | exact Go.askRep | refine Go.unroll ?_ | refine Go.drawn ?_) | ((with_reducible refine Apt.mk ?_); (try dsimp only); omega) | ((with_reducible refine Ask.mk ?_); first | exact aAsk | exact aAsk2 | (intro h; simp_all [Exec.cells, Deed.cells] <;> fail) | (simp_all [Exec.cells, Deed.cells] <;> fail)) | ((with_reducible refine Go.ari64 ?_ ?_ ?_); (· exact aBnd); (· exact aBnd)) | ((with_reducible refine Go.ariu8 ?_ ?_ ?_); (· exact aBnd); (· exact aBnd)) | (with_reducible refine Go.ari0 ?_) | (apply Go.elem; (· (first | exact ev_get | exact int_get | exact aElem))) | (apply Go.row; (· exact aRow)) | (apply Go.map; (· exact aRow)) | (apply Go.gives; (· exact aGives)) | (apply Go.gives; (· exact aRes)) | ((with_reducible refine Go.callW (reads_pure _) ?_ ?_); (· exact aFit)) | ((with_reducible refine Go.callJ (fun _ => reads_pure _) ?_ ?_); (· exact aFit)) | ((with_reducible refine Go.callE (reads_pure _) ?_ ?_); (· exact aFit)) | ((with_reducible refine Go.callF (fun _ => reads_pure _) ?_ ?_); (· exact aFit)) | ((with_reducible refine Go.callW (writes_pure _) ?_ ?_); (· exact aFit)) | ((with_reducible refine Go.callJ (fun _ => writes_pure _) ?_ ?_); (· exact aFit)) | ((with_reducible refine Go.callE (writes_pure _) ?_ ?_); (· exact aFit)) | ((with_reducible refine Go.callF (fun _ => writes_pure _) ?_ ?_); (· exact aFit)) | (refine Go.gt rfl ?_) | (refine Go.gf rfl ?_) | (with_reducible refine Go.join ?_) | (refine Go.lt' rfl ?_) | (refine Go.lf' rfl ?_) | ((with_reducible refine Go.bool ?_ ?_) <;> intro hc <;> (try simp only [List.length_map, ne_eq, hcs] at hc) <;> try (exfalso; omega)) | ((with_reducible refine Res.eq ?_ ?_); (· exact aFit)))
  all_goals
    refine bl_eq ?_
    have hr := @rd_kind (x.ev i)
    have hw := @wr_kind (x.ev i)
    rw [Bool.eq_iff_iff]
    simp only [evOk, frOk, ev_fold, fr_fold, fst_fold, Int.toNat_natCast, def_int, Bool.and_eq_true, decide_eq_true_eq, Bool.ite_eq_true_distrib, Bool.false_eq_true] at *
    grind
end Go.Proofs.Ytncllkpekbapjaa
