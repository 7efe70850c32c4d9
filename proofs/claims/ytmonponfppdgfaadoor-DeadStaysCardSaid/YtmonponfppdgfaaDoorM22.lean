import Derived.Test.YtmonponfppdgfaaDoorM21
import Derived.Test.YtmonponfppdgfaaDoorM20
section
/- Are names and numbers right? -/
namespace Go.Proofs.YtmonponfppdgfaaDoor
open Go Go.Abs Go.Proofs
set_option linter.unusedSimpArgs false
set_option linter.unusedVariables false
abbrev mapS (E : List (ByteArray × Bool)) : List AV := mapE (fun s : ByteArray => Value.string s) bl E
theorem getS (E : List (ByteArray × Bool)) (t : ByteArray) : mget true (.string t) (mapS E) (bl false) = some (bl ((lookE E t).getD false), (lookE E t).isSome) := (mget_E keyStr bl t E (bl false)).trans (by cases lookE E t <;> rfl)
theorem putS (E : List (ByteArray × Bool)) (t : ByteArray) (v : Bool) : mput true (.string t) (mapS E) (bl v) = some (mapS (putE E t v)) := mput_E keyStr bl t v E
def seenE (l : List ByteArray) : List (ByteArray × Bool) := l.map fun s => (s, true)
def memS : List ByteArray → ByteArray → Bool
  | [], _ => false
  | a :: l, s => if s = a then true else memS l s
theorem seen_look (l : List ByteArray) (s : ByteArray) : (lookE (seenE l) s).getD false = memS l s := by
  induction l with
  | nil => rfl
  | cons a l ih =>
    show ((if s = a then some true else lookE (seenE l) s)).getD false = (if s = a then true else memS l s)
    by_cases h : s = a
    · rw [if_pos h, if_pos h]; rfl
    · rw [if_neg h, if_neg h, ih]
theorem seen_put (l : List ByteArray) (s : ByteArray) (h : memS l s = false) : putE (seenE l) s true = seenE (l ++ [s]) := by
  induction l with
  | nil => rfl
  | cons a l ih =>
    rw [memS] at h
    by_cases e : s = a
    · rw [if_pos e] at h; cases h
    · rw [if_neg e] at h
      show (if s = a then (s, true) :: seenE l else (a, true) :: putE (seenE l) s true) = _
      rw [if_neg e, ih h]; rfl
theorem add_call (s : ByteArray) (hs : s.size ≤ 140737488351232) (l : List ByteArray) (b m : Nat) (H : Hp) (nx : Nat) (e em : TypeId) (d dm : AV) (hb : getH H b = some (.row e 1 d [.mp m])) (hm : getH H m = some (.row em 0 dm (mapA (mapS (seenE l))))) (hbn : b < nx) (hmn : m < nx) (hbm : b ≠ m) :
    CallN Tryd.prog 53 [st s, .pt b 1 0 0] H nx (fun r H' n => r = bl (nameB s && !memS l s) ∧ nx ≤ n ∧ (memS l s = false → getH H' m = some (.row em 0 dm (mapA (mapS (seenE (l ++ [s])))))) ∧ ∀ y, y < nx → y ≠ m → getH H' y = getH H y) := by
  refine Go.fnL lf53 rfl ?_
  repeat' (first | ((with_reducible refine Go.red ?_); conv => whnf) | refine aG ?_ | exact aC | with_reducible refine Go.and ?_ ?_ | (apply Go.elem; (· exact aElem)) | refine aK (name_pure s hs) ?_ | (apply Go.givesG (g := some _); (· exact fun _ => getS _ _)) | (apply Go.givesG (g := none); (· exact fun _ => putS _ _ _)) | refine aH ?_ | ((with_reducible refine Go.bool ?_ ?_) <;> intro hc <;> (try simp only [List.length_map, ne_eq, hcs] at hc) <;> try (exfalso; omega)))
  refine ⟨⟨?_, aNx, fun h => ?_, fun y hy hym => ?_⟩⟩
  · rw [seen_look]
    refine bl_eq ?_
    cases nameB s <;> cases memS l s <;> rfl
  · rw [← seen_put l s h]
    exact aRow
  · exact aSkip
def addAll : List ByteArray → List ByteArray → Bool
  | _, [] => true
  | acc, s :: r => if (nameB s && !memS acc s) = true then addAll (acc ++ [s]) r else false
def namesU (u : UnitS) : List ByteArray := u.shared.map Decl.name ++ (u.locks.map Decl.name ++ u.graphs.map Graph.name)
def namedB (u : UnitS) : Bool := decide (u.shared.length ≤ 64) && decide (u.locks.length ≤ 16) && decide (u.graphs.length ≤ 8) && addAll [] (namesU u) && u.locks.all (fun d => decide (d.word = 0))
theorem addAll_next (u : UnitS) {k : Nat} (hk : k < (namesU u).length) (h : addAll ((namesU u).take k) ((namesU u).drop k) = addAll [] (namesU u)) {s : ByteArray} (hs : (namesU u).getD k default = s) :
    (addAll [] (namesU u) = if (nameB s && !memS ((namesU u).take k) s) = true then addAll ((namesU u).take (k + 1)) ((namesU u).drop (k + 1)) else false) ∧ (namesU u).take (k + 1) = (namesU u).take k ++ [s] := by
  have e : (namesU u)[k] = s := by rw [← hs]; simp [List.getD, hk]
  have e2 : (namesU u).take (k + 1) = (namesU u).take k ++ [s] := by rw [List.take_succ_eq_append_getElem hk, e]
  refine ⟨?_, e2⟩
  rw [← h, List.drop_eq_getElem_cons hk, addAll, e, e2]
theorem name_sh (u : UnitS) {i : Nat} (h : i < u.shared.length) : (namesU u).getD i default = (u.shared.getD i default).name := by
  simp [namesU, List.getD, List.getElem?_append, h]
theorem name_lk (u : UnitS) {i : Nat} (h : i < u.locks.length) : (namesU u).getD (u.shared.length + i) default = (u.locks.getD i default).name := by
  unfold namesU
  rw [List.getD, List.getElem?_append_right (by simp), List.length_map, Nat.add_sub_cancel_left, List.getElem?_append_left (by simpa using h)]
  simp [List.getD, h]
theorem name_gr (u : UnitS) {i : Nat} (h : i < u.graphs.length) : (namesU u).getD (u.shared.length + u.locks.length + i) default = (u.graphs.getD i default).name := by
  unfold namesU
  rw [List.getD, List.getElem?_append_right (by simp; omega), List.getElem?_append_right (by simp; omega)]
  simp only [List.length_map]
  rw [show u.shared.length + u.locks.length + i - u.shared.length - u.locks.length = i by omega]
  simp [List.getD, h]
set_option maxHeartbeats 4000000 in
theorem named_pure (u : UnitS) (hu : u.Wf) : Pure Tryd.prog 34 [u.av] (fun r => r = bl (namedB u)) := by
  refine Go.pureL lf34 rfl ?_
  have h1 := hu.sharedlen
  have h2 := hu.lockslen
  have h3 := hu.graphslen
  by_cases hl : u.shared.length ≤ 64 ∧ u.locks.length ≤ 16 ∧ u.graphs.length ≤ 8
  · repeat' (first | ((with_reducible refine Go.red ?_); conv => whnf) | refine aG ?_ | exact aCn | with_reducible refine Go.and ?_ ?_ | ((with_reducible refine Ask.mk ?_); first | exact aAsk | exact aAsk2 | (intro h; simp_all [UnitS.cells] <;> fail) | (simp_all [UnitS.cells] <;> fail)) | (apply Go.elem; (· exact aElem)) | refine aH ?_ | ((with_reducible refine Go.bool ?_ ?_) <;> intro hc <;> (try simp only [List.length_map, ne_eq, hcs] at hc) <;> try (exfalso; omega)))
    clear hc
    simp only [List.length_map]
    refine Go.loop (fun i : Nat => [(1, .pt 0 1 0 0), (4, .fn (.func 53) [] [.pt 19 1 0 0]), (30, declsAv u.shared), (31, i64 u.shared.length), (32, i64 i)]) (fun i H n => i ≤ u.shared.length ∧ 20 ≤ n ∧ (∃ d, getH H 0 = some (.row 25 3 d [u.av])) ∧ (∃ d, getH H 19 = some (.row 105 1 d [.mp 18])) ∧ (∃ d, getH H 18 = some (.row 9 0 d (mapA (mapS (seenE ((namesU u).take (i))))))) ∧ addAll ((namesU u).take (i)) ((namesU u).drop (i)) = addAll [] (namesU u)) (fun i => u.shared.length - i) 0 aLess ⟨Nat.zero_le _, aNx, ⟨_, aRow⟩, ⟨_, aRow⟩, ⟨_, aRow⟩, rfl⟩ ?_
    rintro i H n ⟨hi, hn, ⟨d0, r0⟩, ⟨d19, r19⟩, ⟨d18, r18⟩, hq⟩
    by_cases hil : i < u.shared.length
    · have hk : i < (namesU u).length := by simp only [namesU, List.length_append, List.length_map]; omega
      have hs : (namesU u).getD (i) default = (u.shared.getD i default).name := name_sh u hil
      obtain ⟨ha, ht⟩ := addAll_next u hk hq hs
      have hsz := (hu.shared _ (getD_mem' default hil)).name
      repeat' (first | ((with_reducible refine Go.red ?_); conv => whnf) | refine aG ?_ | exact aCn | with_reducible refine Go.and ?_ ?_ | ((with_reducible refine Ask.mk ?_); first | exact aAsk | exact aAsk2 | (intro h; simp_all [UnitS.cells, Decl.cells] <;> fail) | (simp_all [UnitS.cells, Decl.cells] <;> fail)) | (apply Go.elem; (· (first | exact dc_get | exact aElem))) | refine aH ?_ | ((with_reducible refine Go.bool ?_ ?_) <;> intro hc <;> (try simp only [List.length_map, ne_eq, hcs] at hc) <;> try (exfalso; omega)))
      refine Go.callN (add_call _ hsz ((namesU u).take (i)) 19 18 _ _ _ _ _ _ aRow aRow aNx aNx (by decide)) ?_
      rintro _ H2 n2 ⟨rfl, hn2, hput, hf⟩
      have hn12 : n ≤ n2 := Nat.le_trans aNx hn2
      have r02 : getH H2 0 = some (.row 25 3 d0 [u.av]) := (hf 0 (Nat.lt_of_lt_of_le (by omega : 0 < n) aNx) (by decide)).trans aRow
      have r192 : getH H2 19 = some (.row 105 1 d19 [.mp 18]) := (hf 19 (Nat.lt_of_lt_of_le (by omega : 19 < n) aNx) (by decide)).trans aRow
      cases hg : (nameB (u.shared.getD i default).name && !memS ((namesU u).take (i)) (u.shared.getD i default).name) with
      | false =>
        rw [hg, if_neg (by decide)] at ha
        have hb : namedB u = false := by unfold namedB; rw [ha]; simp
        rw [hb]
        repeat' (first | ((with_reducible refine Go.red ?_); conv => whnf) | refine aG ?_ | exact aCn | with_reducible refine Go.and ?_ ?_ | ((with_reducible refine Ask.mk ?_); first | exact aAsk | exact aAsk2 | (intro h; simp_all [UnitS.cells, Decl.cells] <;> fail) | (simp_all [UnitS.cells, Decl.cells] <;> fail)) | (apply Go.elem; (· exact aElem)) | refine aH ?_ | ((with_reducible refine Go.bool ?_ ?_) <;> intro hc <;> (try simp only [List.length_map, ne_eq, hcs] at hc) <;> try (exfalso; omega)))
        exact rfl
      | true =>
        rw [hg, if_pos rfl] at ha
        have hnm : memS ((namesU u).take (i)) (u.shared.getD i default).name = false := by revert hg; cases memS ((namesU u).take (i)) (u.shared.getD i default).name <;> simp
        have r182 := hput hnm
        rw [← ht] at r182
        clear hf hput
        repeat' (first | ((with_reducible refine Go.red ?_); conv => whnf) | refine aG ?_ | exact aCn | with_reducible refine Go.and ?_ ?_ | ((with_reducible refine Ask.mk ?_); first | exact aAsk | exact aAsk2 | (intro h; simp_all [UnitS.cells, Decl.cells] <;> fail) | (simp_all [UnitS.cells, Decl.cells] <;> fail)) | (apply Go.elem; (· exact aElem)) | refine aH ?_ | ((with_reducible refine Go.bool ?_ ?_) <;> intro hc <;> (try simp only [List.length_map, ne_eq, hcs] at hc) <;> try (exfalso; omega)))
        exact ⟨i + 1, by omega, aLess, by omega, by omega, ⟨_, aRow⟩, ⟨_, aRow⟩, ⟨_, aRow⟩, ha.symm⟩
    · have hie : i = u.shared.length := by omega
      subst hie
      repeat' (first | ((with_reducible refine Go.red ?_); conv => whnf) | refine aG ?_ | exact aCn | with_reducible refine Go.and ?_ ?_ | ((with_reducible refine Ask.mk ?_); first | exact aAsk | exact aAsk2 | (intro h; simp_all [UnitS.cells] <;> fail) | (simp_all [UnitS.cells] <;> fail)) | (apply Go.elem; (· exact aElem)) | refine aH ?_ | ((with_reducible refine Go.bool ?_ ?_) <;> intro hc <;> (try simp only [List.length_map, ne_eq, hcs] at hc) <;> try (exfalso; omega)))
      refine Go.loop (fun i : Nat => [(1, .pt 0 1 0 0), (4, .fn (.func 53) [] [.pt 19 1 0 0]), (43, declsAv u.locks), (44, i64 u.locks.length), (45, i64 i)]) (fun i H n => i ≤ u.locks.length ∧ 20 ≤ n ∧ (∃ d, getH H 0 = some (.row 25 3 d [u.av])) ∧ (∃ d, getH H 19 = some (.row 105 1 d [.mp 18])) ∧ (∃ d, getH H 18 = some (.row 9 0 d (mapA (mapS (seenE ((namesU u).take (u.shared.length + i))))))) ∧ addAll ((namesU u).take (u.shared.length + i)) ((namesU u).drop (u.shared.length + i)) = addAll [] (namesU u) ∧ ∀ j, j < i → (u.locks.getD j default).word = 0) (fun i => u.locks.length - i) 0 aLess ⟨Nat.zero_le _, aNx, ⟨_, aRow⟩, ⟨_, aRow⟩, ⟨_, by rw [Nat.add_zero]; exact aRow⟩, by rw [Nat.add_zero]; exact hq, fun _ h => by omega⟩ ?_
      clear r0 r19 r18 hq hc
      rintro i H n ⟨hi, hn, ⟨d0, r0⟩, ⟨d19, r19⟩, ⟨d18, r18⟩, hq, hw⟩
      by_cases hil : i < u.locks.length
      · have hk : u.shared.length + i < (namesU u).length := by simp only [namesU, List.length_append, List.length_map]; omega
        have hs : (namesU u).getD (u.shared.length + i) default = (u.locks.getD i default).name := name_lk u hil
        obtain ⟨ha, ht⟩ := addAll_next u hk hq hs
        have hsz := (hu.locks _ (getD_mem' default hil)).name
        repeat' (first | ((with_reducible refine Go.red ?_); conv => whnf) | refine aG ?_ | exact aCn | with_reducible refine Go.and ?_ ?_ | ((with_reducible refine Ask.mk ?_); first | exact aAsk | exact aAsk2 | (intro h; simp_all [UnitS.cells, Decl.cells] <;> fail) | (simp_all [UnitS.cells, Decl.cells] <;> fail)) | (apply Go.elem; (· (first | exact dc_get | exact aElem))) | refine aH ?_ | ((with_reducible refine Go.bool ?_ ?_) <;> intro hc <;> (try simp only [List.length_map, ne_eq, hcs] at hc) <;> try (exfalso; omega)))
        refine Go.callN (add_call _ hsz ((namesU u).take (u.shared.length + i)) 19 18 _ _ _ _ _ _ aRow aRow aNx aNx (by decide)) ?_
        rintro _ H2 n2 ⟨rfl, hn2, hput, hf⟩
        have hn12 : n ≤ n2 := Nat.le_trans aNx hn2
        have r02 : getH H2 0 = some (.row 25 3 d0 [u.av]) := (hf 0 (Nat.lt_of_lt_of_le (by omega : 0 < n) aNx) (by decide)).trans aRow
        have r192 : getH H2 19 = some (.row 105 1 d19 [.mp 18]) := (hf 19 (Nat.lt_of_lt_of_le (by omega : 19 < n) aNx) (by decide)).trans aRow
        cases hg : (nameB (u.locks.getD i default).name && !memS ((namesU u).take (u.shared.length + i)) (u.locks.getD i default).name) with
        | false =>
          rw [hg, if_neg (by decide)] at ha
          have hb : namedB u = false := by unfold namedB; rw [ha]; simp
          rw [hb]
          clear hf hput
          repeat' (first | ((with_reducible refine Go.red ?_); conv => whnf) | refine aG ?_ | exact aCn | with_reducible refine Go.and ?_ ?_ | ((with_reducible refine Ask.mk ?_); first | exact aAsk | exact aAsk2 | (intro h; simp_all [UnitS.cells, Decl.cells] <;> fail) | (simp_all [UnitS.cells, Decl.cells] <;> fail)) | (apply Go.elem; (· exact aElem)) | refine aH ?_ | ((with_reducible refine Go.bool ?_ ?_) <;> intro hc <;> (try simp only [List.length_map, ne_eq, hcs] at hc) <;> try (exfalso; omega)))
          exact rfl
        | true =>
          rw [hg, if_pos rfl] at ha
          have hnm : memS ((namesU u).take (u.shared.length + i)) (u.locks.getD i default).name = false := by revert hg; cases memS ((namesU u).take (u.shared.length + i)) (u.locks.getD i default).name <;> simp
          have r182 := hput hnm
          rw [← ht] at r182
          obtain ⟨d4, r4⟩ : ∃ d, getH H2 (n + 3) = some (.row 65 3 d [(u.locks.getD i default).av]) := ⟨_, (hf (n + 3) aNx (by omega)).trans aRow⟩
          clear hf hput
          repeat' (first | ((with_reducible refine Go.red ?_); conv => whnf) | refine aG ?_ | exact aCn | with_reducible refine Go.and ?_ ?_ | ((with_reducible refine Ask.mk ?_); first | exact aAsk | exact aAsk2 | (intro h; simp_all [UnitS.cells, Decl.cells] <;> fail) | (simp_all [UnitS.cells, Decl.cells] <;> fail)) | (apply Go.elem; (· exact aElem)) | refine aH ?_ | ((with_reducible refine Go.bool ?_ ?_) <;> intro hc <;> (try simp only [List.length_map, ne_eq, hcs] at hc) <;> try (exfalso; omega)))
          · have hb : namedB u = false := by
              unfold namedB
              rw [Bool.and_eq_false_iff]
              right
              rw [Bool.eq_false_iff, ne_eq, List.all_eq_true]
              exact fun h => (hc.resolve_left (by decide)) (of_decide_eq_true (h _ (getD_mem' default hil)))
            rw [hb]
          · exact ⟨i + 1, by omega, aLess, by omega, by omega, ⟨_, aRow⟩, ⟨_, aRow⟩, ⟨_, aRow⟩, ha.symm, fun j hj => by
              by_cases hji : j = i
              · rw [hji]; exact hc.2
              · exact hw j (by omega)⟩
      · have hie : i = u.locks.length := by omega
        subst hie
        repeat' (first | ((with_reducible refine Go.red ?_); conv => whnf) | refine aG ?_ | exact aCn | with_reducible refine Go.and ?_ ?_ | ((with_reducible refine Ask.mk ?_); first | exact aAsk | exact aAsk2 | (intro h; simp_all [UnitS.cells] <;> fail) | (simp_all [UnitS.cells] <;> fail)) | (apply Go.elem; (· exact aElem)) | refine aH ?_ | ((with_reducible refine Go.bool ?_ ?_) <;> intro hc <;> (try simp only [List.length_map, ne_eq, hcs] at hc) <;> try (exfalso; omega)))
        refine Go.loop (fun i : Nat => [(1, .pt 0 1 0 0), (4, .fn (.func 53) [] [.pt 19 1 0 0]), (61, graphsAv u.graphs), (62, i64 u.graphs.length), (63, i64 i)]) (fun i H n => i ≤ u.graphs.length ∧ 20 ≤ n ∧ (∃ d, getH H 0 = some (.row 25 3 d [u.av])) ∧ (∃ d, getH H 19 = some (.row 105 1 d [.mp 18])) ∧ (∃ d, getH H 18 = some (.row 9 0 d (mapA (mapS (seenE ((namesU u).take (u.shared.length + u.locks.length + i))))))) ∧ addAll ((namesU u).take (u.shared.length + u.locks.length + i)) ((namesU u).drop (u.shared.length + u.locks.length + i)) = addAll [] (namesU u) ∧ ∀ j, j < u.locks.length → (u.locks.getD j default).word = 0) (fun i => u.graphs.length - i) 0 aLess ⟨Nat.zero_le _, aNx, ⟨_, aRow⟩, ⟨_, aRow⟩, ⟨_, by rw [Nat.add_zero]; exact aRow⟩, by rw [Nat.add_zero]; exact hq, hw⟩ ?_
        clear r0 r19 r18 hq hc hw
        rintro i H n ⟨hi, hn, ⟨d0, r0⟩, ⟨d19, r19⟩, ⟨d18, r18⟩, hq, hw⟩
        by_cases hil : i < u.graphs.length
        · have hk : u.shared.length + u.locks.length + i < (namesU u).length := by simp only [namesU, List.length_append, List.length_map]; omega
          have hs : (namesU u).getD (u.shared.length + u.locks.length + i) default = (u.graphs.getD i default).name := name_gr u hil
          obtain ⟨ha, ht⟩ := addAll_next u hk hq hs
          have hsz := (hu.graphs _ (getD_mem' default hil)).name
          repeat' (first | ((with_reducible refine Go.red ?_); conv => whnf) | refine aG ?_ | exact aCn | with_reducible refine Go.and ?_ ?_ | ((with_reducible refine Ask.mk ?_); first | exact aAsk | exact aAsk2 | (intro h; simp_all [UnitS.cells, Graph.cells] <;> fail) | (simp_all [UnitS.cells, Graph.cells] <;> fail)) | (apply Go.elem; (· (first | exact gr_get | exact aElem))) | refine aH ?_ | ((with_reducible refine Go.bool ?_ ?_) <;> intro hc <;> (try simp only [List.length_map, ne_eq, hcs] at hc) <;> try (exfalso; omega)))
          refine Go.callN (add_call _ hsz ((namesU u).take (u.shared.length + u.locks.length + i)) 19 18 _ _ _ _ _ _ aRow aRow aNx aNx (by decide)) ?_
          rintro _ H2 n2 ⟨rfl, hn2, hput, hf⟩
          have hn12 : n ≤ n2 := Nat.le_trans aNx hn2
          have r02 : getH H2 0 = some (.row 25 3 d0 [u.av]) := (hf 0 (Nat.lt_of_lt_of_le (by omega : 0 < n) aNx) (by decide)).trans aRow
          have r192 : getH H2 19 = some (.row 105 1 d19 [.mp 18]) := (hf 19 (Nat.lt_of_lt_of_le (by omega : 19 < n) aNx) (by decide)).trans aRow
          cases hg : (nameB (u.graphs.getD i default).name && !memS ((namesU u).take (u.shared.length + u.locks.length + i)) (u.graphs.getD i default).name) with
          | false =>
            rw [hg, if_neg (by decide)] at ha
            have hb : namedB u = false := by unfold namedB; rw [ha]; simp
            rw [hb]
            repeat' (first | ((with_reducible refine Go.red ?_); conv => whnf) | refine aG ?_ | exact aCn | with_reducible refine Go.and ?_ ?_ | ((with_reducible refine Ask.mk ?_); first | exact aAsk | exact aAsk2 | (intro h; simp_all [UnitS.cells, Graph.cells] <;> fail) | (simp_all [UnitS.cells, Graph.cells] <;> fail)) | (apply Go.elem; (· exact aElem)) | refine aH ?_ | ((with_reducible refine Go.bool ?_ ?_) <;> intro hc <;> (try simp only [List.length_map, ne_eq, hcs] at hc) <;> try (exfalso; omega)))
            exact rfl
          | true =>
            rw [hg, if_pos rfl] at ha
            have hnm : memS ((namesU u).take (u.shared.length + u.locks.length + i)) (u.graphs.getD i default).name = false := by revert hg; cases memS ((namesU u).take (u.shared.length + u.locks.length + i)) (u.graphs.getD i default).name <;> simp
            have r182 := hput hnm
            rw [← ht] at r182
            clear hf hput
            repeat' (first | ((with_reducible refine Go.red ?_); conv => whnf) | refine aG ?_ | exact aCn | with_reducible refine Go.and ?_ ?_ | ((with_reducible refine Ask.mk ?_); first | exact aAsk | exact aAsk2 | (intro h; simp_all [UnitS.cells, Graph.cells] <;> fail) | (simp_all [UnitS.cells, Graph.cells] <;> fail)) | (apply Go.elem; (· exact aElem)) | refine aH ?_ | ((with_reducible refine Go.bool ?_ ?_) <;> intro hc <;> (try simp only [List.length_map, ne_eq, hcs] at hc) <;> try (exfalso; omega)))
            exact ⟨i + 1, by omega, aLess, by omega, by omega, ⟨_, aRow⟩, ⟨_, aRow⟩, ⟨_, aRow⟩, ha.symm, hw⟩
        · have hie : i = u.graphs.length := by omega
          subst hie
          repeat' (first | ((with_reducible refine Go.red ?_); conv => whnf) | refine aG ?_ | exact aCn | with_reducible refine Go.and ?_ ?_ | ((with_reducible refine Ask.mk ?_); first | exact aAsk | exact aAsk2 | (intro h; simp_all [UnitS.cells] <;> fail) | (simp_all [UnitS.cells] <;> fail)) | (apply Go.elem; (· exact aElem)) | refine aH ?_ | ((with_reducible refine Go.bool ?_ ?_) <;> intro hc <;> (try simp only [List.length_map, ne_eq, hcs] at hc) <;> try (exfalso; omega)))
          refine bl_eq (Eq.symm ?_)
          have e : u.shared.length + u.locks.length + u.graphs.length = (namesU u).length := by simp only [namesU, List.length_append, List.length_map]; omega
          have hall : addAll [] (namesU u) = true := by
            rw [← hq, e, List.drop_eq_nil_of_le (Nat.le_refl _)]
            cases (namesU u).take (namesU u).length <;> rfl
          unfold namedB
          rw [decide_eq_true hl.1, decide_eq_true hl.2.1, decide_eq_true hl.2.2, hall]
          simp only [Bool.true_and]
          rw [List.all_eq_true]
          intro d hd
          obtain ⟨j, hj, rfl⟩ := List.getElem_of_mem hd
          have := hw j hj
          rw [show u.locks.getD j default = u.locks[j] by simp [List.getD, hj]] at this
          exact decide_eq_true this
  · have hb : namedB u = false := by
      unfold namedB
      by_cases a1 : u.shared.length ≤ 64
      · by_cases a2 : u.locks.length ≤ 16
        · rw [decide_eq_false (fun a3 => hl ⟨a1, a2, a3⟩ : ¬ u.graphs.length ≤ 8)]; simp
        · rw [decide_eq_false a2]; simp
      · rw [decide_eq_false a1]; simp
    rw [hb]
    repeat' (first | ((with_reducible refine Go.red ?_); conv => whnf) | refine aG ?_ | exact aCn | with_reducible refine Go.and ?_ ?_ | ((with_reducible refine Ask.mk ?_); first | exact aAsk | exact aAsk2 | (intro h; simp_all [UnitS.cells] <;> fail) | (simp_all [UnitS.cells] <;> fail)) | (apply Go.elem; (· exact aElem)) | refine aH ?_ | ((with_reducible refine Go.bool ?_ ?_) <;> intro hc <;> (try simp only [List.length_map, ne_eq, hcs] at hc) <;> try (exfalso; omega)))
    exact rfl
end Go.Proofs.YtmonponfppdgfaaDoor
end
section
/- What is so of right units, in plain data. -/
namespace Go.Proofs.YtmonponfppdgfaaDoor
open Go Go.Abs Go.Proofs
set_option linter.unusedSimpArgs false
set_option linter.unusedVariables false
def checkU (u : UnitS) : Int × Int × Int := if namedB u = true then graphsF u u.graphs 0 else (60, 0, 0)
structure NodeOk (u : UnitS) (g : Graph) (n : Node) : Prop where
  kind : 1 ≤ n.kind ∧ n.kind < 10
  origin : 0 ≤ n.origin ∧ n.origin < 4096
  op : (n.kind = 1 → n.op < 19) ∧ (n.kind ≠ 1 → n.op = 0)
  slot : (usesSlot n.kind = true → 0 ≤ n.slot ∧ n.slot < g.slots) ∧ (usesSlot n.kind = false → n.slot = 0)
  thing : (usesThing n.kind = true → 0 ≤ n.thing ∧ n.thing < (if n.kind = 5 ∨ n.kind = 6 then u.locks.length else u.shared.length : Nat)) ∧ (usesThing n.kind = false → n.thing = 0)
  a : valB n.a (usesA n.kind) g.slots = true
  b : valB n.b (decide (n.kind = 1) && operTwo n.op) g.slots = true
  next : (usesNext n.kind = true → 0 ≤ n.next ∧ n.next < g.nodes.length) ∧ (usesNext n.kind = false → n.next = 0)
  els : (n.kind = 8 → 0 ≤ n.els ∧ n.els < g.nodes.length) ∧ (n.kind ≠ 8 → n.els = 0)
theorem numB_iff {n most : Int} {b : Bool} : numB n b most = true ↔ (b = true → 0 ≤ n ∧ n < most) ∧ (b = false → n = 0) := by
  unfold numB
  cases b <;> simp
theorem nodeB_iff {u : UnitS} {g : Graph} {n : Node} : nodeB u g n = true ↔ NodeOk u g n := by
  unfold nodeB
  simp only [Bool.and_eq_true, decide_eq_true_eq, numB_iff, Bool.ite_eq_true_distrib]
  constructor
  · rintro ⟨⟨⟨⟨⟨⟨⟨⟨h1, h2, h3, h4⟩, h5⟩, h6⟩, h7⟩, h8⟩, h9⟩, h10⟩, h11⟩
    refine ⟨⟨h1, h2⟩, ⟨h3, h4⟩, ?_, h6, ?_, h8, h9, h10, ?_⟩
    · by_cases h : n.kind = 1
      · rw [if_pos h] at h5; exact ⟨fun _ => h5, fun e => absurd h e⟩
      · rw [if_neg h] at h5; exact ⟨fun e => absurd e h, fun _ => h5⟩
    · refine ⟨fun e => ?_, h7.2⟩
      have := h7.1 e
      split at this <;> rename_i hh
      · rw [if_pos hh]; exact this
      · rw [if_neg hh]; exact this
    · exact ⟨fun e => h11.1 (by simp [e]), fun e => h11.2 (by simp [e])⟩
  · intro h
    refine ⟨⟨⟨⟨⟨⟨⟨⟨h.kind.1, h.kind.2, h.origin.1, h.origin.2⟩, ?_⟩, h.slot⟩, ⟨fun e => ?_, h.thing.2⟩⟩, h.a⟩, h.b⟩, h.next⟩, ?_⟩
    · by_cases e : n.kind = 1
      · rw [if_pos e]; exact h.op.1 e
      · rw [if_neg e]; exact h.op.2 e
    · have := h.thing.1 e
      split at this <;> rename_i hh
      · rw [if_pos hh]; exact this
      · rw [if_neg hh]; exact this
    · exact ⟨fun e => h.els.1 (by simpa using e), fun e => h.els.2 (by simpa using e)⟩
theorem fstNot_none {α : Type} {p : α → Bool} : ∀ {l : List α} {i : Nat}, fstNot p l i = none ↔ ∀ x ∈ l, p x = true
  | [], i => by simp [fstNot]
  | x :: l, i => by
    rw [fstNot]
    by_cases h : p x = true
    · rw [if_pos h, fstNot_none]; simp [h]
    · rw [if_neg h]; simp [h]
structure GraphOk (u : UnitS) (g : Graph) : Prop where
  locals : 0 ≤ g.locals ∧ g.locals ≤ 64
  slots : g.locals ≤ g.slots ∧ g.slots ≤ 4160
  len : 1 ≤ g.nodes.length ∧ g.nodes.length ≤ 4096
  nodes : ∀ n ∈ g.nodes, NodeOk u g n
  held : (heldG g).2 < 0
theorem fol_ok {u : UnitS} {g : Graph} {n : Node} (h : NodeOk u g n) {k : Int} (hk : k ∈ n.fol) : 0 ≤ k ∧ k < g.nodes.length := by
  unfold Node.fol at hk
  have hkd := h.kind
  split at hk
  · simp at hk
  · rename_i h9
    have hn := h.next.1 (by unfold usesNext; exact decide_eq_true (by omega))
    split at hk
    · rename_i h8
      have he := h.els.1 h8
      simp only [List.mem_cons, List.not_mem_nil, or_false] at hk
      rcases hk with rfl | rfl
      · exact hn
      · exact he
    · simp only [List.mem_cons, List.not_mem_nil, or_false] at hk
      subst hk; exact hn
theorem whole_of {u : UnitS} {g : Graph} (hl : 1 ≤ g.nodes.length ∧ g.nodes.length ≤ 4096) (h : ∀ n ∈ g.nodes, NodeOk u g n) : Whole g :=
  ⟨hl.1, hl.2, fun i hi => by
    have hn := h _ (getD_mem' default hi)
    exact ⟨hn.kind.1, hn.kind.2, fun k hk => by have := fol_ok hn hk; omega⟩⟩
theorem GraphOk.whole {u : UnitS} {g : Graph} (h : GraphOk u g) : Whole g := whole_of h.len h.nodes
theorem GraphOk.node {u : UnitS} {g : Graph} (h : GraphOk u g) {i : Nat} (hi : i < g.nodes.length) : NodeOk u g (g.nd i) := h.nodes _ (getD_mem' default hi)
theorem graphF_none {u : UnitS} {g : Graph} : graphF u g = none ↔ GraphOk u g := by
  unfold graphF
  constructor
  · intro h
    split at h
    · cases h
    · rename_i h1
      cases hf : fstNot (nodeB u g) g.nodes 0 with
      | some i => rw [hf] at h; cases h
      | none =>
        rw [hf] at h
        simp only at h
        split at h
        · cases h
        · rename_i h2
          exact ⟨by omega, by omega, by omega, fun n hn => nodeB_iff.1 (fstNot_none.1 hf n hn), by omega⟩
  · intro h
    have h1 := h.locals
    have h2 := h.slots
    have h3 := h.len
    have h4 := h.held
    rw [if_neg (by omega), fstNot_none.2 fun n hn => nodeB_iff.2 (h.nodes n hn)]
    simp only
    rw [if_neg (by omega)]
theorem graphsF_ok {u : UnitS} : ∀ {l : List Graph} {t : Nat}, graphsF u l t = (0, 0, 0) ↔ ∀ g ∈ l, GraphOk u g
  | [], t => by simp [graphsF]
  | g :: r, t => by
    rw [graphsF]
    cases h : graphF u g with
    | some k =>
      have : ¬ GraphOk u g := fun e => by rw [graphF_none.2 e] at h; cases h
      simp [this]
    | none =>
      have := graphF_none.1 h
      simp [graphsF_ok, this]
theorem graphsF_bad {u : UnitS} : ∀ {l : List Graph} {t : Nat}, graphsF u l t ≠ (0, 0, 0) → (graphsF u l t).1 = 60
  | [], t, h => absurd rfl h
  | g :: r, t, h => by
    rw [graphsF] at h ⊢
    cases hg : graphF u g with
    | some k => rfl
    | none => rw [hg] at h; exact graphsF_bad h
structure RightU (u : UnitS) : Prop where
  named : namedB u = true
  graphs : ∀ g ∈ u.graphs, GraphOk u g
theorem checkU_ok {u : UnitS} : checkU u = (0, 0, 0) ↔ RightU u := by
  unfold checkU
  constructor
  · intro h
    split at h
    · rename_i hn; exact ⟨hn, graphsF_ok.1 h⟩
    · cases h
  · intro h; rw [if_pos h.named, graphsF_ok.2 h.graphs]
theorem checkU_bad {u : UnitS} (h : ¬ RightU u) : (checkU u).1 = 60 := by
  have h2 := mt checkU_ok.1 h
  unfold checkU at h2 ⊢
  split
  · rename_i hn; rw [if_pos hn] at h2; exact graphsF_bad h2
  · rfl
open Classical in
noncomputable def rightB (u : UnitS) : Bool := decide (RightU u)
open Classical in
theorem rightB_iff {u : UnitS} : rightB u = true ↔ RightU u := by unfold rightB; rw [decide_eq_true_eq]
theorem RightU.few {u : UnitS} (h : RightU u) : u.shared.length ≤ 64 ∧ u.locks.length ≤ 16 ∧ u.graphs.length ≤ 8 := by
  have := h.named
  unfold namedB at this
  simp only [Bool.and_eq_true, decide_eq_true_eq] at this
  exact ⟨this.1.1.1.1, this.1.1.1.2, this.1.1.2⟩
theorem RightU.gr {u : UnitS} (h : RightU u) {t : Nat} (ht : t < u.graphs.length) : GraphOk u (u.gr t) := h.graphs _ (getD_mem' default ht)
theorem lk_in {u : UnitS} {g : Graph} (hg : GraphOk u g) {lk : Nat → List Int} (hlk : LkOk g lk) : ∀ i : Int, Come g (-1) i → ∀ k ∈ lk i.toNat, 0 ≤ k ∧ k < u.locks.length := by
  have hw := hg.whole
  have hin : ∀ i : Int, Come g (-1) i → 0 ≤ i ∧ i.toNat < g.nodes.length := fun i hi => by
    induction hi with
    | zero => exact ⟨by omega, by have := hw.1; simp; omega⟩
    | @step i k _ _ hk ih =>
      exact (hw.2.2 i.toNat ih.2).2.2 k hk
  intro i hi
  induction hi with
  | zero => intro k hk; rw [show (0 : Int).toNat = 0 by rfl, hlk.zero] at hk; simp at hk
  | @step i j hi hc hj ih =>
    obtain ⟨now, h1, h2⟩ := hlk.on i hi
    have hn := hg.node (hin i hi).2
    rw [h2 j hj]
    intro k hk
    unfold heldNow at h1
    split at h1
    · rename_i h5
      cases h1
      rcases List.mem_append.1 hk with hk | hk
      · exact ih k hk
      · simp only [List.mem_cons, List.not_mem_nil, or_false] at hk
        subst hk
        have := hn.thing.1 (by unfold usesThing; exact decide_eq_true (by omega))
        rw [if_pos (.inl h5)] at this
        exact this
    · split at h1
      · split at h1
        · cases h1
          exact ih k (List.dropLast_subset _ hk)
        · cases h1
      · split at h1
        · split at h1
          · cases h1; exact ih k hk
          · cases h1
        · cases h1; exact ih k hk
theorem held_in {u : UnitS} {g : Graph} (hg : GraphOk u g) (i : Nat) : ∀ k ∈ (heldG g).1.getD i [], 0 ≤ k ∧ k < u.locks.length := by
  obtain ⟨h1, h2, h3, h4⟩ := heldG_ok hg.whole hg.held
  by_cases hi : i < g.nodes.length
  · by_cases hc : Come g (-1) i
    · exact lk_in hg h3 i hc
    · rw [h4 i hi hc]; intro k hk; simp at hk
  · rw [List.getD, List.getElem?_eq_none (by omega)]; intro k hk; simp at hk
theorem acc_in {u : UnitS} (hu : RightU u) {m : Nat} (hm : m ≤ u.graphs.length) : ∀ x ∈ accs u m, x.1 < m ∧ (∃ i, i < (u.gr x.1).nodes.length ∧ x.2.1 = (u.gr x.1).nd i) ∧ ∀ k ∈ x.2.2, 0 ≤ k ∧ k < u.locks.length := by
  intro x hx
  unfold accs at hx
  rw [List.mem_flatMap] at hx
  obtain ⟨t, ht, hx⟩ := hx
  have htl := List.mem_range.1 ht
  unfold accL at hx
  rw [List.mem_filterMap] at hx
  obtain ⟨i, hi, hx⟩ := hx
  unfold accG at hx
  split at hx
  · cases hx
    exact ⟨htl, ⟨i, List.mem_range.1 hi, rfl⟩, held_in (hu.gr (by omega)) i⟩
  · cases hx
theorem touch_in {u : UnitS} (hu : RightU u) (v : Int) : ∀ x ∈ touchL (accs u u.graphs.length) v, x.1 < 8 ∧ ∀ k ∈ x.2, 0 ≤ k ∧ k < u.locks.length := by
  intro x hx
  unfold touchL at hx
  rw [List.mem_map] at hx
  obtain ⟨y, hy, rfl⟩ := hx
  have := acc_in hu (Nat.le_refl _) y (List.mem_filter.1 hy).1
  have hf := hu.few
  exact ⟨by dsimp only; omega, this.2.2⟩
theorem class_eq {u : UnitS} (hu : RightU u) (v : Int) : classB ((lookE (usesE (accs u u.graphs.length)) v).getD (0, 0)) = classT u.locks.length (touchL (accs u u.graphs.length) v) := by
  rw [← classB_eq hu.few.2.1 (touch_in hu v), usesE_look]
  split <;> rfl
end Go.Proofs.YtmonponfppdgfaaDoor
end
section
/- What can be left out, in plain data. -/
namespace Go.Proofs.YtmonponfppdgfaaDoor
open Go Go.Abs Go.Proofs
set_option linter.unusedSimpArgs false
set_option linter.unusedVariables false
abbrev tf (l : List Bool) (i : Nat) : Bool := l.getD i false
theorem tf_lt {l : List Bool} {i : Nat} (h : tf l i = true) : i < l.length := by
  apply Classical.byContradiction
  intro hn
  unfold tf at h
  rw [List.getD, List.getElem?_eq_none (by omega)] at h
  cases h
theorem nodup_sub : ∀ {l m : List Nat}, l.Nodup → (∀ a ∈ l, a ∈ m) → l.length ≤ m.length
  | [], _, _, _ => Nat.zero_le _
  | a :: l, m, h, hs => by
    rw [List.nodup_cons] at h
    have h1 : a ∈ m := hs a (by simp)
    have := nodup_sub (m := m.erase a) h.2 fun x hx => by
      have hne : x ≠ a := fun e => h.1 (e ▸ hx)
      exact (List.mem_erase_of_ne hne).2 (hs x (by simp [hx]))
    rw [List.length_erase_of_mem h1] at this
    have := List.length_pos_of_mem h1
    simp only [List.length_cons]
    omega
abbrev nxt (g : Graph) (i : Nat) : Nat := (g.nd i).next.toNat
def iter (g : Graph) (i : Nat) : Nat → Nat
  | 0 => i
  | k + 1 => nxt g (iter g i k)
theorem iter_add (g : Graph) (i a : Nat) : ∀ b, iter g i (a + b) = iter g (iter g i a) b
  | 0 => rfl
  | b + 1 => by rw [← Nat.add_assoc, iter, iter, iter_add g i a b]
theorem iter_head (g : Graph) (i : Nat) (k : Nat) : iter g i (k + 1) = iter g (nxt g i) k := by
  rw [Nat.add_comm, iter_add]; rfl
def Ret (l : List Bool) (g : Graph) (i : Nat) : Prop := ∃ p, 1 ≤ p ∧ iter g i p = i ∧ ∀ q, q < p → tf l (iter g i q) = true
theorem iter_inj {g : Graph} {i p : Nat} (hp : iter g i p = i) (hmin : ∀ p', 1 ≤ p' → p' < p → iter g i p' ≠ i) {a b : Nat} (hab : a < b) (hb : b < p) : iter g i a ≠ iter g i b := by
  intro h
  refine hmin (a + (p - b)) (by omega) (by omega) ?_
  rw [iter_add, h, ← iter_add, show b + (p - b) = p by omega, hp]
theorem exists_min {P : Nat → Prop} (h : ∃ n, P n) : ∃ n, P n ∧ ∀ m, m < n → ¬ P m := by
  obtain ⟨n, hn⟩ := h
  induction n using Nat.strongRecOn with
  | _ n ih =>
    by_cases h : ∃ m, m < n ∧ P m
    · obtain ⟨m, h1, h2⟩ := h; exact ih m h1 h2
    · exact ⟨n, hn, fun m hm hp => h ⟨m, hm, hp⟩⟩
theorem nodup_iter {g : Graph} {i p : Nat} (h : ∀ a b, a < b → b < p → iter g i a ≠ iter g i b) : ((List.range p).map (iter g i)).Nodup := by
  induction p with
  | zero => simp
  | succ p ih =>
    rw [List.range_succ, List.map_append, List.nodup_append]
    refine ⟨ih fun a b h1 h2 => h a b h1 (by omega), by simp, fun x hx y hy => ?_⟩
    simp only [List.map_cons, List.map_nil, List.mem_cons, List.not_mem_nil, or_false] at hy
    subst hy
    rw [List.mem_map] at hx
    obtain ⟨a, ha, rfl⟩ := hx
    exact h a p (List.mem_range.1 ha) (by omega)
theorem ret_short {l : List Bool} {g : Graph} {i : Nat} (h : Ret l g i) : ∃ p, 1 ≤ p ∧ p ≤ l.length ∧ iter g i p = i ∧ ∀ q, q < p → tf l (iter g i q) = true := by
  obtain ⟨p, ⟨h1, h2, h3⟩, hmin⟩ := exists_min h
  refine ⟨p, h1, ?_, h2, h3⟩
  have hm : ∀ p', 1 ≤ p' → p' < p → iter g i p' ≠ i := fun p' a b e => hmin p' b ⟨a, e, fun q hq => h3 q (by omega)⟩
  have hn := nodup_iter (g := g) (i := i) (p := p) fun a b hab hb => iter_inj h2 hm hab hb
  have := nodup_sub (m := List.range l.length) hn fun x hx => by
    rw [List.mem_map] at hx
    obtain ⟨a, ha, rfl⟩ := hx
    exact List.mem_range.2 (tf_lt (h3 a (List.mem_range.1 ha)))
  simpa using this
open Classical in
noncomputable def idleOf (l : List Bool) (g : Graph) : List Bool := (List.range l.length).map fun i => tf l i && !decide (Ret l g i)
theorem idleOf_len (l : List Bool) (g : Graph) : (idleOf l g).length = l.length := by simp [idleOf]
theorem idleOf_get {l : List Bool} {g : Graph} {i : Nat} : tf (idleOf l g) i = true ↔ tf l i = true ∧ ¬ Ret l g i := by
  by_cases hi : i < l.length
  · simp [tf, idleOf, List.getD, hi]
  · constructor
    · intro h; have := tf_lt h; rw [idleOf_len] at this; omega
    · intro h; have := tf_lt h.1; omega
theorem idle_ends (l : List Bool) (g : Graph) (i : Nat) : ∃ k, k ≤ l.length ∧ tf (idleOf l g) (iter g i k) = false ∧ ∀ q, q < k → tf (idleOf l g) (iter g i q) = true := by
  have hex : ∃ k, tf (idleOf l g) (iter g i k) = false := by
    apply Classical.byContradiction
    intro hn
    have hall : ∀ k, tf (idleOf l g) (iter g i k) = true := fun k => by
      cases h : tf (idleOf l g) (iter g i k) with
      | true => rfl
      | false => exact absurd ⟨k, h⟩ hn
    have : ¬ ((List.range (l.length + 1)).map (iter g i)).Nodup := fun hd => by
      have := nodup_sub (m := List.range l.length) hd fun x hx => by
        rw [List.mem_map] at hx
        obtain ⟨a, ha, rfl⟩ := hx
        have := tf_lt (hall a)
        rw [idleOf_len] at this
        exact List.mem_range.2 this
      simp at this
      omega
    refine this (nodup_iter fun a b hab hb e => ?_)
    have h1 := (idleOf_get.1 (hall a)).2
    refine h1 ⟨b - a, by omega, ?_, fun q _ => ?_⟩
    · rw [← iter_add, show a + (b - a) = b by omega, ← e]
    · rw [← iter_add]; exact (idleOf_get.1 (hall _)).1
  obtain ⟨k, h1, h2⟩ := exists_min hex
  have hq : ∀ q, q < k → tf (idleOf l g) (iter g i q) = true := fun q hq => by
    have := h2 q hq
    cases h : tf (idleOf l g) (iter g i q) with
    | true => rfl
    | false => exact absurd h this
  refine ⟨k, ?_, h1, hq⟩
  have hd : ((List.range k).map (iter g i)).Nodup := nodup_iter fun a b hab hb e => by
    have h1 := (idleOf_get.1 (hq a (by omega))).2
    refine h1 ⟨b - a, by omega, ?_, fun q hqb => ?_⟩
    · rw [← iter_add, show a + (b - a) = b by omega, ← e]
    · rw [← iter_add]; exact (idleOf_get.1 (hq _ (by omega))).1
  have := nodup_sub (m := List.range l.length) hd fun x hx => by
    rw [List.mem_map] at hx
    obtain ⟨a, ha, rfl⟩ := hx
    have := tf_lt (hq a (List.mem_range.1 ha))
    rw [idleOf_len] at this
    exact List.mem_range.2 this
  simpa using this
def heirN (out : List Bool) (g : Graph) : Nat → Nat → Nat
  | 0, i => i
  | f + 1, i => if tf out i = true then heirN out g f (nxt g i) else i
def heir (out : List Bool) (g : Graph) (i : Nat) : Nat := heirN out g out.length i
def Ends (out : List Bool) (g : Graph) : Prop := ∀ i, ∃ k, k ≤ out.length ∧ tf out (iter g i k) = false ∧ ∀ q, q < k → tf out (iter g i q) = true
theorem ends_idle (l : List Bool) (g : Graph) : Ends (idleOf l g) g := fun i => by rw [idleOf_len]; exact idle_ends l g i
theorem heirN_at (out : List Bool) (g : Graph) : ∀ (k f i : Nat), k ≤ f → tf out (iter g i k) = false → (∀ q, q < k → tf out (iter g i q) = true) → heirN out g f i = iter g i k
  | 0, 0, i, _, _, _ => rfl
  | 0, f + 1, i, _, h, _ => by rw [heirN, if_neg (by rw [show tf out i = false from h]; decide)]; rfl
  | k + 1, f + 1, i, hk, h, hq => by
    rw [heirN, if_pos (show tf out i = true from hq 0 (by omega)), iter_head]
    refine heirN_at out g k f _ (by omega) ?_ fun q hqk => ?_
    · rw [← iter_head]; exact h
    · rw [← iter_head]; exact hq (q + 1) (by omega)
theorem heir_not {out : List Bool} {g : Graph} (h : Ends out g) (i : Nat) : tf out (heir out g i) = false := by
  obtain ⟨k, h1, h2, h3⟩ := h i
  rw [heir, heirN_at out g k _ i h1 h2 h3]; exact h2
theorem heir_self {out : List Bool} {g : Graph} {i : Nat} (hi : tf out i = false) : heir out g i = i := heirN_at out g 0 _ i (Nat.zero_le _) hi fun q hq => by omega
theorem heir_on {out : List Bool} {g : Graph} (h : Ends out g) {i : Nat} (hi : tf out i = true) : heir out g i = heir out g (nxt g i) := by
  obtain ⟨k, h1, h2, h3⟩ := h i
  cases k with
  | zero => rw [show tf out (iter g i 0) = tf out i from rfl, hi] at h2; cases h2
  | succ k =>
    rw [heir, heirN_at out g (k + 1) _ i h1 h2 h3, iter_head]
    refine (heirN_at out g k _ _ (by omega) ?_ fun q hq => ?_).symm
    · rw [← iter_head]; exact h2
    · rw [← iter_head]; exact h3 (q + 1) (by omega)
theorem heir_ind {out : List Bool} {g : Graph} (h : Ends out g) {P : Nat → Prop} (hp : ∀ i, tf out i = true → P i → P (nxt g i)) {i : Nat} (hi : P i) : P (heir out g i) := by
  obtain ⟨k, h1, h2, h3⟩ := h i
  rw [heir, heirN_at out g k _ i h1 h2 h3]
  clear h1 h2
  induction k with
  | zero => exact hi
  | succ k ih => exact hp _ (h3 k (by omega)) (ih fun q hq => h3 q (by omega))
noncomputable def suchB (g : Graph) (cls : List ClassV) (t : Nat) (i : Nat) : Bool :=
  let n := g.nd i
  fnd (reachL g (-1)) (i : Int) && (if n.kind = 1 then !behB (liveT g) n n.slot.toNat || (decide (n.op = 0) && n.a.isSlot && decide (n.a.slot = n.slot)) else if n.kind = 2 then decide ((cls.getD n.thing.toNat default).kind ≠ 3) && !behB (liveT g) n n.slot.toNat else if n.kind = 3 then ownB cls t n.thing.toNat && !behB (waitT g cls t) n n.thing.toNat else if n.kind = 8 then decide (n.next = n.els) else false)
noncomputable def suchTo (g : Graph) (cls : List ClassV) (t : Nat) (m : Nat) : List Bool := (List.range m).map (suchB g cls t)
noncomputable def suchL (g : Graph) (cls : List ClassV) (t : Nat) : List Bool := suchTo g cls t g.nodes.length
noncomputable def idleL (g : Graph) (cls : List ClassV) (t : Nat) : List Bool := idleOf (suchL g cls t) g
theorem suchL_len (g : Graph) (cls : List ClassV) (t : Nat) : (suchL g cls t).length = g.nodes.length := by simp [suchL, suchTo]
theorem idleL_len (g : Graph) (cls : List ClassV) (t : Nat) : (idleL g cls t).length = g.nodes.length := by rw [idleL, idleOf_len, suchL_len]
noncomputable def orderL (g : Graph) (out : List Bool) : List Nat := heir out g 0 :: (List.range g.nodes.length).filter fun i => fnd (reachL g (-1)) (i : Int) && !tf out i && decide (i ≠ heir out g 0)
def placeN (o : List Nat) (i : Nat) : Nat := (o.findIdx? (fun j => decide (j = i))).getD 0
def reNode (g : Graph) (out : List Bool) (o : List Nat) (n : Node) : Node := { n with next := if n.kind ≠ 9 then (placeN o (heir out g n.next.toNat) : Int) else n.next, els := if n.kind = 8 then (placeN o (heir out g n.els.toNat) : Int) else n.els }
noncomputable def onceG (g : Graph) (cls : List ClassV) (t : Nat) : Graph := { g with nodes := (orderL g (idleL g cls t)).map fun i => reNode g (idleL g cls t) (orderL g (idleL g cls t)) (g.nd i) }
noncomputable def onceU (u : UnitS) : UnitS := { u with graphs := (List.range u.graphs.length).map fun t => onceG (u.gr t) (classesU u) t }
def sizeU (u : UnitS) : Nat := (u.graphs.map fun g => g.nodes.length).sum
open Classical in
noncomputable def sweepN : Nat → UnitS → UnitS
  | 0, v => v
  | f + 1, v => if onceU v = v then v else sweepN f (onceU v)
noncomputable def sweepU (u : UnitS) : UnitS := sweepN (sizeU u) (onceU u)
end Go.Proofs.YtmonponfppdgfaaDoor
end
section
/- Lists of numbers: cloned, and held one against another. -/
namespace Go.Abs
open Go.RowKit
theorem Wk.weak {H : Hp} {nx b : Nat} {e : TypeId} {sz : Nat} {d : AV} {es es2 : List AV} (d2 : AV) (hb : getH H b = some (.row e sz d es)) (hl : es.length = es2.length) (h : ∀ c c2 : Cx, c.le c2 → c2.w = c.w → AVles c c2 es es2) : Wk .any H nx .any ((b, some (.row e sz d2 es2)) :: H) nx := by
  refine Wk.tell (Nat.le_refl _) (fun x e' sz' d' es' he => ?_) (fun w0 c c2 hS hU hc hc2 hw hle hnew hM => ⟨AVle.any _ _ _, fun x e' sz' d' es' d0 es0 h1 h2 => ?_⟩)
  · by_cases hx : x = b
    · subst hx
      rw [getH_here] at he
      cases he
      exact .inl ⟨d, es, hb, hl⟩
    · rw [getH_skipEq hx] at he
      exact .inl ⟨d', es', he, rfl⟩
  · by_cases hx : x = b
    · subst hx
      rw [getH_here] at h1
      rw [hb] at h2
      cases h1; cases h2
      exact h c c2 hle hw
    · rw [getH_skipEq hx] at h1
      rw [h1] at h2; cases h2
      exact AVles.keep hle _
theorem AVles.rep {c c2 : Cx} {a b : AV} (h : AVle c c2 a b) : ∀ n, AVles c c2 (List.replicate n a) (List.replicate n b)
  | 0 => .nil
  | n + 1 => .cons h (AVles.rep h n)
end Go.Abs
namespace Go.Proofs.YtmonponfppdgfaaDoor
open Go Go.Abs Go.Proofs
set_option linter.unusedSimpArgs false
set_option linter.unusedVariables false
theorem int_getD {l : List Int} {i : Nat} (h : i < l.length) (d : AV) : (l.map i64).getD i d = i64 (l.getD i 0) := getD_av i64 l i d h
theorem clone_ints_im {es : List AV} (hsz : es.length * 8 ≤ 140737488355328) : CallN Tryd.prog 58 [.im 1 .any es] [] 0 (Cloned [] 0 3 1 es) := by
  refine Cloned.of (by omega) ?_
  refine Go.fnL lf58 rfl ?_
  cases hes : es with
  | nil =>
    repeat' (first | ((with_reducible refine Go.red ?_); conv => whnf) | refine aG ?_ | exact aC | with_reducible refine Go.and ?_ ?_ | (apply Go.elem; (· exact aElem)) | refine aH ?_ | ((with_reducible refine Go.bool ?_ ?_) <;> intro hc <;> (try simp only [List.length_map, ne_eq, hcs] at hc) <;> try (exfalso; omega)))
    · exact ⟨.inl ⟨rfl, rfl, aNx, aKeep⟩⟩
    · exact ⟨.inr ⟨_, _, rfl, aNx, aNx, aNx, aRow, aKeep⟩⟩
  | cons x t =>
    rw [hes] at hsz
    simp only [List.length_cons] at hsz
    repeat' (first | ((with_reducible refine Go.red ?_); conv => whnf) | refine aG ?_ | exact aC | with_reducible refine Go.and ?_ ?_ | (apply Go.elem; (· exact aElem)) | refine aH ?_ | ((with_reducible refine Go.bool ?_ ?_) <;> intro hc <;> (try simp only [List.length_map, ne_eq, hcs] at hc) <;> try (exfalso; omega)))
    · exact ⟨.inr ⟨3, _, (by simp), aNx, aNx, aNx, aRow, aKeep⟩⟩
theorem clone_ints_mk {es : List AV} (hsz : es.length * 8 ≤ 140737488355328) : CallN Tryd.prog 58 [.im 1 .any es] [] 0 (fun r1 H1 _ => ∃ b d0, r1 = .sl b es.length ∧ getH H1 b = some (.row 3 1 d0 es)) :=
  (clone_ints_im hsz).mono fun r H n ⟨b, d, h1, _, _, _, h2, _⟩ => ⟨b, d, h1, h2⟩
theorem eqInts_pure (l m : List Int) (hl : l.length * 8 ≤ 140737488351232) (hm : m.length * 8 ≤ 140737488351232) : Pure Tryd.prog 60 [imF l, imF m] (fun r => r = bl (decide (l = m))) := by
  refine Go.pureL lf60 rfl ?_
  unfold imF
  repeat' (first | ((with_reducible refine Go.red ?_); conv => whnf) | refine aG ?_ | exact aC | with_reducible refine Go.and ?_ ?_ | (apply Go.elem; (· exact aElem)) | refine aH ?_ | ((with_reducible refine Go.bool ?_ ?_) <;> intro hc <;> (try simp only [List.length_map, ne_eq, hcs] at hc) <;> try (exfalso; omega)))
  · refine bl_eq (Eq.symm ?_)
    exact decide_eq_false fun e => hc (by rw [e])
  · have hlm : l.length = m.length := by omega
    refine Go.loop (fun i : Nat => [(0, imF l), (1, imF m), (12, i64 l.length), (13, i64 i)])
      (fun i H n => i ≤ l.length ∧ ∀ j, j < i → l.getD j 0 = m.getD j 0) (fun i => l.length - i) 0 aLess ⟨Nat.zero_le _, fun _ h => by omega⟩ ?_
    unfold imF
    rintro i H n ⟨hi, hall⟩
    by_cases hil : i < l.length
    · have e1 := int_getD (l := l) hil
      have e2 := int_getD (l := m) (i := i) (by omega)
      repeat' (first | ((with_reducible refine Go.red ?_); conv => whnf) | refine aG ?_ | exact aC | with_reducible refine Go.and ?_ ?_ | (apply Go.elem; (· (first | exact e1 _ | exact e2 _ | exact aElem))) | refine aH ?_ | ((with_reducible refine Go.bool ?_ ?_) <;> intro hc <;> (try simp only [List.length_map, ne_eq, hcs] at hc) <;> try (exfalso; omega)))
      · refine bl_eq (Eq.symm ?_)
        exact decide_eq_false fun e => hc (by rw [e])
      · refine ⟨i + 1, by omega, aLess, by omega, fun j hj => ?_⟩
        by_cases hji : j = i
        · subst hji; exact hc
        · exact hall j (by omega)
    · have : i = l.length := by omega
      subst this
      repeat' (first | ((with_reducible refine Go.red ?_); conv => whnf) | refine aG ?_ | exact aC | with_reducible refine Go.and ?_ ?_ | (apply Go.elem; (· exact aElem)) | refine aH ?_ | ((with_reducible refine Go.bool ?_ ?_) <;> intro hc <;> (try simp only [List.length_map, ne_eq, hcs] at hc) <;> try (exfalso; omega)))
      refine bl_eq (Eq.symm ?_)
      refine decide_eq_true (List.ext_getElem hlm fun j h1 h2 => ?_)
      have := hall j h1
      simpa [List.getD, h1, h2] using this
def Told (nv : AV) (l : List Int) (H : Hp) (nx : Nat) : Prop := nv = imF l ∨ ∃ b d, nv = .sl b l.length ∧ b < nx ∧ getH H b = some (.row 3 1 d (l.map i64))
theorem Told.frz {nv : AV} {l : List Int} {H : Hp} {nx : Nat} (h : Told nv l H nx) (k : Nat) : Abs.frz H (k + 1) nv = imF l := by
  rcases h with rfl | ⟨b, d, rfl, _, hb⟩
  · exact frz_fit _ (by simp [fitA, imF, fitL_map])
  · rw [frz_sl hb (by simp), frz_same _ ((fitL_map _ _).2 fun _ _ => by simp [fitA])]; rfl
theorem told_eq {nv : AV} {l : List Int} {H : Hp} {nx : Nat} (h : Told nv l H nx) (m : List Int) (hl : l.length * 8 ≤ 140737488351232) (hm : m.length * 8 ≤ 140737488351232) : CallN Tryd.prog 60 [imF m, nv] H nx (fun r H' n => r = bl (decide (m = l)) ∧ H' = H ∧ n = nx) := by
  refine Pure.view (args2 := [imF m, imF l]) (eqInts_pure m l hm hl) ?_ (by simp [fitL, fitA, imF, fitL_map]) trivial ⟨rfl, rfl, rfl⟩
  rw [List.map_cons, List.map_cons, List.map_nil, h.frz, frz_fit 6 (by simp [fitA, imF, fitL_map])]
theorem told_clone {nv : AV} {l : List Int} {H : Hp} {nx : Nat} (h : Told nv l H nx) (hl : l.length * 8 ≤ 140737488351232) : CallN Tryd.prog 58 [nv] H nx (fun r H' n => r = imF l ∧ nx ≤ n ∧ ∀ b, b < nx → getH H' b = getH H b) := by
  refine CallN.wk (CallN.freshN (es := l.map i64) (args2 := [imF l]) (clone_ints_mk (by rw [List.length_map]; omega)) (fun i hi => by rw [getD_av i64 _ _ _ (by simpa using hi)]; trivial) (by rw [List.map_cons, List.map_nil, h.frz]) (by simp [fitL, fitA, imF, fitL_map])) ?_
  rintro r H' n ⟨rfl, rfl, rfl⟩
  have hw := Wk.iceR (r := .sl nx (l.map i64).length) (H := (nx, some (.row 3 1 .any (l.map i64))) :: H) (nx := nx + 1) [(nx, some (.row 3 1 .any (l.map i64)))] 1 (fun b q hq => by
    by_cases hb : b = nx
    · subst hb; rw [getH_here] at hq ⊢; exact hq
    · rw [getH_skipEq hb] at hq; cases hq)
  refine ⟨_, _, _, hw, ?_, by omega, fun b hb => ?_⟩
  · rw [ice_sl (getH_here _ _ _) rfl, ice_zero]; rfl
  · rw [goneH_cons, goneH_nil, getH_skipEq (by omega), getH_skipEq (by omega)]
end Go.Proofs.YtmonponfppdgfaaDoor
end
section
/- What is reached. -/
namespace Go.Proofs.YtmonponfppdgfaaDoor
open Go Go.Abs Go.Proofs
set_option linter.unusedSimpArgs false
set_option linter.unusedVariables false
theorem mem_fold {n : Node} {k : Int} : k ∈ n.fold ↔ k ∈ n.fol := by
  have := any_fold (fun j => decide (j = k)) n
  rw [Bool.eq_iff_iff, List.any_eq_true, List.any_eq_true] at this
  constructor
  · intro h; obtain ⟨x, h1, h2⟩ := this.1 ⟨k, h, by simp⟩; rw [← of_decide_eq_true h2]; exact h1
  · intro h; obtain ⟨x, h1, h2⟩ := this.2 ⟨k, h, by simp⟩; rw [← of_decide_eq_true h2]; exact h1
theorem fold_len (n : Node) : n.fold.length ≤ 2 := by unfold Node.fold; split <;> (try split) <;> simp
theorem fol_len (n : Node) : n.fol.length ≤ 2 := by unfold Node.fol; split <;> (try split) <;> simp
theorem gd {α : Type} {l : List α} {q : Nat} (h : q < l.length) (d : α) : l.getD q d = l[q] := by simp [List.getD, h]
theorem fit_ints (n : Nat) (l : List Int) : fitL n (l.map i64) := (fitL_map _ _).2 fun _ _ => by simp [fitA]
theorem fit_bools (n : Nat) (l : List Bool) : fitL n (l.map bl) := (fitL_map _ _).2 fun _ _ => by simp [fitA]
theorem nd_at {l : List Node} {i : Nat} (h : i < l.length) (d : AV) : (l.map Node.av).getD ((i : Int).toNat) d = (l.getD i default).av := by
  rw [Int.toNat_natCast]; exact getD_av Node.av l i d h
theorem gr_at {l : List Graph} {i : Nat} (h : i < l.length) (d : AV) : (l.map Graph.av).getD ((i : Int).toNat) d = (l.getD i default).av := by
  rw [Int.toNat_natCast]; exact getD_av Graph.av l i d h
theorem int_at {l : List Int} {i : Nat} (h : i < l.length) (d : AV) : (l.map i64).getD ((i : Int).toNat) d = i64 (l.getD i 0) := by
  rw [Int.toNat_natCast]; exact getD_av i64 l i d h
theorem whole_pure (g : Graph) (hg : g.Wf) : Pure Tryd.prog 45 [g.av] (fun r => r = bl (wholeB g)) := by
  have hl := hg.len
  refine Go.pureL lf45 rfl ?_
  repeat' (first | ((with_reducible refine Go.red ?_); conv => whnf) | refine aG ?_ | exact aCn | with_reducible refine Go.and ?_ ?_ | ((with_reducible refine Ask.mk ?_); first | exact aAsk | exact aAsk2 | (intro h; simp_all [Graph.cells] <;> fail) | (simp_all [Graph.cells] <;> fail)) | (apply Go.elem; (· exact aElem)) | refine aH ?_ | ((with_reducible refine Go.bool ?_ ?_) <;> intro hc <;> (try simp only [List.length_map, ne_eq, hcs] at hc) <;> try (exfalso; omega)))
  · refine bl_eq (Eq.symm ?_)
    unfold wholeB
    by_cases h1 : 1 ≤ g.nodes.length
    · rw [decide_eq_false (show ¬ g.nodes.length ≤ 4096 by omega)]; simp
    · rw [decide_eq_false h1]; simp
  · simp only [List.length_map]
    refine Go.loop (fun i : Nat => [(1, .pt 0 1 0 0), (18, nodesAv g.nodes), (19, i64 g.nodes.length), (20, i64 i)])
      (fun i H n => i ≤ g.nodes.length ∧ 16 ≤ n ∧ (∃ d, getH H 0 = some (.row 33 4 d [g.av])) ∧ ∀ j, j < i → stepB g.nodes.length (g.nd j) = true) (fun i => g.nodes.length - i) 0 aLess ⟨Nat.zero_le _, aNx, ⟨_, aRow⟩, fun _ h => by omega⟩ ?_
    rintro i H n ⟨hi, hn, ⟨d0, r0⟩, hall⟩
    by_cases hil : i < g.nodes.length
    · have hbad : stepB g.nodes.length (g.nd i) = false → wholeB g = false := fun h => by
        unfold wholeB
        rw [Bool.and_eq_false_iff]
        right
        rw [Bool.eq_false_iff, ne_eq, List.all_eq_true]
        intro hA
        have := hA _ (getD_mem' default hil)
        rw [show g.nodes.getD i default = g.nd i from rfl, h] at this; cases this
      have hf := follows_pure (g.nd i)
      have h2 := fold_len (g.nd i)
      unfold imF at hf
      repeat' (first | ((with_reducible refine Go.red ?_); conv => whnf) | refine aG ?_ | exact aCn | with_reducible refine Go.and ?_ ?_ | ((with_reducible refine Ask.mk ?_); first | exact aAsk | exact aAsk2 | (intro h; simp_all [Graph.cells, Node.cells] <;> fail) | (simp_all [Graph.cells, Node.cells] <;> fail)) | (apply Go.elem; (· (first | exact nd_at hil _ | exact aElem))) | refine aK (hf) ?_ | refine aH ?_ | ((with_reducible refine Go.bool ?_ ?_) <;> intro hc <;> (try simp only [List.length_map, ne_eq, hcs] at hc) <;> try (exfalso; omega)))
      · refine bl_eq (Eq.symm (hbad ?_))
        unfold stepB
        have hc : (g.nd i).kind = 0 ∨ 10 ≤ (g.nd i).kind := hc
        by_cases h1 : (g.nd i).kind < 10
        · rw [decide_eq_false (show ¬ 1 ≤ (g.nd i).kind by omega)]; simp
        · rw [decide_eq_false h1]; simp
      · have hk0 : 0 ≤ (g.nd i).kind := (hg.nodes _ (getD_mem' default hil)).kind.1
        have hkk : ¬ (g.nd i).kind = 0 ∧ (g.nd i).kind < 10 := hc
        clear hf
        simp only [List.length_map]
        refine Go.loop (fun j : Nat => [(1, .pt 0 1 0 0), (4, .pt (n + 3) 1 0 0), (18, nodesAv g.nodes), (19, i64 g.nodes.length), (20, i64 i), (33, imF (g.nd i).fold), (34, i64 (g.nd i).fold.length), (35, i64 j)])
          (fun j H2 n2 => j ≤ (g.nd i).fold.length ∧ n + 4 ≤ n2 ∧ (∃ d, getH H2 0 = some (.row 33 4 d [g.av])) ∧ ∀ q, q < j → 0 ≤ (g.nd i).fold.getD q 0 ∧ (g.nd i).fold.getD q 0 < g.nodes.length) (fun j => (g.nd i).fold.length - j) 0 aLess ⟨Nat.zero_le _, aNx, ⟨_, aRow⟩, fun _ h => by omega⟩ ?_
        clear r0
        rintro j H2 n2 ⟨hj, hn2, ⟨d02, r02⟩, hq⟩
        unfold imF
        by_cases hjl : j < (g.nd i).fold.length
        · repeat' (first | ((with_reducible refine Go.red ?_); conv => whnf) | refine aG ?_ | exact aCn | with_reducible refine Go.and ?_ ?_ | ((with_reducible refine Ask.mk ?_); first | exact aAsk | exact aAsk2 | (intro h; simp_all [Graph.cells] <;> fail) | (simp_all [Graph.cells] <;> fail)) | (apply Go.elem; (· (first | exact int_at hjl _ | exact aElem))) | refine aH ?_ | ((with_reducible refine Go.bool ?_ ?_) <;> intro hc <;> (try simp only [List.length_map, ne_eq, hcs] at hc) <;> try (exfalso; omega)))
          · refine bl_eq (Eq.symm (hbad ?_))
            unfold stepB
            rw [Bool.and_eq_false_iff]
            right
            rw [Bool.eq_false_iff, ne_eq, List.all_eq_true]
            intro hA
            have := hA _ (mem_fold.1 (getD_mem' 0 hjl))
            simp only [Bool.and_eq_true, decide_eq_true_eq] at this
            omega
          · refine ⟨j + 1, by omega, aLess, by omega, by omega, ⟨_, aRow⟩, fun q hq2 => ?_⟩
            by_cases e : q = j
            · rw [e]; omega
            · exact hq q (by omega)
        · have : j = (g.nd i).fold.length := by omega
          subst this
          repeat' (first | ((with_reducible refine Go.red ?_); conv => whnf) | refine aG ?_ | exact aC | with_reducible refine Go.and ?_ ?_ | (apply Go.elem; (· exact aElem)) | refine aH ?_ | ((with_reducible refine Go.bool ?_ ?_) <;> intro hc <;> (try simp only [List.length_map, ne_eq, hcs] at hc) <;> try (exfalso; omega)))
          refine ⟨i + 1, by omega, aLess, by omega, by omega, ⟨_, aRow⟩, fun j hj => ?_⟩
          by_cases e : j = i
          · rw [e]
            unfold stepB
            rw [decide_eq_true (show 1 ≤ (g.nd i).kind by omega), decide_eq_true hkk.2]
            simp only [Bool.true_and]
            rw [List.all_eq_true]
            intro k hk
            obtain ⟨q, hq1, e⟩ := List.getElem_of_mem (mem_fold.2 hk)
            have := hq q hq1
            rw [gd hq1, e] at this
            simp [this.1, this.2]
          · exact hall j (by omega)
    · have : i = g.nodes.length := by omega
      subst this
      repeat' (first | ((with_reducible refine Go.red ?_); conv => whnf) | refine aG ?_ | exact aC | with_reducible refine Go.and ?_ ?_ | (apply Go.elem; (· exact aElem)) | refine aH ?_ | ((with_reducible refine Go.bool ?_ ?_) <;> intro hc <;> (try simp only [List.length_map, ne_eq, hcs] at hc) <;> try (exfalso; omega)))
      refine bl_eq (Eq.symm ?_)
      unfold wholeB
      rw [decide_eq_true (show 1 ≤ g.nodes.length by omega), decide_eq_true (show g.nodes.length ≤ 4096 by omega)]
      simp only [Bool.true_and]
      rw [List.all_eq_true]
      intro m hm
      obtain ⟨q, hq1, rfl⟩ := List.getElem_of_mem hm
      have := hall q hq1
      rw [show g.nd q = g.nodes[q] by simp [List.getD, hq1]] at this
      exact this
theorem reached_pure (g : Graph) (hg : g.Wf) (hw : wholeB g = true) (hs : Pure Tryd.prog 46 [g.av, i64 (-1)] (fun r => r = imB (reachL g (-1)))) : Pure Tryd.prog 28 [g.av] (fun r => r = imB (reachL g (-1))) := by
  refine Go.pureL lf28 rfl ?_
  have h1 := whole_pure g hg
  rw [hw] at h1
  repeat' (first | ((with_reducible refine Go.red ?_); conv => whnf) | refine aG ?_ | exact aCn | with_reducible refine Go.and ?_ ?_ | ((with_reducible refine Ask.mk ?_); first | exact aAsk | exact aAsk2 | (intro h; simp_all [Graph.cells] <;> fail) | (simp_all [Graph.cells] <;> fail)) | (apply Go.elem; (· exact aElem)) | refine aK (h1) ?_ | refine aK (hs) ?_ | refine aH ?_ | ((with_reducible refine Go.bool ?_ ?_) <;> intro hc <;> (try simp only [List.length_map, ne_eq, hcs] at hc) <;> try (exfalso; omega)))
  exact Res.eq (by simp [fitA, imB, fitL_map]) rfl
end Go.Proofs.YtmonponfppdgfaaDoor
end
