/- Reads of the program. -/
import Derived.Test.YtncllkpekbapjaaPd
import Derived.Test.YtncllkpekbapjaaPe
import Derived.Test.YtncllkpekbapjaaOz
namespace Go.Proofs.Ytncllkpekbapjaa
open Go Go.Abs Go.Proofs
set_option linter.unusedSimpArgs false
set_option linter.unusedVariables false
abbrev mapI (E : List (Int × Int)) : List AV := mapE (fun n : Int => Value.int .i64 n) i64 E
theorem getI (E : List (Int × Int)) (t : Int) : mget false (.int .i64 t) (mapI E) (i64 0) = some (i64 ((lookE E t).getD 0), (lookE E t).isSome) := (mget_E keyInt i64 t E (i64 0)).trans (by cases lookE E t <;> rfl)
theorem int_getD {l : List Int} {i : Nat} (h : i < l.length) (d : AV) : (l.map i64).getD i d = i64 (l.getD i 0) := getD_av i64 l i d h
theorem putI (E : List (Int × Int)) (t v : Int) : mput false (.int .i64 t) (mapI E) (i64 v) = some (mapI (putE E t v)) := mput_E keyInt i64 t v E
def Tells (E : List (Int × Int)) (L : Int → Int) : Prop := ∀ t, L t = (lookE E t).getD (-1)
theorem Tells.put {E : List (Int × Int)} {L : Int → Int} (h : Tells E L) (t v : Int) : Tells (putE E t v) (updI L t v) := by
  intro y
  rw [look_put]
  simp only [updI]
  split
  · rfl
  · exact h y
set_option maxHeartbeats 8000000 in
theorem reads_call (x : Exec) (hx : x.Wf) (l : List Int) (hl : l.length * 8 ≤ 140737488351232) :
    CallN Try.prog 23 [x.av, imI l] [] 0 (fun r H n => ∃ s, r = .tup [s, i64 (readsE x l)] ∧ ((readsE x l ≠ 0 ∧ readsL x l = [] ∧ s = .sc (.slice none 0 0)) ∨ ∃ b d, s = .sl b x.events.length ∧ (readsL x l).length = x.events.length ∧ getH H b = some (.row 3 1 d ((readsL x l).map i64)))) := by
  have hck := check_pure x hx
  refine Go.fn Try.func23 nm23 low23 res23 nt23 rfl ?_
  cases hok : okB x with
  | false =>
    have e2 : readsE x l = 220 := by simp [readsE, hok]
    have e3 : readsL x l = [] := by simp [readsL, hok]
    rw [okB_false hok] at hck
    rw [e2, e3]
    repeat' (first | ((with_reducible refine Go.red ?_); conv => whnf) | with_reducible (first | refine Go.and ?_ ?_ | exact True.intro | refine Go.far ?_ | exact Go.askRep | refine Go.unroll ?_ | refine Go.drawn ?_) | ((with_reducible refine Apt.mk ?_); (try dsimp only); omega) | ((with_reducible refine Ask.mk ?_); first | exact aAsk | exact aAsk2) | ((with_reducible refine Go.ari64 ?_ ?_ ?_); (· exact aBnd); (· exact aBnd)) | ((with_reducible refine Go.ariu8 ?_ ?_ ?_); (· exact aBnd); (· exact aBnd)) | (with_reducible refine Go.ari0 ?_) | (apply Go.elem; (· exact aElem)) | (apply Go.row; (· exact aRow)) | (apply Go.map; (· exact aRow)) | (apply Go.gives; (· exact aGives)) | (apply Go.gives; (· exact aRes)) | ((with_reducible refine Go.callW (hck) ?_ ?_); (· exact aFit)) | ((with_reducible refine Go.callJ (fun _ => hck) ?_ ?_); (· exact aFit)) | ((with_reducible refine Go.callE (hck) ?_ ?_); (· exact aFit)) | ((with_reducible refine Go.callF (fun _ => hck) ?_ ?_); (· exact aFit)) | (refine Go.gt rfl ?_) | (refine Go.gf rfl ?_) | (with_reducible refine Go.join ?_) | (refine Go.lt' rfl ?_) | (refine Go.lf' rfl ?_) | ((with_reducible refine Go.bool ?_ ?_) <;> intro hc <;> (try simp only [List.length_map, ne_eq, hcs] at hc) <;> try (exfalso; omega)) | ((with_reducible refine Res.eq ?_ ?_); (· exact aFit)))
    exact ⟨⟨_, rfl, .inl ⟨by decide, rfl, rfl⟩⟩⟩
  | true =>
    have h := fine_of hx hok
    have hfew := h.few
    have hfl := hx.firstlen
    rw [okB_true hok] at hck
    have hbad : isLine x.events.length l = false → readsE x l = 2 ∧ readsL x l = [] := fun e1 => ⟨by simp [readsE, hok, e1], by simp [readsL, e1]⟩
    repeat' (first | ((with_reducible refine Go.red ?_); conv => whnf) | with_reducible (first | refine Go.and ?_ ?_ | exact True.intro | refine Go.far ?_ | exact Go.askRep | refine Go.unroll ?_ | refine Go.drawn ?_) | ((with_reducible refine Apt.mk ?_); (try dsimp only); omega) | ((with_reducible refine Ask.mk ?_); first | exact aAsk | exact aAsk2 | (intro h; simp_all [Exec.cells] <;> fail) | (simp_all [Exec.cells] <;> fail)) | ((with_reducible refine Go.ari64 ?_ ?_ ?_); (· exact aBnd); (· exact aBnd)) | ((with_reducible refine Go.ariu8 ?_ ?_ ?_); (· exact aBnd); (· exact aBnd)) | (with_reducible refine Go.ari0 ?_) | (apply Go.elem; (· exact aElem)) | (apply Go.row; (· exact aRow)) | (apply Go.map; (· exact aRow)) | (apply Go.gives; (· exact aGives)) | (apply Go.gives; (· exact aRes)) | ((with_reducible refine Go.callW (hck) ?_ ?_); (· exact aFit)) | ((with_reducible refine Go.callJ (fun _ => hck) ?_ ?_); (· exact aFit)) | ((with_reducible refine Go.callE (hck) ?_ ?_); (· exact aFit)) | ((with_reducible refine Go.callF (fun _ => hck) ?_ ?_); (· exact aFit)) | (refine Go.gt rfl ?_) | (refine Go.gf rfl ?_) | (with_reducible refine Go.join ?_) | (refine Go.lt' rfl ?_) | (refine Go.lf' rfl ?_) | ((with_reducible refine Go.bool ?_ ?_) <;> intro hc <;> (try simp only [List.length_map, ne_eq, hcs] at hc) <;> try (exfalso; omega)) | ((with_reducible refine Res.eq ?_ ?_); (· exact aFit)))
    refine Go.callN (clone_ints l hl _ _ _) ?_
    rintro _ H1 n1 ⟨b1, d1, rfl, hb1, hb1n, hn1, r1, hf1⟩
    have t0 := (hf1 0 (by omega)).trans (aSkip : _ = some (.row 27 4 .any [x.av]))
    rw [List.length_map]
    repeat' (first | ((with_reducible refine Go.red ?_); conv => whnf) | with_reducible (first | refine Go.and ?_ ?_ | exact True.intro | refine Go.far ?_ | exact Go.askRep | refine Go.unroll ?_ | refine Go.drawn ?_) | ((with_reducible refine Apt.mk ?_); (try dsimp only); omega) | ((with_reducible refine Ask.mk ?_); first | exact aAsk | exact aAsk2) | ((with_reducible refine Go.ari64 ?_ ?_ ?_); (· exact aBnd); (· exact aBnd)) | ((with_reducible refine Go.ariu8 ?_ ?_ ?_); (· exact aBnd); (· exact aBnd)) | (with_reducible refine Go.ari0 ?_) | (apply Go.elem; (· exact aElem)) | (apply Go.row; (· exact aRow)) | (apply Go.map; (· exact aRow)) | (apply Go.gives; (· exact aGives)) | (apply Go.gives; (· exact aRes)) | (refine Go.gt rfl ?_) | (refine Go.gf rfl ?_) | (with_reducible refine Go.join ?_) | (refine Go.lt' rfl ?_) | (refine Go.lf' rfl ?_) | ((with_reducible refine Go.bool ?_ ?_) <;> intro hc <;> (try simp only [List.length_map, ne_eq, hcs] at hc) <;> try (exfalso; omega)) | ((with_reducible refine Res.eq ?_ ?_); (· exact aFit)))
    refine Go.callN (sort_call b1 l d1 _ _ aRow aNx hl) ?_
    rintro _ H2 n2 ⟨rfl, hn2, r2, hf2⟩
    have t02 := (hf2 0 aNx (by omega)).trans (Eq.trans aSkip t0)
    have hn24 : 12 ≤ n2 := by omega
    have hsl : ((sorted l).map i64).length = l.length := by rw [List.length_map, sorted_len]
    repeat' (first | ((with_reducible refine Go.red ?_); conv => whnf) | with_reducible (first | refine Go.and ?_ ?_ | exact True.intro | refine Go.far ?_ | exact Go.askRep | refine Go.unroll ?_ | refine Go.drawn ?_) | ((with_reducible refine Apt.mk ?_); (try dsimp only); omega) | ((with_reducible refine Ask.mk ?_); first | exact aAsk | exact aAsk2) | ((with_reducible refine Go.ari64 ?_ ?_ ?_); (· exact aBnd); (· exact aBnd)) | ((with_reducible refine Go.ariu8 ?_ ?_ ?_); (· exact aBnd); (· exact aBnd)) | (with_reducible refine Go.ari0 ?_) | (apply Go.elem; (· exact aElem)) | (apply Go.row; (· exact aRow)) | (apply Go.map; (· exact aRow)) | (apply Go.gives; (· exact aGives)) | (apply Go.gives; (· exact aRes)) | (refine Go.gt rfl ?_) | (refine Go.gf rfl ?_) | (with_reducible refine Go.join ?_) | (refine Go.lt' rfl ?_) | (refine Go.lf' rfl ?_) | ((with_reducible refine Go.bool ?_ ?_) <;> intro hc <;> (try simp only [List.length_map, ne_eq, hcs] at hc) <;> try (exfalso; omega)) | ((with_reducible refine Res.eq ?_ ?_); (· exact aFit)))
    refine Go.loop (fun i : Nat => [(1, imI l), (2, .pt 0 1 0 0), (30, .sl b1 l.length), (31, i64 l.length), (32, i64 i)])
      (fun i H n => i ≤ l.length ∧ n2 ≤ n ∧ getH H 0 = some (.row 27 4 .any [x.av]) ∧ getH H b1 = some (.row 3 1 d1 ((sorted l).map i64)) ∧ ∀ j, j < i → (sorted l).getD j 0 = j) (fun i => l.length - i) 0 aLess ⟨Nat.zero_le _, aNx, aRow, aRow, fun _ h => by omega⟩ ?_
    rintro i H3 n3 ⟨hi, hn3, r03, r3, hall⟩
    by_cases hil : i < l.length
    · by_cases hsi : (sorted l).getD i 0 = i
      · have hsd : decide ((sorted l).getD (i : Int).toNat 0 ≠ (i : Int)) = false := decide_eq_false (by simpa using hsi)
        repeat' (first | ((with_reducible refine Go.red ?_); conv => whnf) | with_reducible (first | refine Go.and ?_ ?_ | exact True.intro | refine Go.far ?_ | exact Go.askRep | refine Go.unroll ?_ | refine Go.drawn ?_) | ((with_reducible refine Apt.mk ?_); (try dsimp only); omega) | ((with_reducible refine Ask.mk ?_); first | exact aAsk | exact aAsk2) | ((with_reducible refine Go.ari64 ?_ ?_ ?_); (· exact aBnd); (· exact aBnd)) | ((with_reducible refine Go.ariu8 ?_ ?_ ?_); (· exact aBnd); (· exact aBnd)) | (with_reducible refine Go.ari0 ?_) | (apply Go.elem; (· (first | exact int_getD (by rw [sorted_len]; omega) _ | exact aElem))) | (apply Go.row; (· exact aRow)) | (apply Go.map; (· exact aRow)) | (apply Go.gives; (· exact aGives)) | (apply Go.gives; (· exact aRes)) | (simp only [hsd]) | (refine Go.gt rfl ?_) | (refine Go.gf rfl ?_) | (with_reducible refine Go.join ?_) | (refine Go.lt' rfl ?_) | (refine Go.lf' rfl ?_) | ((with_reducible refine Go.bool ?_ ?_) <;> intro hc <;> (try simp only [List.length_map, ne_eq, hcs] at hc) <;> try (exfalso; omega)) | ((with_reducible refine Res.eq ?_ ?_); (· exact aFit)))
        exact ⟨i + 1, by omega, aLess, by omega, by omega, aRow, aRow, fun j hj => by
          by_cases hji : j = i
          · rw [hji]; exact hsi
          · exact hall j (by omega)⟩
      · have hsd : decide ((sorted l).getD (i : Int).toNat 0 ≠ (i : Int)) = true := decide_eq_true (by simpa using hsi)
        obtain ⟨e2, e3⟩ := hbad (by
          rw [Bool.eq_false_iff]
          intro hL
          have hp := line_perm.1 hL
          have hlen : l.length = x.events.length := by rw [hp.length_eq, iota_len]
          rw [sorted_iota.2 hp, iota_get (by omega)] at hsi
          exact hsi rfl)
        rw [e2, e3]
        repeat' (first | ((with_reducible refine Go.red ?_); conv => whnf) | with_reducible (first | refine Go.and ?_ ?_ | exact True.intro | refine Go.far ?_ | exact Go.askRep | refine Go.unroll ?_ | refine Go.drawn ?_) | ((with_reducible refine Apt.mk ?_); (try dsimp only); omega) | ((with_reducible refine Ask.mk ?_); first | exact aAsk | exact aAsk2) | ((with_reducible refine Go.ari64 ?_ ?_ ?_); (· exact aBnd); (· exact aBnd)) | ((with_reducible refine Go.ariu8 ?_ ?_ ?_); (· exact aBnd); (· exact aBnd)) | (with_reducible refine Go.ari0 ?_) | (apply Go.elem; (· (first | exact int_getD (by rw [sorted_len]; omega) _ | exact aElem))) | (apply Go.row; (· exact aRow)) | (apply Go.map; (· exact aRow)) | (apply Go.gives; (· exact aGives)) | (apply Go.gives; (· exact aRes)) | (simp only [hsd]) | (refine Go.gt rfl ?_) | (refine Go.gf rfl ?_) | (with_reducible refine Go.join ?_) | (refine Go.lt' rfl ?_) | (refine Go.lf' rfl ?_) | ((with_reducible refine Go.bool ?_ ?_) <;> intro hc <;> (try simp only [List.length_map, ne_eq, hcs] at hc) <;> try (exfalso; omega)) | ((with_reducible refine Res.eq ?_ ?_); (· exact aFit)))
        exact ⟨⟨_, rfl, .inl ⟨by decide, by trivial, rfl⟩⟩⟩
    · have : i = l.length := by omega
      subst this
      have hio : sorted l = iota l.length := ext_getD 0 (by rw [sorted_len, iota_len]) fun j hj => by
        rw [sorted_len] at hj
        rw [hall j hj, iota_get hj]
      by_cases hln : l.length = x.events.length
      · have hL : isLine x.events.length l = true := line_perm.2 (by rw [← hln]; exact sorted_iota.1 hio)
        have e2 : readsE x l = 0 := by simp [readsE, hok, hL]
        have e3 : readsL x l = (List.range x.events.length).map (seeS x l).2 := by simp [readsL, hok, hL]
        rw [e2, e3]
        have hran : ∀ k ∈ l, 0 ≤ k ∧ k < (x.events.length : Int) := by
          simp only [isLine, Bool.and_eq_true, decide_eq_true_eq] at hL
          exact hL.1.2
        repeat' (first | ((with_reducible refine Go.red ?_); conv => whnf) | with_reducible (first | refine Go.and ?_ ?_ | exact True.intro | refine Go.far ?_ | exact Go.askRep | refine Go.unroll ?_ | refine Go.drawn ?_) | ((with_reducible refine Apt.mk ?_); (try dsimp only); omega) | ((with_reducible refine Ask.mk ?_); first | exact aAsk | exact aAsk2 | (intro h; simp_all [Exec.cells] <;> fail) | (simp_all [Exec.cells] <;> fail)) | ((with_reducible refine Go.ari64 ?_ ?_ ?_); (· exact aBnd); (· exact aBnd)) | ((with_reducible refine Go.ariu8 ?_ ?_ ?_); (· exact aBnd); (· exact aBnd)) | (with_reducible refine Go.ari0 ?_) | (apply Go.elem; (· exact aElem)) | (apply Go.row; (· exact aRow)) | (apply Go.map; (· exact aRow)) | (apply Go.gives; (· exact aGives)) | (apply Go.gives; (· exact aRes)) | (refine Go.gt rfl ?_) | (refine Go.gf rfl ?_) | (with_reducible refine Go.join ?_) | (refine Go.lt' rfl ?_) | (refine Go.lf' rfl ?_) | ((with_reducible refine Go.bool ?_ ?_) <;> intro hc <;> (try simp only [List.length_map, ne_eq, hcs] at hc) <;> try (exfalso; omega)) | ((with_reducible refine Res.eq ?_ ?_); (· exact aFit)))
        refine Go.loop (fun p : Nat × List (Int × Int) => [(1, imI l), (2, .pt 0 1 0 0), (11, .sl (n3 + 9) l.length), (12, .mp (n3 + 11)), (51, imI l), (52, i64 l.length), (53, i64 p.1)])
          (fun p H n => p.1 ≤ l.length ∧ n3 + 12 ≤ n ∧ getH H 0 = some (.row 27 4 .any [x.av]) ∧ getH H (n3 + 9) = some (.row 3 1 (i64 0) (wC l.length (seeS x (l.take p.1)).2)) ∧ getH H (n3 + 11) = some (.row 3 0 .any (mapA (mapI p.2))) ∧ Tells p.2 (seeS x (l.take p.1)).1 ∧ (p.2.length ≤ p.1)) (fun p => l.length - p.1) (0, []) aLess ⟨Nat.zero_le _, aNx, aRow, by rw [List.take_zero, show (seeS x []).2 = fun _ => 0 from rfl, ← wC_zero, ← List.length_map (f := i64)]; exact aRow, aRow, fun _ => rfl, Nat.le_refl _⟩ ?_
        rintro ⟨i, E⟩ H4 n4 ⟨hi, hn4, r04, r9, r11, hte, hel⟩
        dsimp only at hi r9 r11 hte hel ⊢
        by_cases hil : i < l.length
        · have hkr := hran (l.getD i 0) (getD_mem' 0 hil)
          have hs := seeS_succ x (l := l) (i := i) hil
          generalize hS : seeS x (l.take i) = S at *
          generalize hK : (l.getD i 0) = k at *
          have hkk : l.getD (i : Int).toNat 0 = k := hK
          have hLt := hte (x.ev k.toNat).thing
          cases hrd : (x.ev k.toNat).rd with
          | false =>
            cases hwr : (x.ev k.toNat).wr with
            | false =>
              repeat' (first | ((with_reducible refine Go.red ?_); conv => whnf) | with_reducible (first | refine Go.and ?_ ?_ | exact True.intro | refine Go.far ?_ | exact Go.askRep | refine Go.unroll ?_ | refine Go.drawn ?_) | ((with_reducible refine Apt.mk ?_); (try dsimp only); omega) | ((with_reducible refine Ask.mk ?_); first | exact aAsk | (exact And.intro (wC_len _ _) rfl) | (exact wC_len _ _) | (exact And.intro wC_slen rfl) | (exact And.intro wC_slen trivial) | (exact wC_slen) | exact aAsk2 | (intro h; simp_all [Exec.cells, Deed.cells] <;> fail) | (simp_all [Exec.cells, Deed.cells] <;> fail)) | ((with_reducible refine Go.ari64 ?_ ?_ ?_); (· exact aBnd); (· exact aBnd)) | ((with_reducible refine Go.ariu8 ?_ ?_ ?_); (· exact aBnd); (· exact aBnd)) | (with_reducible refine Go.ari0 ?_) | (apply Go.elem; (· (first | exact int_get | exact ev_get | exact wC_sgetN _ _ (by omega) (by omega) | exact wC_getN (by omega) _ | exact aElem))) | (apply Go.row; (· exact aRow)) | (apply Go.map; (· exact aRow)) | (apply Go.gives; (· exact aGives)) | (apply Go.gives; (· exact aRes)) | ((with_reducible refine Go.callW (reads_pure _) ?_ ?_); (· exact aFit)) | ((with_reducible refine Go.callJ (fun _ => reads_pure _) ?_ ?_); (· exact aFit)) | ((with_reducible refine Go.callE (reads_pure _) ?_ ?_); (· exact aFit)) | ((with_reducible refine Go.callF (fun _ => reads_pure _) ?_ ?_); (· exact aFit)) | ((with_reducible refine Go.callW (writes_pure _) ?_ ?_); (· exact aFit)) | ((with_reducible refine Go.callJ (fun _ => writes_pure _) ?_ ?_); (· exact aFit)) | ((with_reducible refine Go.callE (writes_pure _) ?_ ?_); (· exact aFit)) | ((with_reducible refine Go.callF (fun _ => writes_pure _) ?_ ?_); (· exact aFit)) | (simp only [hkk]) | (simp only [hrd]) | (simp only [hwr]) | (apply Go.givesG (g := none); (· exact fun _ => getI _ _)) | (apply Go.givesG (g := none); (· exact fun _ => putI _ _ _)) | (refine Go.gt rfl ?_) | (refine Go.gf rfl ?_) | (with_reducible refine Go.join ?_) | (refine Go.lt' rfl ?_) | (refine Go.lf' rfl ?_) | ((with_reducible refine Go.bool ?_ ?_) <;> intro hc <;> (try simp only [List.length_map, ne_eq, hcs] at hc) <;> try (exfalso; omega)) | ((with_reducible refine Res.eq ?_ ?_); (· exact aFit)))
              have e : seeStep x S k = (S.1, updW S.2 k.toNat (-1)) := by simp only [seeStep, hrd, hwr]; rfl
              refine ⟨(i + 1, E), by dsimp only; omega, aLess, by dsimp only; omega, aNx, aRow, ?_, aRow, ?_, ?_⟩
              · rw [hs, e]; dsimp only; rw [← wC_set]; exact aRow
              · rw [hs, e]; exact hte
              · dsimp only; omega
            | true =>
              repeat' (first | ((with_reducible refine Go.red ?_); conv => whnf) | with_reducible (first | refine Go.and ?_ ?_ | exact True.intro | refine Go.far ?_ | exact Go.askRep | refine Go.unroll ?_ | refine Go.drawn ?_) | ((with_reducible refine Apt.mk ?_); (try dsimp only); omega) | ((with_reducible refine Ask.mk ?_); first | exact aAsk | (exact And.intro (wC_len _ _) rfl) | (exact wC_len _ _) | (exact And.intro wC_slen rfl) | (exact And.intro wC_slen trivial) | (exact wC_slen) | exact aAsk2 | (intro h; simp_all [Exec.cells, Deed.cells] <;> fail) | (simp_all [Exec.cells, Deed.cells] <;> fail)) | ((with_reducible refine Go.ari64 ?_ ?_ ?_); (· exact aBnd); (· exact aBnd)) | ((with_reducible refine Go.ariu8 ?_ ?_ ?_); (· exact aBnd); (· exact aBnd)) | (with_reducible refine Go.ari0 ?_) | (apply Go.elem; (· (first | exact int_get | exact ev_get | exact wC_sgetN _ _ (by omega) (by omega) | exact wC_getN (by omega) _ | exact aElem))) | (apply Go.row; (· exact aRow)) | (apply Go.map; (· exact aRow)) | (apply Go.gives; (· exact aGives)) | (apply Go.gives; (· exact aRes)) | ((with_reducible refine Go.callW (reads_pure _) ?_ ?_); (· exact aFit)) | ((with_reducible refine Go.callJ (fun _ => reads_pure _) ?_ ?_); (· exact aFit)) | ((with_reducible refine Go.callE (reads_pure _) ?_ ?_); (· exact aFit)) | ((with_reducible refine Go.callF (fun _ => reads_pure _) ?_ ?_); (· exact aFit)) | ((with_reducible refine Go.callW (writes_pure _) ?_ ?_); (· exact aFit)) | ((with_reducible refine Go.callJ (fun _ => writes_pure _) ?_ ?_); (· exact aFit)) | ((with_reducible refine Go.callE (writes_pure _) ?_ ?_); (· exact aFit)) | ((with_reducible refine Go.callF (fun _ => writes_pure _) ?_ ?_); (· exact aFit)) | (simp only [hkk]) | (simp only [hrd]) | (simp only [hwr]) | (apply Go.givesG (g := none); (· exact fun _ => getI _ _)) | (apply Go.givesG (g := none); (· exact fun _ => putI _ _ _)) | (refine Go.gt rfl ?_) | (refine Go.gf rfl ?_) | (with_reducible refine Go.join ?_) | (refine Go.lt' rfl ?_) | (refine Go.lf' rfl ?_) | ((with_reducible refine Go.bool ?_ ?_) <;> intro hc <;> (try simp only [List.length_map, ne_eq, hcs] at hc) <;> try (exfalso; omega)) | ((with_reducible refine Res.eq ?_ ?_); (· exact aFit)))
              have e : seeStep x S k = (updI S.1 (x.ev k.toNat).thing k, updW S.2 k.toNat (-1)) := by simp only [seeStep, hrd, hwr]; rfl
              refine ⟨(i + 1, putE E (x.ev k.toNat).thing k), by dsimp only; omega, aLess, by dsimp only; omega, aNx, aRow, ?_, aRow, ?_, ?_⟩
              · rw [hs, e]; dsimp only; rw [← wC_set]; exact aRow
              · rw [hs, e]; exact hte.put _ _
              · dsimp only; rw [len_put]; split <;> omega
          | true =>
            cases hwr : (x.ev k.toNat).wr with
            | false =>
              repeat' (first | ((with_reducible refine Go.red ?_); conv => whnf) | with_reducible (first | refine Go.and ?_ ?_ | exact True.intro | refine Go.far ?_ | exact Go.askRep | refine Go.unroll ?_ | refine Go.drawn ?_) | ((with_reducible refine Apt.mk ?_); (try dsimp only); omega) | ((with_reducible refine Ask.mk ?_); first | exact aAsk | (exact And.intro (wC_len _ _) rfl) | (exact wC_len _ _) | (exact And.intro wC_slen rfl) | (exact And.intro wC_slen trivial) | (exact wC_slen) | exact aAsk2 | (intro h; simp_all [Exec.cells, Deed.cells] <;> fail) | (simp_all [Exec.cells, Deed.cells] <;> fail)) | ((with_reducible refine Go.ari64 ?_ ?_ ?_); (· exact aBnd); (· exact aBnd)) | ((with_reducible refine Go.ariu8 ?_ ?_ ?_); (· exact aBnd); (· exact aBnd)) | (with_reducible refine Go.ari0 ?_) | (apply Go.elem; (· (first | exact int_get | exact ev_get | exact wC_sgetN _ _ (by omega) (by omega) | exact wC_getN (by omega) _ | exact aElem))) | (apply Go.row; (· exact aRow)) | (apply Go.map; (· exact aRow)) | (apply Go.gives; (· exact aGives)) | (apply Go.gives; (· exact aRes)) | ((with_reducible refine Go.callW (reads_pure _) ?_ ?_); (· exact aFit)) | ((with_reducible refine Go.callJ (fun _ => reads_pure _) ?_ ?_); (· exact aFit)) | ((with_reducible refine Go.callE (reads_pure _) ?_ ?_); (· exact aFit)) | ((with_reducible refine Go.callF (fun _ => reads_pure _) ?_ ?_); (· exact aFit)) | ((with_reducible refine Go.callW (writes_pure _) ?_ ?_); (· exact aFit)) | ((with_reducible refine Go.callJ (fun _ => writes_pure _) ?_ ?_); (· exact aFit)) | ((with_reducible refine Go.callE (writes_pure _) ?_ ?_); (· exact aFit)) | ((with_reducible refine Go.callF (fun _ => writes_pure _) ?_ ?_); (· exact aFit)) | (simp only [hkk]) | (simp only [hrd]) | (simp only [hwr]) | (apply Go.givesG (g := none); (· exact fun _ => getI _ _)) | (apply Go.givesG (g := none); (· exact fun _ => putI _ _ _)) | (refine Go.gt rfl ?_) | (refine Go.gf rfl ?_) | (with_reducible refine Go.join ?_) | (refine Go.lt' rfl ?_) | (refine Go.lf' rfl ?_) | ((with_reducible refine Go.bool ?_ ?_) <;> intro hc <;> (try simp only [List.length_map, ne_eq, hcs] at hc) <;> try (exfalso; omega)) | ((with_reducible refine Res.eq ?_ ?_); (· exact aFit)))
              · have hv : S.1 (x.ev k.toNat).thing = (lookE E (x.ev k.toNat).thing).getD 0 := by rw [hLt]; obtain ⟨v, hv⟩ := Option.isSome_iff_exists.1 hc.2; rw [hv]; rfl
                have e : seeStep x S k = (S.1, updW S.2 k.toNat (S.1 (x.ev k.toNat).thing)) := by simp only [seeStep, hrd, hwr]; rfl
                refine ⟨(i + 1, E), by dsimp only; omega, aLess, by dsimp only; omega, aNx, aRow, ?_, aRow, ?_, ?_⟩
                · rw [hs, e]; dsimp only; rw [hv, ← updW_updW S.2 k.toNat (-1), ← wC_set, ← wC_set]; exact aRow
                · rw [hs, e]; exact hte
                · dsimp only; omega
              · have hv : S.1 (x.ev k.toNat).thing = -1 := by rw [hLt]; rw [Option.isSome_eq_false_iff.1 (hc.elim (fun h => absurd trivial h) id) |> Option.isNone_iff_eq_none.1]; rfl
                have e : seeStep x S k = (S.1, updW S.2 k.toNat (S.1 (x.ev k.toNat).thing)) := by simp only [seeStep, hrd, hwr]; rfl
                refine ⟨(i + 1, E), by dsimp only; omega, aLess, by dsimp only; omega, aNx, aRow, ?_, aRow, ?_, ?_⟩
                · rw [hs, e]; dsimp only; rw [hv, ← wC_set]; exact aRow
                · rw [hs, e]; exact hte
                · dsimp only; omega
            | true =>
              repeat' (first | ((with_reducible refine Go.red ?_); conv => whnf) | with_reducible (first | refine Go.and ?_ ?_ | exact True.intro | refine Go.far ?_ | exact Go.askRep | refine Go.unroll ?_ | refine Go.drawn ?_) | ((with_reducible refine Apt.mk ?_); (try dsimp only); omega) | ((with_reducible refine Ask.mk ?_); first | exact aAsk | (exact And.intro (wC_len _ _) rfl) | (exact wC_len _ _) | (exact And.intro wC_slen rfl) | (exact And.intro wC_slen trivial) | (exact wC_slen) | exact aAsk2 | (intro h; simp_all [Exec.cells, Deed.cells] <;> fail) | (simp_all [Exec.cells, Deed.cells] <;> fail)) | ((with_reducible refine Go.ari64 ?_ ?_ ?_); (· exact aBnd); (· exact aBnd)) | ((with_reducible refine Go.ariu8 ?_ ?_ ?_); (· exact aBnd); (· exact aBnd)) | (with_reducible refine Go.ari0 ?_) | (apply Go.elem; (· (first | exact int_get | exact ev_get | exact wC_sgetN _ _ (by omega) (by omega) | exact wC_getN (by omega) _ | exact aElem))) | (apply Go.row; (· exact aRow)) | (apply Go.map; (· exact aRow)) | (apply Go.gives; (· exact aGives)) | (apply Go.gives; (· exact aRes)) | ((with_reducible refine Go.callW (reads_pure _) ?_ ?_); (· exact aFit)) | ((with_reducible refine Go.callJ (fun _ => reads_pure _) ?_ ?_); (· exact aFit)) | ((with_reducible refine Go.callE (reads_pure _) ?_ ?_); (· exact aFit)) | ((with_reducible refine Go.callF (fun _ => reads_pure _) ?_ ?_); (· exact aFit)) | ((with_reducible refine Go.callW (writes_pure _) ?_ ?_); (· exact aFit)) | ((with_reducible refine Go.callJ (fun _ => writes_pure _) ?_ ?_); (· exact aFit)) | ((with_reducible refine Go.callE (writes_pure _) ?_ ?_); (· exact aFit)) | ((with_reducible refine Go.callF (fun _ => writes_pure _) ?_ ?_); (· exact aFit)) | (simp only [hkk]) | (simp only [hrd]) | (simp only [hwr]) | (apply Go.givesG (g := none); (· exact fun _ => getI _ _)) | (apply Go.givesG (g := none); (· exact fun _ => putI _ _ _)) | (refine Go.gt rfl ?_) | (refine Go.gf rfl ?_) | (with_reducible refine Go.join ?_) | (refine Go.lt' rfl ?_) | (refine Go.lf' rfl ?_) | ((with_reducible refine Go.bool ?_ ?_) <;> intro hc <;> (try simp only [List.length_map, ne_eq, hcs] at hc) <;> try (exfalso; omega)) | ((with_reducible refine Res.eq ?_ ?_); (· exact aFit)))
              · have hv : S.1 (x.ev k.toNat).thing = (lookE E (x.ev k.toNat).thing).getD 0 := by rw [hLt]; obtain ⟨v, hv⟩ := Option.isSome_iff_exists.1 hc.2; rw [hv]; rfl
                have e : seeStep x S k = (updI S.1 (x.ev k.toNat).thing k, updW S.2 k.toNat (S.1 (x.ev k.toNat).thing)) := by simp only [seeStep, hrd, hwr]; rfl
                refine ⟨(i + 1, putE E (x.ev k.toNat).thing k), by dsimp only; omega, aLess, by dsimp only; omega, aNx, aRow, ?_, aRow, ?_, ?_⟩
                · rw [hs, e]; dsimp only; rw [hv, ← updW_updW S.2 k.toNat (-1), ← wC_set, ← wC_set]; exact aRow
                · rw [hs, e]; exact hte.put _ _
                · dsimp only; rw [len_put]; split <;> omega
              · have hv : S.1 (x.ev k.toNat).thing = -1 := by rw [hLt]; rw [Option.isSome_eq_false_iff.1 (hc.elim (fun h => absurd trivial h) id) |> Option.isNone_iff_eq_none.1]; rfl
                have e : seeStep x S k = (updI S.1 (x.ev k.toNat).thing k, updW S.2 k.toNat (S.1 (x.ev k.toNat).thing)) := by simp only [seeStep, hrd, hwr]; rfl
                refine ⟨(i + 1, putE E (x.ev k.toNat).thing k), by dsimp only; omega, aLess, by dsimp only; omega, aNx, aRow, ?_, aRow, ?_, ?_⟩
                · rw [hs, e]; dsimp only; rw [hv, ← wC_set]; exact aRow
                · rw [hs, e]; exact hte.put _ _
                · dsimp only; rw [len_put]; split <;> omega
        · have : i = l.length := by omega
          subst this
          rw [List.take_length, wC_one, hln] at r9
          repeat' (first | ((with_reducible refine Go.red ?_); conv => whnf) | with_reducible (first | refine Go.and ?_ ?_ | exact True.intro | refine Go.far ?_ | exact Go.askRep | refine Go.unroll ?_ | refine Go.drawn ?_) | ((with_reducible refine Apt.mk ?_); (try dsimp only); omega) | ((with_reducible refine Ask.mk ?_); first | exact aAsk | exact aAsk2) | ((with_reducible refine Go.ari64 ?_ ?_ ?_); (· exact aBnd); (· exact aBnd)) | ((with_reducible refine Go.ariu8 ?_ ?_ ?_); (· exact aBnd); (· exact aBnd)) | (with_reducible refine Go.ari0 ?_) | (apply Go.elem; (· exact aElem)) | (apply Go.row; (· exact aRow)) | (apply Go.map; (· exact aRow)) | (apply Go.gives; (· exact aGives)) | (apply Go.gives; (· exact aRes)) | (refine Go.gt rfl ?_) | (refine Go.gf rfl ?_) | (with_reducible refine Go.join ?_) | (refine Go.lt' rfl ?_) | (refine Go.lf' rfl ?_) | ((with_reducible refine Go.bool ?_ ?_) <;> intro hc <;> (try simp only [List.length_map, ne_eq, hcs] at hc) <;> try (exfalso; omega)) | ((with_reducible refine Res.eq ?_ ?_); (· exact aFit)))
          refine ⟨⟨_, rfl, .inr ⟨n3 + 9, i64 0, by rw [hln], by simp, ?_⟩⟩⟩
          exact aRow
      · obtain ⟨e2, e3⟩ := hbad (by
          rw [Bool.eq_false_iff]
          simp only [isLine, ne_eq, Bool.and_eq_true, decide_eq_true_eq]
          omega)
        rw [e2, e3]
        repeat' (first | ((with_reducible refine Go.red ?_); conv => whnf) | with_reducible (first | refine Go.and ?_ ?_ | exact True.intro | refine Go.far ?_ | exact Go.askRep | refine Go.unroll ?_ | refine Go.drawn ?_) | ((with_reducible refine Apt.mk ?_); (try dsimp only); omega) | ((with_reducible refine Ask.mk ?_); first | exact aAsk | exact aAsk2 | (intro h; simp_all [Exec.cells] <;> fail) | (simp_all [Exec.cells] <;> fail)) | ((with_reducible refine Go.ari64 ?_ ?_ ?_); (· exact aBnd); (· exact aBnd)) | ((with_reducible refine Go.ariu8 ?_ ?_ ?_); (· exact aBnd); (· exact aBnd)) | (with_reducible refine Go.ari0 ?_) | (apply Go.elem; (· exact aElem)) | (apply Go.row; (· exact aRow)) | (apply Go.map; (· exact aRow)) | (apply Go.gives; (· exact aGives)) | (apply Go.gives; (· exact aRes)) | (refine Go.gt rfl ?_) | (refine Go.gf rfl ?_) | (with_reducible refine Go.join ?_) | (refine Go.lt' rfl ?_) | (refine Go.lf' rfl ?_) | ((with_reducible refine Go.bool ?_ ?_) <;> intro hc <;> (try simp only [List.length_map, ne_eq, hcs] at hc) <;> try (exfalso; omega)) | ((with_reducible refine Res.eq ?_ ?_); (· exact aFit)))
        exact ⟨⟨_, rfl, .inl ⟨by decide, rfl, rfl⟩⟩⟩
end Go.Proofs.Ytncllkpekbapjaa
