/- A new machine, told as one. -/
import Derived.Test.YtliabecchkolgaaVn
namespace Go.Proofs.Ytliabecchkolgaa
open Go Go.Abs Go.Proofs
set_option linter.unusedSimpArgs false
set_option linter.unusedVariables false
theorem AVle.nilIm (c c2 : Cx) (sz : Nat) (d : AV) : AVle c c2 (.sc (.slice none 0 0)) (.im sz d []) := by
  intro v hv
  rw [VR] at hv
  subst hv
  rw [VR]
  exact ⟨none, 0, rfl, by simp, .inl rfl⟩
def addB (e : TypeId) (sz : Nat) (n : Nat) : Nat → Hp → Hp
  | 0, H => H
  | k + 1, H => (n + k, some (.row e sz .any [])) :: addB e sz n k H
theorem getH_addB {e : TypeId} {sz n : Nat} {H : Hp} {b : Nat} : ∀ (k : Nat), getH (addB e sz n k H) b = if n ≤ b ∧ b < n + k then some (.row e sz .any []) else getH H b
  | 0 => by simp only [addB]; rw [if_neg (by omega)]
  | k + 1 => by
    simp only [addB]
    by_cases h : b = n + k
    · subst h; rw [getH_here, if_pos (by omega)]
    · rw [getH_skipEq h, getH_addB k]
      by_cases h2 : n ≤ b ∧ b < n + k
      · rw [if_pos h2, if_pos (by omega)]
      · rw [if_neg h2, if_neg (by omega)]
def Born (o : Obj) (H : Hp) (nx : Nat) : AV → Hp → Nat → Prop := fun r H' n => ∃ L, r = .tup [.pt L.m 1 0 0, i64 0] ∧ MAt o (initM o) L H' n ∧ nx ≤ n ∧ (∀ b ∈ L.ids, nx ≤ b) ∧ ∀ b, b < nx → getH H' b = getH H b
def newLay (o : Obj) (m c mm n : Nat) : Lay := ⟨m, c, mm, n, (List.range o.cores.length).map fun i => n + 1 + i⟩
def newH (o : Obj) (m c mm n : Nat) (H' : Hp) : Hp := (m, some (.row 103 8 .any [machAv o (initM o) (newLay o m c mm n)])) :: (c, some (.row 98 19 .any (rows (initM o) (newLay o m c mm n)))) :: (n, some (.row 75 2 .any [])) :: addB 51 3 (n + 1) o.cores.length H'
theorem newH_at (o : Obj) {m c mm n : Nat} (H' : Hp) (b : Nat) (h1 : b ≠ m) (h2 : b ≠ c) (h3 : b < n) : getH (newH o m c mm n H') b = getH H' b := by
  rw [newH, getH_skipEq h1, getH_skipEq h2, getH_skipEq (by omega), getH_addB, if_neg (by omega)]
theorem newRows (o : Obj) (m c mm n : Nat) : rows (initM o) (newLay o m c mm n) = (List.range o.cores.length).map fun i => core0.av (n + 1 + i) := by
  simp only [rows, initM, newLay]
  apply List.ext_getElem
  · simp
  · intro i h1 h2
    simp
theorem newLay_ids (o : Obj) {m c mm n : Nat} {b : Nat} (h : b ∈ (newLay o m c mm n).ids) : b = m ∨ b = c ∨ b = mm ∨ (n ≤ b ∧ b < n + 1 + o.cores.length) := by
  simp only [newLay, Lay.ids, List.mem_cons, List.mem_map, List.mem_range] at h
  rcases h with h | h | h | h | ⟨i, hi, h⟩
  · exact .inl h
  · exact .inr (.inl h)
  · exact .inr (.inr (.inl h))
  · exact .inr (.inr (.inr (by omega)))
  · exact .inr (.inr (.inr (by omega)))
theorem newMAt (o : Obj) {m c mm n : Nat} {H2 : Hp} {d : AV} (hm : m < n) (hc : c < n) (hmm : mm < n) (a1 : m ≠ c) (a2 : m ≠ mm) (a3 : c ≠ mm)
    (h1 : ∃ d, getH H2 m = some (.row 103 8 d [machAv o (initM o) (newLay o m c mm n)])) (h2 : ∃ d, getH H2 c = some (.row 98 19 d (rows (initM o) (newLay o m c mm n))))
    (h3 : getH H2 mm = some (.row 2 1 d (o.mem.map i64))) (h4 : ∃ d, getH H2 n = some (.row 75 2 d [])) (h5 : ∀ i, i < o.cores.length → ∃ d, getH H2 (n + 1 + i) = some (.row 51 3 d [])) :
    MAt o (initM o) (newLay o m c mm n) H2 (n + 1 + o.cores.length) := by
  refine ⟨h1, h2, ⟨_, h3⟩, h4, ?_, ?_, ?_, ?_⟩
  · intro i hi
    have hi2 : i < o.cores.length := by simpa [initM] using hi
    have e1 : (newLay o m c mm n).bufs.getD i 0 = n + 1 + i := by simp [newLay, List.getD, hi2]
    have e2 : ((initM o).cores.getD i default).buf = [] := by simp [initM, List.getD, hi2, core0]
    rw [e1, e2]; exact h5 i hi2
  · simp [newLay, initM]
  · intro b hb
    rcases newLay_ids o hb with h | h | h | h <;> omega
  · simp only [newLay, Lay.ids, List.nodup_cons, List.mem_cons, not_or, List.mem_map, List.mem_range, not_exists, not_and]
    refine ⟨⟨a1, a2, by omega, fun i hi => by omega⟩, ⟨a3, by omega, fun i hi => by omega⟩, ⟨by omega, fun i hi => by omega⟩, fun i hi => by omega, ?_⟩
    refine List.pairwise_iff_getElem.2 fun i j hi hj hij => ?_
    simp; omega
theorem avle_core {c c2 : Cx} (hle : c.le c2) {b : Nat} (h : AVle c c2 (.sc (.slice none 0 0)) (.sl b 0)) : AVle c c2 zcore (core0.av b) :=
  AVle.agg (.cons (AVle.keep hle _) (.cons (AVle.keep hle _) (.cons (AVle.keep hle _) (.cons (AVle.keep hle _) (.cons (AVle.keep hle _) (.cons (AVle.keep hle _) (.cons (AVle.keep hle _) (.cons (AVle.keep hle _) (.cons (AVle.keep hle _) (.cons (AVle.keep hle _) (.cons (AVle.keep hle _) (.cons (AVle.keep hle _) (.cons (AVle.keep hle _) (.cons (AVle.keep hle _) (.cons (AVle.keep hle _) (.cons (AVle.keep hle _) (.cons (AVle.keep hle _) (.cons (AVle.keep hle _) (.cons h .nil)))))))))))))))))))
theorem new_tell {o : Obj} {m c mm n : Nat} {H' Hd : Hp} {v : AV} (hm : m < n) (hc : c < n) (hmm : mm < n) (a1 : m ≠ c) (a2 : m ≠ mm) (a3 : c ≠ mm)
    (r1 : ∃ d, getH H' m = some (.row 103 8 d [.agg [.sc (.slice none 0 0), i64 o.shared, i64 o.locks, i64 o.buffer, v, .sl c o.cores.length, .sl mm o.mem.length, .sc (.slice none 0 0)]]))
    (r2 : ∃ d, getH H' c = some (.row 98 19 d (List.replicate o.cores.length zcore)))
    (hd : ∀ b, getH Hd b = getH H' b ∨ getH Hd b = none)
    (hv2 : ∀ (w0 : World) (x x2 : Cx), Sim w0 x → x.H = getH H' → x2.w = x.w → x.le x2 → (∀ b k blk p z, getH H' b = some k → getH (newH o m c mm n Hd) b = none → x.ρ b = some (blk, p, z) → ¬ x2.M blk) → AVle x x2 v (.im 2 .any (o.cores.map Core.av))) :
    Wk (.tup [.pt m 1 0 0, i64 0]) H' n (.tup [.pt m 1 0 0, i64 0]) (newH o m c mm n Hd) (n + 1 + o.cores.length) := by
  obtain ⟨d1, r1⟩ := r1
  obtain ⟨d2, r2⟩ := r2
  have look : ∀ b, getH (newH o m c mm n Hd) b = if b = m then some (.row 103 8 .any [machAv o (initM o) (newLay o m c mm n)]) else if b = c then some (.row 98 19 .any (rows (initM o) (newLay o m c mm n))) else if b = n then some (.row 75 2 .any []) else if n + 1 ≤ b ∧ b < n + 1 + o.cores.length then some (.row 51 3 .any []) else getH Hd b := by
    intro b
    rw [newH]
    by_cases h1 : b = m
    · subst h1; rw [getH_here, if_pos rfl]
    rw [getH_skipEq h1, if_neg h1]
    by_cases h2 : b = c
    · subst h2; rw [getH_here, if_pos rfl]
    rw [getH_skipEq h2, if_neg h2]
    by_cases h3 : b = n
    · subst h3; rw [getH_here, if_pos rfl]
    rw [getH_skipEq h3, if_neg h3, getH_addB]
  refine Wk.tell (by omega) (fun b e sz d es he => ?_) (fun w0 x x2 hS hU hx hx2 hw hle hnew hM => ⟨AVle.keep hle _, fun b e sz d es d0 es0 he he0 => ?_⟩)
  · rw [look] at he
    by_cases h1 : b = m
    · subst h1; rw [if_pos rfl] at he; cases he
      exact .inl ⟨_, _, r1, rfl⟩
    rw [if_neg h1] at he
    by_cases h2 : b = c
    · subst h2; rw [if_pos rfl] at he; cases he
      exact .inl ⟨_, _, r2, by rw [newRows]; simp⟩
    rw [if_neg h2] at he
    by_cases h3 : b = n
    · subst h3; rw [if_pos rfl] at he; cases he
      exact .inr ⟨by omega, by omega, rfl, by omega⟩
    rw [if_neg h3] at he
    by_cases h4 : n + 1 ≤ b ∧ b < n + 1 + o.cores.length
    · rw [if_pos h4] at he; cases he
      exact .inr ⟨by omega, by omega, rfl, by omega⟩
    rw [if_neg h4] at he
    rcases hd b with h5 | h5
    · rw [h5] at he; exact .inl ⟨_, _, he, rfl⟩
    · rw [h5] at he; cases he
  · have hnil : ∀ b, (b = n ∨ (n + 1 ≤ b ∧ b < n + 1 + o.cores.length)) → AVle x x2 (.sc (.slice none 0 0)) (.sl b 0) := by
      intro b hb
      have hb2 : ∃ e sz, 0 < sz ∧ getH (newH o m c mm n Hd) b = some (.row e sz .any []) := by
        rw [look, if_neg (by omega), if_neg (by omega)]
        rcases hb with h | h
        · rw [if_pos h]; exact ⟨_, 2, by omega, rfl⟩
        · rw [if_neg (by omega), if_pos h]; exact ⟨_, 3, by omega, rfl⟩
      obtain ⟨e, sz, _, hb3⟩ := hb2
      obtain ⟨g1, g2⟩ := hnew b e sz .any (by omega) hb3
      exact AVle.nil g1 (by rw [hx2]; exact hb3) g2
    rw [look] at he
    by_cases h1 : b = m
    · subst h1; rw [if_pos rfl] at he; cases he
      rw [r1] at he0; cases he0
      have hlen : (initM o).cores.length = o.cores.length := by simp [initM]
      rw [machAv, hlen]
      exact .cons (AVle.agg (.cons (AVle.keep hle _) (.cons (AVle.keep hle _) (.cons (AVle.keep hle _) (.cons (AVle.keep hle _) (.cons (hv2 w0 x x2 hS hx hw hle hM) (.cons (AVle.keep hle _) (.cons (AVle.keep hle _) (.cons (hnil n (.inl rfl)) .nil))))))))) .nil
    rw [if_neg h1] at he
    by_cases h2 : b = c
    · subst h2; rw [if_pos rfl] at he; cases he
      rw [r2] at he0; cases he0
      rw [newRows]
      refine AVles.of_get (by simp) fun i hi => ?_
      have hi2 : i < o.cores.length := by simpa using hi
      have e1 : (List.replicate o.cores.length zcore).getD i .any = zcore := by simp [List.getD, hi2]
      have e2 : ((List.range o.cores.length).map fun i => core0.av (n + 1 + i)).getD i .any = core0.av (n + 1 + i) := by simp [List.getD, hi2]
      rw [e1, e2]
      exact avle_core hle (hnil _ (.inr ⟨by omega, by omega⟩))
    rw [if_neg h2] at he
    by_cases h3 : b = n
    · subst h3; rw [if_pos rfl] at he; cases he
      have := hU b (hS.row b _ _ _ _ (by rw [hx]; exact he0)).1
      omega
    rw [if_neg h3] at he
    by_cases h4 : n + 1 ≤ b ∧ b < n + 1 + o.cores.length
    · rw [if_pos h4] at he; cases he
      have := hU b (hS.row b _ _ _ _ (by rw [hx]; exact he0)).1
      omega
    rw [if_neg h4] at he
    rcases hd b with h5 | h5
    · rw [h5, he0] at he; cases he; exact AVles.keep hle _
    · rw [h5] at he; cases he
theorem born {o : Obj} {m c mm n nx : Nat} {H Hd : Hp} (hn : nx ≤ n) (hm : nx ≤ m ∧ m < n) (hc : nx ≤ c ∧ c < n) (hmm : nx ≤ mm ∧ mm < n) (a1 : m ≠ c) (a2 : m ≠ mm) (a3 : c ≠ mm) (r3 : ∃ d, getH Hd mm = some (.row 2 1 d (o.mem.map i64))) (hf : ∀ b, b < nx → getH Hd b = getH H b) :
    Born o H nx (.tup [.pt m 1 0 0, i64 0]) (newH o m c mm n Hd) (n + 1 + o.cores.length) := by
  obtain ⟨d3, r3⟩ := r3
  have look : ∀ b, getH (newH o m c mm n Hd) b = if b = m then some (.row 103 8 .any [machAv o (initM o) (newLay o m c mm n)]) else if b = c then some (.row 98 19 .any (rows (initM o) (newLay o m c mm n))) else if b = n then some (.row 75 2 .any []) else if n + 1 ≤ b ∧ b < n + 1 + o.cores.length then some (.row 51 3 .any []) else getH Hd b := by
    intro b
    rw [newH]
    by_cases h1 : b = m
    · subst h1; rw [getH_here, if_pos rfl]
    rw [getH_skipEq h1, if_neg h1]
    by_cases h2 : b = c
    · subst h2; rw [getH_here, if_pos rfl]
    rw [getH_skipEq h2, if_neg h2]
    by_cases h3 : b = n
    · subst h3; rw [getH_here, if_pos rfl]
    rw [getH_skipEq h3, if_neg h3, getH_addB]
  refine ⟨newLay o m c mm n, rfl, ?_, by omega, fun b hb => ?_, fun b hb => ?_⟩
  · have r3b : getH (newH o m c mm n Hd) mm = some (.row 2 1 d3 (o.mem.map i64)) := by
      rw [look, if_neg (Ne.symm a2), if_neg (Ne.symm a3), if_neg (by omega), if_neg (by omega)]; exact r3
    refine newMAt (d := d3) o hm.2 hc.2 hmm.2 a1 a2 a3 ⟨_, by rw [look, if_pos rfl]⟩ ⟨_, by rw [look, if_neg (Ne.symm a1), if_pos rfl]⟩ r3b ⟨_, by rw [look, if_neg (by omega), if_neg (by omega), if_pos rfl]⟩ (fun i hi => ⟨_, by rw [look, if_neg (by omega), if_neg (by omega), if_neg (by omega), if_pos (by omega)]⟩)
  · rcases newLay_ids o hb with h | h | h | h <;> omega
  · rw [look, if_neg (by omega), if_neg (by omega), if_neg (by omega), if_neg (by omega)]; exact hf b hb
theorem new_ok {o : Obj} (ho : o.Wf) (ok : ObjOk o) (h : objOk o = true) {H : Hp} {nx : Nat} : CallN Try.prog 33 [o.av] H nx (Born o H nx) := by
  refine (new_ok0 ho ok h).wk ?_
  rintro r H' n ⟨hn, m, c, mm, v, rfl, hm, hc, hmm, a1, a2, a3, ⟨d1, _, r1, rfl⟩, ⟨d2, _, r2, rfl⟩, ⟨d3, r3⟩, hv, hf⟩
  rcases hv with ⟨rfl, hoc⟩ | ⟨cb, d4, rfl, hcb, b1, b2, b3, r4⟩
  · refine ⟨_, _, _, new_tell (Hd := H') hm.2 hc.2 hmm.2 a1 a2 a3 ⟨_, r1⟩ ⟨_, r2⟩ (fun b => .inl rfl) (fun w0 x x2 _ _ _ _ _ => ?_), born hn hm hc hmm a1 a2 a3 ⟨_, r3⟩ hf⟩
    rw [hoc]; exact AVle.nilIm _ _ _ _
  · refine ⟨_, _, _, new_tell (Hd := (cb, none) :: H') hm.2 hc.2 hmm.2 a1 a2 a3 ⟨_, r1⟩ ⟨_, r2⟩ (fun b => ?_) (fun w0 x x2 hS hx hw hle hM => ?_), born hn hm hc hmm a1 a2 a3 ⟨d3, by rw [getH_skipEq (Ne.symm b3)]; exact r3⟩ (fun b hb => by rw [getH_skipEq (by omega)]; exact hf b hb)⟩
    · by_cases hb : b = cb
      · subst hb; exact .inr (getH_here _ _ _)
      · exact .inl (getH_skipEq hb)
    · have hl : o.cores.length = (o.cores.map Core.av).length := by simp
      rw [hl]
      refine AVle.im hS hle .any hw (by rw [hx]; exact r4) (fun blk p z hρ => hM cb _ blk p z r4 ?_ hρ)
      rw [newH_at o _ _ b1 b2 hcb.2, getH_here]
end Go.Proofs.Ytliabecchkolgaa
