/- Parts of slices; copies; equal cells. -/
import Derived.Test.YtliabecchkolgaaAbsH
import Derived.Laws.Slices
import Derived.Laws.CopyRow
import Derived.ChangeKeysEq
namespace Go.Abs
open Go.RowKit

section
variable {P : Program} {o : Oper} {a : Act} {w0 : World} {c : Cx} {id : Nat} {fr : Fr} {H : Hp} {lop : LOp} {r : AV} {u : Option (Nat × Blk)}

theorem bnd_spec {lo : Option Operand} {lo' : Option Opd} {d l : Nat} (hF : FR c fr a.tmps) (h1 : lowO lo = some lo') (h : bndA d (lo'.map (ev fr)) = some l) :
    (lo.map a.eval = none ∧ l = d) ∨ ∃ k j, lo.map a.eval = some (.int k j) ∧ 0 ≤ j ∧ l = j.toNat := by
  cases lo with
  | none =>
    simp only [lowO, Option.some.injEq] at h1
    subst h1
    simp only [Option.map_none, bndA, Option.some.injEq] at h
    exact .inl ⟨rfl, h.symm⟩
  | some x =>
    simp only [lowO, Option.map_eq_some_iff] at h1
    obtain ⟨x', h1, rfl⟩ := h1
    have hv := evR hF h1
    simp only [Option.map_some] at h ⊢
    generalize ev fr x' = A at h hv
    unfold bndA at h
    split at h
    · rename_i he; cases he
    · rename_i k j he
      simp only [Option.some.injEq] at he
      subst he
      rw [VR] at hv
      simp only [Option.ite_none_right_eq_some, Option.some.injEq] at h
      exact .inr ⟨k, j, by rw [hv], h.1, h.2.symm⟩
    · simp at h

open Go in
theorem run_slc {t e : TypeId} {sz : Nat} (ht : P.underlying t = some (.slice e)) (hsz : szT P e = some sz) (w : World) {ad : Option Addr} {len cap l h : Nat} (hc : len ≤ cap) {lo hi : Option Value}
    (hl : (lo = none ∧ l = 0) ∨ ∃ k j, lo = some (.int k j) ∧ 0 ≤ j ∧ l = j.toNat) (hh : (hi = none ∧ h = len) ∨ ∃ k j, hi = some (.int k j) ∧ 0 ≤ j ∧ h = j.toNat) (h1 : l ≤ h) (h2 : h ≤ len) :
    (Instr.sliceAt t (.slice ad len cap) lo hi none).run P w = .ok (sliced ad l h cap sz) w := by
  have he : P.elem t = e := by simp [Program.elem, ht]
  have ht' : P.underlying t = some (.slice (P.elem t)) := by rw [he]; exact ht
  rw [run_sliceAt_slice w t _ _ _ _ ht']
  have hs : ∀ w, (sizeOf (P.elem t)).run P w = .ok sz w := fun w => by rw [he]; exact run_sizeOf hsz w
  rcases hl with ⟨rfl, rfl⟩ | ⟨k, j, rfl, hj, rfl⟩ <;> rcases hh with ⟨rfl, rfl⟩ | ⟨k2, j2, rfl, hj2, rfl⟩
  · rw [run_slice_all w t ad h cap ht', hs]; rfl
  · rw [run_slice_h w t ad len cap ht' k2 j2 hj2 (by omega), hs]; rfl
  · rw [run_slice_l w t ad h cap ht' k j hj (by omega), hs]; rfl
  · rw [run_slice_lh w t ad len cap ht' k k2 j j2 hj (by omega) (by omega), hs]; rfl

theorem goes_slc {t e : TypeId} {sz : Nat} {x : Operand} {x' : Opd} {lo hi : Option Operand} {lo' hi' : Option Opd} (ho : o.op = .slice t x lo hi none) (ht : P.underlying t = some (.slice e)) (hsz : szT P e = some sz) (h : Sim w0 c) (hH : c.H = getH H) (hF : FR c fr a.tmps)
    (h1 : lowOpd x = some x') (h2 : lowO lo = some lo') (h3 : lowO hi = some hi') (hr : slcA H sz (lo'.map (ev fr)) (hi'.map (ev fr)) (ev fr x') = some r) : Goes P o a w0 c id r c.H := by
  have hx := evR hF h1
  have hrun : ∀ ad len cap l hh, a.eval x = .slice ad len cap → len ≤ cap → bndA 0 (lo'.map (ev fr)) = some l → bndA len (hi'.map (ev fr)) = some hh → l ≤ hh → hh ≤ len → (execOp a.eval o).run P c.w = .ok (.value (sliced ad l hh cap sz)) c.w := by
    intro ad len cap l hh hv hc e1 e2 g1 g2
    have := run_slc ht hsz c.w hc (bnd_spec hF h2 e1) (bnd_spec hF h3 e2) g1 g2 (ad := ad)
    unfold execOp
    simp only [ho, hv, Option.map_none, Sem.run_bind, this, Result.andThen_ok, Sem.run_pure]
  generalize ev fr x' = A at hr hx
  unfold slcA at hr
  split at hr
  · rename_i s d es
    split at hr
    · rename_i l hh e1 e2
      simp only [Option.ite_none_right_eq_some, Option.some.injEq] at hr
      obtain ⟨⟨rfl, g1, g2⟩, rfl⟩ := hr
      rw [VR] at hx
      obtain ⟨ad, cap, hv, hc, hor⟩ := hx
      refine goes_value h (hrun _ _ _ _ _ hv hc e1 e2 g1 g2) ?_
      rw [VR]
      have hlen : ((es.drop l).take (hh - l)).length = hh - l := by simp; omega
      refine ⟨_, _, by unfold sliced; rw [hlen], by rw [hlen]; omega, ?_⟩
      by_cases h0 : hh = l
      · subst h0; exact .inl (by simp)
      · rcases hor with h0' | ⟨blk, off, rfl, hz, hm, hrow⟩
        · subst h0'; simp at g2; omega
        · refine .inr ⟨blk, off + l * s, ?_, hz, hm, VRow_part hrow l (hh - l) (by omega)⟩
          rw [if_neg (by omega)]
          simp [Addr.add_lit]
    · simp at hr
  · rename_i b len
    split at hr
    · rename_i e' s d es l hh hb e1 e2
      simp only [Option.ite_none_right_eq_some, Option.some.injEq] at hr
      obtain ⟨⟨hlen, rfl, g1, g2⟩, rfl⟩ := hr
      rw [VR] at hx
      obtain ⟨hU, ad, cap, hv, hrr⟩ := hx
      rw [← hH] at hb
      obtain ⟨hle, hrr⟩ := hrr _ _ _ _ hb
      obtain ⟨_, _, hrow⟩ := h.row b _ _ _ _ hb
      have hcap : len ≤ cap := by
        rcases hrr hlen with ⟨hρ, _, hc0⟩ | ⟨blk, off, z, hρ, _, hc, _⟩
        · rcases hrow with ⟨_, h0⟩ | ⟨_, _, _, hρ', _⟩
          · subst h0; simp at hlen; omega
          · rw [hρ] at hρ'; cases hρ'
        · exact hc
      refine goes_value h (hrun _ _ _ _ _ hv hcap e1 e2 g1 g2) ?_
      rw [VR]
      refine ⟨hU, by omega, _, _, rfl, by omega, fun e2 sz2 d2 es2 he2 => ?_⟩
      rw [hb] at he2
      simp only [Option.some.injEq, Blk.row.injEq] at he2
      obtain ⟨rfl, rfl, rfl, rfl⟩ := he2
      refine ⟨hle, fun _ => ?_⟩
      by_cases h0 : hh = l
      · exact .inl (by omega)
      · rcases hrr hlen with ⟨hρ, _, hc0⟩ | ⟨blk, off, z, hρ, rfl, hc, _⟩
        · omega
        · refine .inr ⟨blk, off, z, hρ, ?_⟩
          rw [if_neg (by omega)]
          simp [Addr.add_lit]
    · simp at hr
  · rename_i b len l0 n
    split at hr
    · rename_i e' s d es l hh hb e1 e2
      simp only [Option.ite_none_right_eq_some, Option.some.injEq] at hr
      obtain ⟨⟨hlen, rfl, g1, g2⟩, rfl⟩ := hr
      rw [VR] at hx
      obtain ⟨hU, hln, ad, cap, hv, hc, hrr⟩ := hx
      rw [← hH] at hb
      obtain ⟨hle, hrr⟩ := hrr _ _ _ _ hb
      refine goes_value h (hrun _ _ _ _ _ hv hc e1 e2 g1 g2) ?_
      rw [VR]
      refine ⟨hU, by omega, _, _, rfl, by omega, fun e2 sz2 d2 es2 he2 => ?_⟩
      rw [hb] at he2
      simp only [Option.some.injEq, Blk.row.injEq] at he2
      obtain ⟨rfl, rfl, rfl, rfl⟩ := he2
      refine ⟨hle, fun _ => ?_⟩
      by_cases h0 : hh = l
      · exact .inl (by omega)
      · rcases hrr hlen with h00 | ⟨blk, off, z, hρ, rfl⟩
        · omega
        · refine .inr ⟨blk, off, z, hρ, ?_⟩
          rw [if_neg (by omega)]
          simp only [Option.map_some, Addr.add_lit, Option.some.injEq, Addr.mk.injEq, and_true, true_and]
          rw [Nat.add_mul]; omega
    · simp at hr
  · split at hr
    · rename_i l hh e1 e2
      simp only [Option.ite_none_right_eq_some, Option.some.injEq] at hr
      obtain ⟨⟨rfl, rfl⟩, rfl⟩ := hr
      rw [VR] at hx
      refine goes_value h (hrun _ _ _ _ _ hx (Nat.le_refl _) e1 e2 (Nat.le_refl _) (Nat.le_refl _)) ?_
      rw [VR]; rfl
    · simp at hr
  · simp at hr

theorem run_copy_sz (w : World) (dT sT ty elem : TypeId) {sz : Nat} (g o dLen dCap : Nat) (ad : Addr) (sLen sCap : Nat) (cur : Array Value) (t : TypeId) (cs : List Value)
    (hu : P.underlying dT = some (.slice elem)) (hs : szT P elem = some sz)
    (hg : w.heap[g]? = some (.cells cur t (0, 0))) (hn : cs.length = Nat.min sLen dLen * sz)
    (hsrc : ∀ j v, cs[j]? = some v → w.cell? (ad.add j) = some v) (hfit : o + cs.length ≤ cur.size) (h1 : ∀ v ∈ cs, v.oneCell' = true) :
    (Builtin.copy_ #[dT, sT] ty #[.slice (some ⟨g, o, none⟩) dLen dCap, .slice (some ad) sLen sCap]).run P w =
      .ok (goInt (Nat.min sLen dLen)) (w.setRow g (cur.toList.take o ++ cs ++ cur.toList.drop (o + cs.length)).toArray) := by
  have hl := run_firstCells_some (P := P) w sz (Nat.min sLen dLen) ad sLen sCap cs hn hsrc
  have hst := run_storeCells_at P g o t cs 0 cur w hg (by simpa using hfit) h1
  simp [Builtin.copy_, run_underlying hu, Builtin.lenOf, run_sizeOf hs, hl, hst]

theorem run_copy_zero (w : World) (dT sT ty elem : TypeId) {sz : Nat} (dp sp : Option Addr) (dLen dCap sLen sCap : Nat) (hu : P.underlying dT = some (.slice elem)) (hs : szT P elem = some sz) (hn : Nat.min sLen dLen = 0) :
    (Builtin.copy_ #[dT, sT] ty #[.slice dp dLen dCap, .slice sp sLen sCap]).run P w = .ok (goInt 0) w := by
  have hl : ∀ (x : Addr), (loadCells x 0).run P w = .ok #[] w := fun x => by simpa using run_loadCells_list (P := P) w x [] (by simp)
  cases dp <;> cases sp <;> simp [Builtin.copy_, run_underlying hu, Builtin.lenOf, Builtin.firstCells, run_sizeOf hs, hn, storeCells, hl]

theorem goes_cpy {x y : Operand} {x' y' : Opd} {t t2 e : TypeId} {sz : Nat} (ho : o.op = .call { callee := .builtin .copy, args := #[x, y], argTypes := #[t, t2] }) (ht : P.underlying t = some (.slice e)) (hsz : szT P e = some sz)
    (h : Sim w0 c) (hH : c.H = getH H) (hF : FR c fr a.tmps) (h1 : lowOpd x = some x') (h2 : lowOpd y = some y') {b len : Nat} (hx' : ev fr x' = .sl b len) {xs : List AV} (he : elemsA H (ev fr y') = some xs) (hs : szA H sz (ev fr y') = true)
    {e' : TypeId} {d : AV} {es : List AV} (hb : getH H b = some (.row e' sz d es)) (hlen : es.length = len) :
    Goes P o a w0 c id (.sc (.int .i64 (Nat.min xs.length len : Nat))) (upd c.H b (some (.row e' sz d (xs.take (Nat.min xs.length len) ++ es.drop (Nat.min xs.length len))))) := by
  have hx := evR hF h1
  rw [hx'] at hx
  obtain ⟨sp, scap, hyv, hrow⟩ := elems_spec h hH (evR hF h2) he hs
  have hcall : ∀ {v : Value} {W : World} {dp : Option Addr} {dcap : Nat}, a.eval x = .slice dp len dcap → (Builtin.copy_ #[t, t2] o.type #[.slice dp len dcap, .slice sp xs.length scap]).run P c.w = .ok v W → (execOp a.eval o).run P c.w = .ok (.value v) W := by
    intro v W dp dcap hv hr
    unfold execOp
    simp only [ho, resolve, invoke, builtin, Sem.run_bind, Sem.run_pure, Result.andThen_ok, List.map_toArray, List.map_cons, List.map_nil, hv, hyv, hr]
  have hxx := hx
  rw [VR] at hx
  obtain ⟨hU, dp, dcap, hv, hrr⟩ := hx
  have hb' := hb
  rw [← hH] at hb'
  obtain ⟨hle, hrr⟩ := hrr _ _ _ _ hb'
  obtain ⟨_, hz, hor⟩ := h.row b _ _ _ _ hb'
  have hmn : Nat.min xs.length len ≤ xs.length ∧ Nat.min xs.length len ≤ len := ⟨Nat.min_le_left _ _, Nat.min_le_right _ _⟩
  generalize hm : Nat.min xs.length len = m at hmn ⊢
  by_cases hm0 : m = 0
  · subst hm0
    have hsame : upd c.H b (some (.row e' sz d (xs.take 0 ++ es.drop 0))) = c.H := by
      funext y
      by_cases hy : y = b
      · subst hy; simp [hb']
      · exact upd_ne _ _ hy
    rw [hsame]
    exact goes_value h (hcall hv (run_copy_zero c.w t t2 o.type e dp sp len dcap xs.length scap ht hsz hm)) (by rw [VR]; rfl)
  rcases hor with ⟨_, h0⟩ | ⟨blk, off, z, hρ, hlow, ⟨arr, harr, hsz'⟩, hlz, hold⟩
  · subst h0; simp at hlen; omega
  rcases hrr hlen with ⟨h0, _⟩ | ⟨blk1, off1, z1, hρ1, rfl, hcap, _, _⟩
  · rw [hρ] at h0; cases h0
  rw [hρ] at hρ1; cases hρ1
  rcases hrow with h0 | ⟨sb, so, rfl, hsrow⟩
  · subst h0; simp at hmn; omega
  have hsrow' := VRow_part hsrow 0 m (by omega)
  simp only [List.drop_zero, Nat.zero_mul, Nat.add_zero] at hsrow'
  obtain ⟨news, n1, n2, n3, n4⟩ := VRow_flat hsrow'
  have hml : (xs.take m).length = m := by simp; omega
  rw [hml] at n1 n4
  have hmsz : m * sz ≤ es.length * sz := Nat.mul_le_mul_right _ (by omega)
  have hrun := run_copy_sz (P := P) c.w t t2 o.type e blk off len dcap ⟨sb, so, none⟩ xs.length scap arr e' news ht hsz harr (by rw [hm]; exact n1) (fun j v hj => by
    rw [Addr.add_lit, n2 j (List.getElem?_eq_some_iff.1 hj).1, hj]) (by omega) n3
  rw [hm] at hrun
  intro K Q hK
  unfold Oper.wp
  rw [hcall hv hrun, Oper.upon_value]
  have hbl := setRow_heap c.w blk arr (arr.toList.take off ++ news ++ arr.toList.drop (off + news.length)).toArray e' (0, 0) harr
  have hcell : ∀ k, k < arr.size → (arr.toList.take off ++ news ++ arr.toList.drop (off + news.length)).toArray[k]? = if off ≤ k ∧ k < off + m * sz then news[k - off]? else arr[k]? := by
    intro k hk
    simp only [List.getElem?_toArray, List.append_assoc, List.getElem?_append, List.length_take, Array.length_toList]
    have hmin : min off arr.size = off := by omega
    rw [hmin]
    by_cases h1 : k < off
    · rw [if_pos h1, if_neg (by omega)]; simp [h1]
    · rw [if_neg h1]
      by_cases h2 : k < off + m * sz
      · rw [if_pos (by omega), if_pos ⟨by omega, h2⟩]
      · rw [if_neg (by omega), if_neg (by omega), List.getElem?_drop]
        simp
        congr 1
        omega
  have hnl : (xs.take m ++ es.drop m).length = es.length := by simp; omega
  obtain ⟨p1, p2⟩ := nxt_put (id := id) (h.put (b := b) (e := e') (sz := sz) d (es := xs.take m ++ es.drop m) (w' := c.w.setRow blk (arr.toList.take off ++ news ++ arr.toList.drop (off + news.length)).toArray) (blk := blk) (o := off) (z := z) hz
    (.inr ⟨e', d, es, hb', .inl ⟨hnl.symm, hρ⟩⟩) (.inr ⟨_, _, _, hb', hρ⟩) rfl rfl rfl (by simp) (fun k' _ hne => setRow_other c.w blk k' _ hne) hbl (by simp; omega) (by rw [hnl]; exact hlz) (fun i hi => by
      rw [hnl] at hi
      have hisz : i * sz + sz ≤ es.length * sz := by rw [← Nat.succ_mul]; exact Nat.mul_le_mul_right _ hi
      by_cases him : i < m
      · obtain ⟨u, u1, u2, u3, u4⟩ := n4 i him
        have hjm : i * sz + sz ≤ m * sz := by rw [← Nat.succ_mul]; exact Nat.mul_le_mul_right _ him
        refine ⟨u, ⟨u1, fun j hj => ?_, u3⟩, ?_⟩
        · rw [cell_of_row _ blk _ _ e' (0, 0) hbl, hcell _ (by omega), if_pos (by omega), ← u2 j hj]
          congr 1
          omega
        · have : (xs.take m ++ es.drop m).getD i .any = (xs.take m).getD i .any := by
            simp only [List.getD, List.getElem?_append, hml, him, if_true]
          rw [this]; exact u4
      · obtain ⟨u, ⟨u1, u2, u3⟩, u4⟩ := VRow_get hold i hi
        have hjm : m * sz ≤ i * sz := Nat.mul_le_mul_right _ (by omega)
        refine ⟨u, ⟨u1, fun j hj => ?_, u3⟩, ?_⟩
        · rw [cell_of_row _ blk _ _ e' (0, 0) hbl, hcell _ (by omega), if_neg (by omega), ← u2 j hj, cell_of_row c.w blk _ arr e' (0, 0) harr]
        · have : (xs.take m ++ es.drop m).getD i .any = es.getD i .any := by
            simp only [List.getD, List.getElem?_append, hml, him, if_false, List.getElem?_drop]
            rw [show m + (i - m) = i by omega]
          rw [this]; exact u4)) hU
  have hρeq : upd c.ρ b (some (blk, off, z)) = c.ρ := by
    funext x
    by_cases hxb : x = b
    · subst hxb; simp [hρ]
    · exact upd_ne _ _ hxb
  rw [hρeq] at p1 p2
  exact hK _ _ _ p1 p2 (by rw [VR]; rfl)
end
end Go.Abs
