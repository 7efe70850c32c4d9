/- The library's sort, as the walks take it. -/
import Derived.Test.YtncllkpekbapjaaPc
import Derived.Test.YtncllkpekbapjaaShelf
import Derived.Sort.Grow
namespace Go.Proofs.Ytncllkpekbapjaa
open Go Go.Abs Go.Proofs Go.RowKit Go.Sort
set_option linter.unusedSimpArgs false
set_option linter.unusedVariables false
def sorted (l : List Int) : List Int := l.mergeSort fun x y => decide (x ≤ y)
theorem sorted_len (l : List Int) : (sorted l).length = l.length := by simp [sorted]
theorem heap_sorted_at {w : World} {g n o : Nat} {os : Array Obj} {cur : Array Value} {e : TypeId} {fr : Nat × Nat} (d : Array Int) (hb : w.heap[g]? = some (.cells cur e fr)) :
    (grow (putRow (Value.int .i64) (Sort.ahead w n) g o d) os).heap[g]? = some (.cells (putCells (Value.int .i64) o d cur) e fr) := by
  have hg : g < w.heap.size := (Array.getElem?_eq_some_iff.1 hb).1
  rw [heap_grow_old _ _ (by simpa using hg)]
  simp [putRow, mapBlock, Sort.ahead, Array.getElem?_modify, hb, onCells]
theorem heap_sorted_ne {w : World} {g n o k : Nat} {os : Array Obj} (d : Array Int) (hk : k < w.heap.size) (hne : k ≠ g) :
    (grow (putRow (Value.int .i64) (Sort.ahead w n) g o d) os).heap[k]? = w.heap[k]? := by
  rw [heap_grow_old _ _ (by simpa using hk)]
  simp [putRow, mapBlock, Sort.ahead, Array.getElem?_modify, Ne.symm hne]
theorem int_one (n : Int) : (Value.int .i64 n).cells = #[.int .i64 n] := rfl
theorem sort_some (b : Nat) (l : List Int) (d : AV) (H : Hp) (nx : Nat) (hb : getH H b = some (.row 3 1 d (l.map i64))) (hlt : b < nx) (hl : l.length * 8 ≤ 140737488351232) (h0 : l ≠ []) :
    CallN Try.prog 45 [.sl b l.length] H nx (fun r H' n => r = .tup [] ∧ n = nx ∧ H' = (b, some (.row 3 1 d ((sorted l).map i64))) :: H) := by
  refine ⟨⟨Try.f45, Try.func45, by kernel_rfl, by kernel_rfl⟩, fun w0 c vs hS hH hU hv => ?_⟩
  rw [VRs] at hv
  obtain ⟨v, vs', rfl, hv, hv2⟩ := hv
  rw [VRs] at hv2
  subst hv2
  rw [VR] at hv
  obtain ⟨hUb, a, cap, rfl, hr⟩ := hv
  have hcb : c.H b = some (.row 3 1 d (l.map i64)) := by rw [hH]; exact hb
  obtain ⟨_, hr2⟩ := hr _ _ _ _ hcb
  have hr3 := hr2 (by simp)
  obtain ⟨_, _, hor⟩ := hS.rowQ b _ _ _ _ hcb (.inr (by omega))
  have hln : 0 < l.length := List.length_pos_iff.2 h0
  rcases hor with ⟨_, hes⟩ | ⟨blk, o, z, hρ, hlow, ⟨arr, harr, hsz⟩, hlz, hrow⟩
  · exact absurd (List.map_eq_nil_iff.1 hes) h0
  rcases hr3 with ⟨h1, _, _⟩ | ⟨blk', o', z', h1, rfl, hc1, hc2, hc3, _⟩
  · rw [hρ] at h1; cases h1
  rw [hρ] at h1
  cases h1
  have hblk : blk < c.w.heap.size := (Array.getElem?_eq_some_iff.1 harr).1
  have hlm : (l.map i64).length * 1 ≤ z := hlz
  simp only [List.length_map, Nat.mul_one] at hlm
  have hcell : ∀ j, j < l.length → arr[o + j]? = some (.int .i64 (l.getD j 0)) := fun j hj => by
    obtain ⟨v, ⟨hv1, hv2, _⟩, hv3⟩ := VRow_get hrow j (by simpa using hj)
    rw [getD_av (f := i64) (h := hj)] at hv3
    rw [VR] at hv3
    subst hv3
    have := hv2 0 (by omega)
    simp only [World.cell?, harr, int_one, Nat.mul_one, Nat.add_zero, Option.isSome_none, Bool.false_eq_true, if_false] at this
    rw [this]; rfl
  have hHolds : Holds (Value.int .i64) c.w blk o l.toArray := by
    intro j hj
    have hj' : j < l.length := by simpa using hj
    refine ⟨?_, ?_⟩
    · simp only [World.cell?, harr, Option.isSome_none, Bool.false_eq_true, if_false]
      rw [hcell j hj']
      simp [hj', List.getD]
    · simp only [World.frozen?, harr]
      simp
  refine (Try.slices_Sort_int blk o cap l c.w hHolds hblk (by omega)).mono ?_
  rintro e w' ⟨rfl, n, os, rfl⟩
  have hsl : (sorted l).length = l.length := sorted_len l
  have hput := hS.putG (b := b) (e := 3) (sz := 1) d (es := (sorted l).map i64) (w' := grow (putRow (Value.int .i64) (Sort.ahead c.w n) blk o (sorted l).toArray) os) (blk := blk) (o := o) (z := z) (arr := putCells (Value.int .i64) o (sorted l).toArray arr) (by omega)
    (.inr ⟨_, _, _, hcb, .inl ⟨by simp [hsl], hρ⟩⟩) (.inr ⟨_, _, _, hcb, hρ⟩) rfl rfl rfl (by simp [grow, putRow, mapBlock, Sort.ahead]) (fun k hk hne => heap_sorted_ne _ hk hne) (heap_sorted_at _ harr) (by simp [putCells]; exact hsz) (by simp [hsl]; exact hlm) (fun hle i hi => by
      have hi' : i < (sorted l).length := by simpa using hi
      refine ⟨.int .i64 ((sorted l).getD i 0), ⟨by rw [int_one]; rfl, fun j hj => ?_, fun j u hu => ?_⟩, ?_⟩
      · have : j = 0 := by omega
        subst this
        simp only [World.cell?, heap_sorted_at _ harr, Option.isSome_none, Bool.false_eq_true, if_false, int_one, Nat.mul_one, Nat.add_zero]
        have ho : o + i < arr.size := by omega
        simp [putCells, ho, hi', List.getD]
      · rw [int_one] at hu
        cases j with
        | zero => simp at hu; subst hu; rfl
        | succ j => simp at hu
      · rw [getD_av (f := i64) (h := hi')]
        rw [VR]; rfl)
  obtain ⟨p1, p2⟩ := hput
  have hHeq : getH ((b, some (.row 3 1 d ((sorted l).map i64))) :: H) = upd c.H b (some (.row 3 1 d ((sorted l).map i64))) := by
    have := getH_put H b (.row 3 1 d ((sorted l).map i64))
    rw [hH]; exact this
  refine ⟨.tuple #[], .tup [], _, nx, upd c.ρ b (some (blk, o, z)), fun x => c.U x ∨ x = b, rfl, ⟨rfl, rfl, rfl⟩, fun x hx => hx.elim (hU x) (fun e => by omega), ?_, ?_, ?_⟩
  · rw [hHeq]; exact p1
  · rw [hHeq]; exact p2
  · rw [VR]; exact ⟨#[], rfl, by rw [VRs]⟩
def TTb : List LF := [⟨54, 8, L54, R54, false⟩, ⟨67, 25, L67, R67, false⟩]
theorem hTTb : TOk Try.prog TTb := ⟨lf54, lf67, trivial⟩
theorem bits_run : (xcall TTb 30 54 [.sc (.int .u64 0)] [] 0).map (fun q => frz q.2.1 6 q.1) = some (i64 0) := by kernel_rfl
theorem bits_pure : Pure Try.prog 54 [.sc (.int .u64 0)] (fun r => r = i64 0) := by
  have h := bits_run
  simp only [Option.map_eq_some_iff] at h
  obtain ⟨⟨r, H', nx'⟩, h1, h2⟩ := h
  simp only at h2
  have h0 := xcall_spec hTTb 30 _ _ _ _ _ _ _ h1
  have h3 := CallN.pure (H' := H') (h0.mono fun r H n ⟨h1, h2, _⟩ => ⟨h1, h2⟩) (by rw [h2]; trivial)
  exact h3.mono fun r hr => by rw [hr, h2]
theorem flat_unit : flatR (.tup []) := fun a h => by cases h
theorem ins_none (b : Nat) (d : AV) (H : Hp) (nx : Nat) (hb : getH H b = some (.row 3 1 d [])) : Look Try.prog 57 [.sl b 0, i64 0, i64 0] H nx (.tup []) := by
  refine Go.lookAt Try.func57 nm57 low57 res57 nt57 rfl ?_
  repeat' (first | ((with_reducible refine Go.red ?_); conv => whnf) | with_reducible (first | refine Go.and ?_ ?_ | exact True.intro | refine Go.far ?_ | exact Go.askRep | refine Go.unroll ?_ | refine Go.drawn ?_) | ((with_reducible refine Apt.mk ?_); (try dsimp only); omega) | ((with_reducible refine Ask.mk ?_); first | exact aAsk | exact aAsk2) | ((with_reducible refine Go.ari64 ?_ ?_ ?_); (· exact aBnd); (· exact aBnd)) | ((with_reducible refine Go.ariu8 ?_ ?_ ?_); (· exact aBnd); (· exact aBnd)) | (with_reducible refine Go.ari0 ?_) | (apply Go.elem; (· exact aElem)) | (apply Go.row; (· exact aRow)) | (apply Go.map; (· exact aRow)) | (apply Go.gives; (· exact aGives)) | (apply Go.gives; (· exact aRes)) | (refine Go.gt rfl ?_) | (refine Go.gf rfl ?_) | (with_reducible refine Go.join ?_) | (refine Go.lt' rfl ?_) | (refine Go.lf' rfl ?_) | ((with_reducible refine Go.bool ?_ ?_) <;> intro hc <;> (try simp only [List.length_map, ne_eq, hcs] at hc) <;> try (exfalso; omega)) | ((with_reducible refine Res.eq ?_ ?_); (· exact aFit)))
  refine Go.head ?_
  repeat' (first | ((with_reducible refine Go.red ?_); conv => whnf) | with_reducible (first | refine Go.and ?_ ?_ | exact True.intro | refine Go.far ?_ | exact Go.askRep | refine Go.unroll ?_ | refine Go.drawn ?_) | ((with_reducible refine Apt.mk ?_); (try dsimp only); omega) | ((with_reducible refine Ask.mk ?_); first | exact aAsk | exact aAsk2) | ((with_reducible refine Go.ari64 ?_ ?_ ?_); (· exact aBnd); (· exact aBnd)) | ((with_reducible refine Go.ariu8 ?_ ?_ ?_); (· exact aBnd); (· exact aBnd)) | (with_reducible refine Go.ari0 ?_) | (apply Go.elem; (· exact aElem)) | (apply Go.row; (· exact aRow)) | (apply Go.map; (· exact aRow)) | (apply Go.gives; (· exact aGives)) | (apply Go.gives; (· exact aRes)) | (refine Go.gt rfl ?_) | (refine Go.gf rfl ?_) | (with_reducible refine Go.join ?_) | (refine Go.lt' rfl ?_) | (refine Go.lf' rfl ?_) | ((with_reducible refine Go.bool ?_ ?_) <;> intro hc <;> (try simp only [List.length_map, ne_eq, hcs] at hc) <;> try (exfalso; omega)) | ((with_reducible refine Res.eq ?_ ?_); (· exact aFit)))
  exact ⟨⟨rfl, fun y hy => by repeat (first | exact rfl | (refine Eq.trans (getH_skipEq (by omega)) ?_))⟩⟩
theorem pdq_none (b : Nat) (d : AV) (H : Hp) (nx : Nat) (hb : getH H b = some (.row 3 1 d [])) : Look Try.prog 53 [.sl b 0, i64 0, i64 0, i64 0] H nx (.tup []) := by
  refine Go.lookAt Try.func53 nm53 low53 res53 nt53 rfl ?_
  repeat' (first | ((with_reducible refine Go.red ?_); conv => whnf) | with_reducible (first | refine Go.and ?_ ?_ | exact True.intro | refine Go.far ?_ | exact Go.askRep | refine Go.unroll ?_ | refine Go.drawn ?_) | ((with_reducible refine Apt.mk ?_); (try dsimp only); omega) | ((with_reducible refine Ask.mk ?_); first | exact aAsk | exact aAsk2) | ((with_reducible refine Go.ari64 ?_ ?_ ?_); (· exact aBnd); (· exact aBnd)) | ((with_reducible refine Go.ariu8 ?_ ?_ ?_); (· exact aBnd); (· exact aBnd)) | (with_reducible refine Go.ari0 ?_) | (apply Go.elem; (· exact aElem)) | (apply Go.row; (· exact aRow)) | (apply Go.map; (· exact aRow)) | (apply Go.gives; (· exact aGives)) | (apply Go.gives; (· exact aRes)) | (refine Go.gt rfl ?_) | (refine Go.gf rfl ?_) | (with_reducible refine Go.join ?_) | (refine Go.lt' rfl ?_) | (refine Go.lf' rfl ?_) | ((with_reducible refine Go.bool ?_ ?_) <;> intro hc <;> (try simp only [List.length_map, ne_eq, hcs] at hc) <;> try (exfalso; omega)) | ((with_reducible refine Res.eq ?_ ?_); (· exact aFit)))
  refine Go.head ?_
  repeat' (first | ((with_reducible refine Go.red ?_); conv => whnf) | with_reducible (first | refine Go.and ?_ ?_ | exact True.intro | refine Go.far ?_ | exact Go.askRep | refine Go.unroll ?_ | refine Go.drawn ?_) | ((with_reducible refine Apt.mk ?_); (try dsimp only); omega) | ((with_reducible refine Ask.mk ?_); first | exact aAsk | exact aAsk2) | ((with_reducible refine Go.ari64 ?_ ?_ ?_); (· exact aBnd); (· exact aBnd)) | ((with_reducible refine Go.ariu8 ?_ ?_ ?_); (· exact aBnd); (· exact aBnd)) | (with_reducible refine Go.ari0 ?_) | (apply Go.elem; (· exact aElem)) | (apply Go.row; (· exact aRow)) | (apply Go.map; (· exact aRow)) | (apply Go.gives; (· exact aGives)) | (apply Go.gives; (· exact aRes)) | ((refine Go.lookW (ins_none b d _ _ aRow) ?_ ?_); (· exact flat_unit)) | (refine Go.gt rfl ?_) | (refine Go.gf rfl ?_) | (with_reducible refine Go.join ?_) | (refine Go.lt' rfl ?_) | (refine Go.lf' rfl ?_) | ((with_reducible refine Go.bool ?_ ?_) <;> intro hc <;> (try simp only [List.length_map, ne_eq, hcs] at hc) <;> try (exfalso; omega)) | ((with_reducible refine Res.eq ?_ ?_); (· exact aFit)))
  exact ⟨⟨rfl, fun y hy => by repeat (first | exact rfl | (refine Eq.trans (getH_skipEq (by omega)) ?_))⟩⟩
set_option maxHeartbeats 2000000 in
theorem sort_none (b : Nat) (d : AV) (H : Hp) (nx : Nat) (hb : getH H b = some (.row 3 1 d [])) :
    CallN Try.prog 45 [.sl b 0] H nx (fun r H' n => r = .tup [] ∧ nx ≤ n ∧ ∀ y, y < nx → getH H' y = getH H y) := by
  refine Go.fn Try.func45 nm45 low45 res45 nt45 rfl ?_
  repeat' (first | ((with_reducible refine Go.red ?_); conv => whnf) | with_reducible (first | refine Go.and ?_ ?_ | exact True.intro | refine Go.far ?_ | exact Go.askRep | refine Go.unroll ?_ | refine Go.drawn ?_) | ((with_reducible refine Apt.mk ?_); (try dsimp only); omega) | ((with_reducible refine Ask.mk ?_); first | exact aAsk | exact aAsk2) | ((with_reducible refine Go.ari64 ?_ ?_ ?_); (· exact aBnd); (· exact aBnd)) | ((with_reducible refine Go.ariu8 ?_ ?_ ?_); (· exact aBnd); (· exact aBnd)) | (with_reducible refine Go.ari0 ?_) | (apply Go.elem; (· exact aElem)) | (apply Go.row; (· exact aRow)) | (apply Go.map; (· exact aRow)) | (apply Go.gives; (· exact aGives)) | (apply Go.gives; (· exact aRes)) | ((refine Go.lookW (pdq_none b d _ _ aRow) ?_ ?_); (· exact flat_unit)) | ((refine Go.callW bits_pure ?_ ?_); (· exact aFit)) | (refine Go.gt rfl ?_) | (refine Go.gf rfl ?_) | (with_reducible refine Go.join ?_) | (refine Go.lt' rfl ?_) | (refine Go.lf' rfl ?_) | ((with_reducible refine Go.bool ?_ ?_) <;> intro hc <;> (try simp only [List.length_map, ne_eq, hcs] at hc) <;> try (exfalso; omega)) | ((with_reducible refine Res.eq ?_ ?_); (· exact aFit)))
  exact ⟨⟨rfl, aNx, aKeep⟩⟩
theorem sort_call (b : Nat) (l : List Int) (d : AV) (H : Hp) (nx : Nat) (hb : getH H b = some (.row 3 1 d (l.map i64))) (hlt : b < nx) (hl : l.length * 8 ≤ 140737488351232) :
    CallN Try.prog 45 [.sl b l.length] H nx (fun r H' n => r = .tup [] ∧ nx ≤ n ∧ getH H' b = some (.row 3 1 d ((sorted l).map i64)) ∧ ∀ y, y < nx → y ≠ b → getH H' y = getH H y) := by
  by_cases h0 : l = []
  · subst h0
    refine (sort_none b d H nx hb).mono ?_
    rintro r H' n ⟨h1, h2, h3⟩
    exact ⟨h1, h2, (h3 b hlt).trans (by rw [hb, show sorted [] = [] by simp [sorted]]), fun y hy _ => h3 y hy⟩
  · refine (sort_some b l d H nx hb hlt hl h0).mono ?_
    rintro r H' n ⟨h1, h2, rfl⟩
    exact ⟨h1, by omega, getH_here _ _ _, fun y hy hne => getH_skipEq hne⟩
def iota (n : Nat) : List Int := (List.range n).map fun (k : Nat) => (k : Int)
theorem iota_mem {n : Nat} {k : Int} : k ∈ iota n ↔ 0 ≤ k ∧ k < n := by
  simp only [iota, List.mem_map, List.mem_range]
  constructor
  · rintro ⟨a, h, rfl⟩; omega
  · intro h; exact ⟨k.toNat, by omega, by omega⟩
theorem iota_nodup (n : Nat) : (iota n).Nodup := by
  unfold iota List.Nodup
  rw [List.pairwise_map]
  refine (List.pairwise_lt_range (n := n)).imp ?_
  intro a b h; omega
theorem iota_len (n : Nat) : (iota n).length = n := by simp [iota]
theorem iota_get {n j : Nat} (h : j < n) : (iota n).getD j 0 = j := by simp [iota, List.getD, h]
theorem iota_sorted (n : Nat) : (iota n).Pairwise (· ≤ ·) := by
  unfold iota
  rw [List.pairwise_map]
  refine (List.pairwise_lt_range (n := n)).imp ?_
  intro a b h; omega
theorem sorted_perm (l : List Int) : (sorted l).Perm l := List.mergeSort_perm _ _
theorem sorted_pair (l : List Int) : (sorted l).Pairwise (· ≤ ·) := by
  have h := List.pairwise_mergeSort (le := fun x y : Int => decide (x ≤ y)) (fun a b c h1 h2 => by simp only [decide_eq_true_eq] at *; omega) (fun a b => by simp only [Bool.or_eq_true, decide_eq_true_eq]; omega) l
  exact h.imp fun h => by simpa using h
theorem line_perm {n : Nat} {l : List Int} : isLine n l = true ↔ l.Perm (iota n) := by
  simp only [isLine, Bool.and_eq_true, decide_eq_true_eq]
  constructor
  · rintro ⟨⟨h1, h2⟩, h3⟩
    rw [List.perm_ext_iff_of_nodup h3 (iota_nodup n)]
    intro a
    rw [iota_mem]
    refine ⟨h2 a, fun ha => Decidable.byContradiction fun hn => ?_⟩
    have := nodup_lt (n := n) (l := a :: l) (List.nodup_cons.2 ⟨hn, h3⟩) (fun k hk => by
      rcases List.mem_cons.1 hk with rfl | hk
      · exact ha
      · exact h2 k hk)
    simp only [List.length_cons] at this
    omega
  · intro h
    exact ⟨⟨by rw [h.length_eq, iota_len], fun k hk => iota_mem.1 (h.mem_iff.1 hk)⟩, h.nodup_iff.2 (iota_nodup n)⟩
theorem sorted_iota {l : List Int} {n : Nat} : sorted l = iota n ↔ l.Perm (iota n) := by
  constructor
  · intro h; rw [← h]; exact (sorted_perm l).symm
  · intro h
    exact List.Perm.eq_of_pairwise (fun a b _ _ h1 h2 => Int.le_antisymm h1 h2) (sorted_pair l) (iota_sorted n) ((sorted_perm l).trans h)
end Go.Proofs.Ytncllkpekbapjaa
