/- What objects and lists read as. -/
import Derived.Test.YtliabecchkolgaaVb
import Derived.Test.YtliabecchkolgaaAbsS
import Derived.Test.YtliabecchkolgaaRows
namespace Go.Proofs.Ytliabecchkolgaa
open Go Go.Abs Go.Proofs Go.RowKit Go.ChangeShapes Go.WideShapes Go.ChangeAt
def lit64 (n : Int) : Prop := (Lit.int .i64 n).wf = true
theorem lit_wf64 {n : Int} (h : (Lit.int .i64 n).wf = true) : wf64 n := by
  simp only [Lit.wf, Bool.and_eq_true, decide_eq_true_eq] at h
  have e1 : IntKind.i64.min = -9223372036854775808 := by decide
  have e2 : IntKind.i64.max = 9223372036854775807 := by decide
  unfold wf64
  omega
theorem lit_wf8 {n : Int} (h : (Lit.int .u8 n).wf = true) : 0 ≤ n ∧ n < 256 := by
  simp only [Lit.wf, Bool.and_eq_true, decide_eq_true_eq] at h
  have e1 : IntKind.u8.min = 0 := by decide
  have e2 : IntKind.u8.max = 255 := by decide
  omega
theorem opens_instr : OpensC Try.prog 85 Instr.cells Instr.Wf := by
  refine OpensC.map (α := Int × Int × Int × Int × Int × Int × Int × Int × Int × Unit) (fun p => (⟨p.1, p.2.1, p.2.2.1, p.2.2.2.1, p.2.2.2.2.1, p.2.2.2.2.2.1, p.2.2.2.2.2.2.1, p.2.2.2.2.2.2.2.1, p.2.2.2.2.2.2.2.2.1⟩ : Instr))
    (opens_struct (k := 9) Try.underlying85 (by kernel_rfl)
      (opensF_cons (k := 1) rfl (by kernel_rfl) (opens_int Try.underlying82) (opensF_cons (k := 1) rfl (by kernel_rfl) (opens_int Try.underlying83) (opensF_cons (k := 1) rfl (by kernel_rfl) (opens_int Try.underlying3) (opensF_cons (k := 1) rfl (by kernel_rfl) (opens_int Try.underlying3) (opensF_cons (k := 1) rfl (by kernel_rfl) (opens_int Try.underlying3) (opensF_cons (k := 1) rfl (by kernel_rfl) (opens_int Try.underlying3) (opensF_cons (k := 1) rfl (by kernel_rfl) (opens_int Try.underlying3) (opensF_cons (k := 1) rfl (by kernel_rfl) (opens_int Try.underlying2) (opensF_cons (k := 1) rfl (by kernel_rfl) (opens_int Try.underlying3) opensF_nil)))))))))) ?_ ?_
  · intro a _; rfl
  · intro a h
    obtain ⟨h1, h2, h3, h4, h5, h6, h7, h8, h9, _⟩ := h
    exact ⟨lit_wf8 h1, lit_wf8 h2, lit_wf64 h3, lit_wf64 h4, lit_wf64 h5, lit_wf64 h6, lit_wf64 h7, lit_wf64 h8, lit_wf64 h9⟩
theorem opens_ints {t e : TypeId} (ht : Try.prog.underlying t = some (.slice e)) (he : Try.prog.underlying e = some (.int .i64)) (hsz : Try.prog.cellsOf e = 1) (hb : Try.prog.bytesOf e = 8) : OpensC Try.prog t (fun l : List Int => [.im 1 .any (l.map i64)]) (fun l => (∀ x ∈ l, wf64 x) ∧ l.length * 8 ≤ 140737488351232) := by
  refine (opens_slice (ag := false) (sz := 1) .any ht hsz (by omega) (opens_int he) (fun _ => rfl) (fun _ _ => rfl) (fun _ => rfl)).map (fun l => l) (fun _ _ => rfl) ?_
  rintro l ⟨h1, h2⟩
  rw [hb] at h2
  exact ⟨fun x hx => lit_wf64 (h1 x hx), h2⟩
theorem opens_code : OpensC Try.prog 79 (fun l : List Instr => [.im 9 .any (l.map Instr.av)]) (fun l => (∀ x ∈ l, x.Wf) ∧ l.length * 64 ≤ 140737488351232) := by
  have hb : Try.prog.bytesOf 85 = 64 := by kernel_rfl
  refine (opens_slice (ag := true) (sz := 9) .any Try.underlying79 (by kernel_rfl) (by omega) opens_instr (fun _ => rfl) (fun _ _ => rfl) (fun h => by cases h)).map (fun l => l) (fun _ _ => rfl) ?_
  rintro l ⟨h1, h2⟩
  rw [hb] at h2
  exact ⟨h1, h2⟩
theorem opens_core : OpensC Try.prog 81 Core.cells Core.Wf := by
  refine OpensC.map (α := ByteArray × List Instr × Unit) (fun p => (⟨p.1, p.2.1⟩ : Core))
    (opens_struct (k := 2) Try.underlying81 (by kernel_rfl) (opensF_cons (k := 1) rfl (by kernel_rfl) (opens_string Try.underlying9) (opensF_cons (k := 1) rfl (by kernel_rfl) opens_code opensF_nil))) ?_ ?_
  · intro a _; rfl
  · intro a h
    exact ⟨h.1, h.2.1.1, h.2.1.2⟩
theorem opens_cores : OpensC Try.prog 23 (fun l : List Core => [.im 2 .any (l.map Core.av)]) (fun l => (∀ x ∈ l, x.Wf) ∧ l.length * 40 ≤ 140737488351232) := by
  have hb : Try.prog.bytesOf 81 = 40 := by kernel_rfl
  refine (opens_slice (ag := true) (sz := 2) .any Try.underlying23 (by kernel_rfl) (by omega) opens_core (fun _ => rfl) (fun _ _ => rfl) (fun h => by cases h)).map (fun l => l) (fun _ _ => rfl) ?_
  rintro l ⟨h1, h2⟩
  rw [hb] at h2
  exact ⟨h1, h2⟩
theorem opens_obj : OpensC Try.prog 25 Obj.cells Obj.Wf := by
  refine OpensC.map (α := List Int × Int × Int × Int × List Core × Unit) (fun p => (⟨p.1, p.2.1, p.2.2.1, p.2.2.2.1, p.2.2.2.2.1⟩ : Obj))
    (opens_struct (k := 5) Try.underlying25 (by kernel_rfl) (opensF_cons (k := 1) rfl (by kernel_rfl) (opens_ints Try.underlying22 Try.underlying2 (by kernel_rfl) (by kernel_rfl))
      (opensF_cons (k := 1) rfl (by kernel_rfl) (opens_int Try.underlying3) (opensF_cons (k := 1) rfl (by kernel_rfl) (opens_int Try.underlying3) (opensF_cons (k := 1) rfl (by kernel_rfl) (opens_int Try.underlying3) (opensF_cons (k := 1) rfl (by kernel_rfl) opens_cores opensF_nil)))))) ?_ ?_
  · intro a _; rfl
  · intro a h
    obtain ⟨⟨h1, h2⟩, h3, h4, h5, ⟨h6, h7⟩, _⟩ := h
    exact ⟨h1, h2, lit_wf64 h3, lit_wf64 h4, lit_wf64 h5, h6, h7⟩
structure StepV where
  kind : Int
  core : Int
  deriving Inhabited, DecidableEq
def StepV.cells (s : StepV) : List AV := [u8 s.kind, i64 s.core]
abbrev StepV.av (s : StepV) : AV := .agg s.cells
@[simp] theorem fit_stepV (n : Nat) (i : StepV) : fitL n i.cells := by simp [StepV.cells, fitL, fitA]
structure StepV.Wf (s : StepV) : Prop where
  kind : 0 ≤ s.kind ∧ s.kind < 256
  core : wf64 s.core
theorem opens_stepV : OpensC Try.prog 46 StepV.cells StepV.Wf := by
  refine OpensC.map (α := Int × Int × Unit) (fun p => (⟨p.1, p.2.1⟩ : StepV)) (opens_struct (k := 2) Try.underlying46 (by kernel_rfl) (opensF_cons (k := 1) rfl (by kernel_rfl) (opens_int Try.underlying44) (opensF_cons (k := 1) rfl (by kernel_rfl) (opens_int Try.underlying3) opensF_nil))) ?_ ?_
  · intro a _; rfl
  · intro a h; exact ⟨lit_wf8 h.1, lit_wf64 h.2.1⟩
theorem opens_steps : OpensC Try.prog 41 (fun l : List StepV => [.im 2 .any (l.map StepV.av)]) (fun l => (∀ x ∈ l, x.Wf) ∧ l.length * 16 ≤ 140737488351232) := by
  have hb : Try.prog.bytesOf 46 = 16 := by kernel_rfl
  refine (opens_slice (ag := true) (sz := 2) .any Try.underlying41 (by kernel_rfl) (by omega) opens_stepV (fun _ => rfl) (fun _ _ => rfl) (fun h => by cases h)).map (fun l => l) (fun _ _ => rfl) ?_
  rintro l ⟨h1, h2⟩
  rw [hb] at h2
  exact ⟨h1, h2⟩
theorem own : ownKnob Try.prog.godebug = none := by kernel_rfl
theorem laidOut : laidOutB Try.prog = true := by kernel_rfl
/-- How long a list is, by the bulk of what is read. -/
theorem bulk_all_mem {D : Type} : ∀ {ds : List (DataW D)} {d : DataW D}, d ∈ ds → Rows.uptoBulk d ≤ Rows.uptoBulkAll ds
  | _ :: ds, d, h => by
    simp only [Rows.uptoBulkAll]
    rcases List.mem_cons.1 h with rfl | h
    · omega
    · have := bulk_all_mem h; omega
theorem bulk_pos {D : Type} (d : DataW D) : 1 ≤ Rows.uptoBulk d := by
  unfold Rows.uptoBulk
  split <;> omega
theorem bulk_len {D : Type} : ∀ (ds : List (DataW D)), ds.length ≤ Rows.uptoBulkAll ds
  | [] => by simp
  | d :: ds => by
    have := bulk_len ds
    have := bulk_pos d
    simp only [Rows.uptoBulkAll, List.length_cons]; omega
theorem bulk_append_le {D : Type} : ∀ (ds gs : List (DataW D)), Rows.uptoBulkAll ds ≤ Rows.uptoBulkAll (ds ++ gs)
  | [], gs => by simp [Rows.uptoBulkAll]
  | d :: ds, gs => by
    have := bulk_append_le ds gs
    simp only [Rows.uptoBulkAll, List.cons_append]; omega
theorem bulk_list {D : Type} {enc : TypeId × Value → D} {W : World} {t e : TypeId} (ht : Try.prog.underlying t = some (.slice e)) {v : Value} {d : DataW D} {p : List MemPlace} {sp : Nat → Bool} {hd : Bool} (h : DataW.Trod enc Try.prog W 0 sp hd t v d p) {c : Cx} {sz : Nat} {dd : AV} {es : List AV} (hv : VR c (.im sz dd es) v) : es.length ≤ Rows.uptoBulk d := by
  obtain ⟨n, h⟩ := h
  rw [VR] at hv
  obtain ⟨a, cap, rfl, _, _⟩ := hv
  rcases DataW.trod_slice ht h with ⟨h1, h2⟩ | ⟨a2, len, cap2, elems, rest, m, _, h1, h2, _, _, _, hl, _⟩
  · simp only [Value.cells, List.cons.injEq, Value.slice.injEq, and_true] at h1
    omega
  · simp only [Value.cells, List.cons.injEq, Value.slice.injEq, and_true] at h1
    simp only [Prod.mk.injEq] at h2
    obtain ⟨rfl, _⟩ := h2
    have := bulk_len (elems.map (·.1))
    simp only [List.length_map] at this
    simp only [Rows.uptoBulk]
    omega
end Go.Proofs.Ytliabecchkolgaa
