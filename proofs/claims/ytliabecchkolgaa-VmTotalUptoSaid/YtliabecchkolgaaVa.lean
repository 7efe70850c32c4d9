/- The first question of each law, reckoned out; a nil machine. -/
import Derived.Test.YtliabecchkolgaaLt
import Derived.Test.YtliabecchkolgaaAbsS
namespace Go.Proofs.Ytliabecchkolgaa
open Go Go.Abs Go.Proofs

set_option maxRecDepth 100000 in
theorem begins_run : (xcall TT 30 12 [] [] 0).map (fun q => q.1) = some (.sc (.bool true)) := by kernel_rfl
set_option maxRecDepth 100000 in
theorem nil_run (n k c : Int) : (xcall TT 30 10 [.sc (.int .i64 n), .agg [.sc (.int .u8 k), .sc (.int .i64 c)]] [] 0).map (fun q => q.1) = some (.sc (.bool true)) := by kernel_rfl
/-- What the evaluator says of a call, as a contract. -/
theorem run_pure {f : FuncId} {args : List AV} {u : Value} (h : (xcall TT 30 f args [] 0).map (fun q => q.1) = some (.sc u)) : Pure Try.prog f args (fun r => r = .sc u) := by
  simp only [Option.map_eq_some_iff] at h
  obtain ⟨⟨r, H', nx'⟩, h1, h2⟩ := h
  simp only at h2
  subst h2
  have := xcall_spec hTT 30 _ _ _ _ _ _ _ h1
  have h3 := CallN.pure (H' := H') (this.mono fun r H n ⟨h1, h2, _⟩ => ⟨h1, h2⟩) (by rw [frz_sc, fitA]; trivial)
  exact h3.mono fun r hr => by rw [hr, frz_sc]
theorem begins_pure : Pure Try.prog 12 [] (fun r => r = .sc (.bool true)) := run_pure begins_run
theorem nil_pure (n k c : Int) : Pure Try.prog 10 [.sc (.int .i64 n), .agg [.sc (.int .u8 k), .sc (.int .i64 c)]] (fun r => r = .sc (.bool true)) := run_pure (nil_run n k c)
end Go.Proofs.Ytliabecchkolgaa
