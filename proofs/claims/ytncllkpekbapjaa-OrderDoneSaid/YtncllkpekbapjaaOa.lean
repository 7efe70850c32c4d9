/- Executions as plain data; an event by itself. -/
import Derived.Test.YtncllkpekbapjaaLa
import Derived.Test.YtncllkpekbapjaaLb
import Derived.Test.YtncllkpekbapjaaAbsX
namespace Go.Abs
open Go.RowKit
theorem Go.map {H : Hp} {b : Nat} {K : TypeId → AV → List AV → Prop} {e : TypeId} {d : AV} {es : List AV} (h : getH H b = some (.row e 0 d (mapA es))) (k : Go (K e d es)) : AtMap H b K := AtMap.of h k
theorem Go.givesG {α : Type} {g : Option Bool} {x : Option α} {K : α → Prop} {a : α} (h : Gd g → x = some a) (k : Go (K a)) : GivesG g x K := GivesG.of h k
theorem Go.meth0 {P : Program} {t : TypeId} {v : AV} {nm : String} {args : List AV} {H : Hp} {nx : Nat} {K : AV → Hp → Nat → Prop} {f : FuncId} (hm : methT P t nm = some (f, none)) (h : CallW P f (v :: args) H nx K) : MethW P t v nm args H nx K := ⟨⟨f, none, hm, h.ok⟩⟩
theorem Go.meth1 {P : Program} {t : TypeId} {v : AV} {nm : String} {args : List AV} {H : Hp} {nx : Nat} {K : AV → Hp → Nat → Prop} {f : FuncId} {e : TypeId} {ag : Bool} {k sz off : Nat} {el r : AV} (hm : methT P t nm = some (f, some (e, ag, k)))
    (hl : lookA H v = some (sz, el, off)) (hr : ldE ag k el sz off = some r) (h : CallW P f (r :: args) H nx K) : MethW P t v nm args H nx K := ⟨⟨f, _, hm, sz, el, off, r, hl, hr, h.ok⟩⟩
end Go.Abs
namespace Go.Proofs.Ytncllkpekbapjaa
open Go Go.Abs Go.Proofs
set_option linter.unusedSimpArgs false
set_option linter.unusedVariables false
abbrev i64 (n : Int) : AV := .sc (.int .i64 n)
abbrev u8 (n : Int) : AV := .sc (.int .u8 n)
abbrev bl (b : Bool) : AV := .sc (.bool b)
def wf64 (n : Int) : Prop := -9223372036854775808 ≤ n ∧ n < 9223372036854775808
structure Deed where
  kind : Int
  thread : Int
  thing : Int
  saw : Int
  put : Int
  deriving Inhabited, DecidableEq
def Deed.cells (i : Deed) : List AV := [u8 i.kind, i64 i.thread, i64 i.thing, i64 i.saw, i64 i.put]
abbrev Deed.av (i : Deed) : AV := .agg i.cells
@[simp] theorem fit_deed (n : Nat) (i : Deed) : fitL n i.cells := by simp [Deed.cells, fitL, fitA]
structure Deed.Wf (i : Deed) : Prop where
  kind : 0 ≤ i.kind ∧ i.kind < 256
  thread : wf64 i.thread
  thing : wf64 i.thing
  saw : wf64 i.saw
  put : wf64 i.put
abbrev imI (l : List Int) : AV := .im 1 (i64 0) (l.map i64)
structure Exec where
  first : List Int
  events : List Deed
  frm : List Int
  after : List (List Int)
  deriving Inhabited, DecidableEq
def Exec.cells (x : Exec) : List AV := [imI x.first, .im 5 (Deed.av default) (x.events.map Deed.av), imI x.frm, .im 1 (imI []) (x.after.map imI)]
abbrev Exec.av (x : Exec) : AV := .agg x.cells
@[simp] theorem fit_exec (n : Nat) (x : Exec) : fitL n x.cells := by simp [Exec.cells, fitL, fitA, fitL_map]
structure Exec.Wf (x : Exec) : Prop where
  first : ∀ v ∈ x.first, wf64 v
  firstlen : x.first.length * 8 ≤ 140737488351232
  events : ∀ d ∈ x.events, d.Wf
  eventslen : x.events.length * 40 ≤ 140737488351232
  frm : ∀ v ∈ x.frm, wf64 v
  frmlen : x.frm.length * 8 ≤ 140737488351232
  after : ∀ l ∈ x.after, (∀ v ∈ l, wf64 v) ∧ l.length * 8 ≤ 140737488351232
  afterlen : x.after.length * 24 ≤ 140737488351232
def Deed.rd (d : Deed) : Bool := decide (d.kind = 1) || decide (d.kind = 3)
def Deed.wr (d : Deed) : Bool := decide (d.kind = 2) || decide (d.kind = 3)
abbrev Exec.ev (x : Exec) (i : Nat) : Deed := x.events.getD i default
abbrev Exec.fr (x : Exec) (i : Nat) : Int := x.frm.getD i 0
abbrev Exec.fst (x : Exec) (i : Nat) : Int := x.first.getD i 0
abbrev Exec.af (x : Exec) (i : Nat) : List Int := x.after.getD i []
theorem reads_pure (d : Deed) : Pure Try.prog 46 [d.av] (fun r => r = bl d.rd) := by
  refine Go.pure Try.func46 nm46 low46 res46 nt46 rfl ?_
  repeat' (first | ((with_reducible refine Go.red ?_); conv => whnf) | with_reducible (first | refine Go.and ?_ ?_ | exact True.intro | refine Go.far ?_ | exact Go.askRep | refine Go.unroll ?_ | refine Go.drawn ?_) | ((with_reducible refine Apt.mk ?_); (try dsimp only); omega) | ((with_reducible refine Ask.mk ?_); first | exact aAsk | exact aAsk2 | (intro h; simp_all [Deed.cells] <;> fail) | (simp_all [Deed.cells] <;> fail)) | ((with_reducible refine Go.ari64 ?_ ?_ ?_); (· exact aBnd); (· exact aBnd)) | ((with_reducible refine Go.ariu8 ?_ ?_ ?_); (· exact aBnd); (· exact aBnd)) | (with_reducible refine Go.ari0 ?_) | (apply Go.elem; (· exact aElem)) | (apply Go.row; (· exact aRow)) | (apply Go.map; (· exact aRow)) | (apply Go.gives; (· exact aGives)) | (apply Go.gives; (· exact aRes)) | (refine Go.gt rfl ?_) | (refine Go.gf rfl ?_) | (with_reducible refine Go.join ?_) | (refine Go.lt' rfl ?_) | (refine Go.lf' rfl ?_) | ((with_reducible refine Go.bool ?_ ?_) <;> intro hc <;> (try simp only [List.length_map, ne_eq, hcs] at hc) <;> try (exfalso; omega)) | ((with_reducible refine Res.eq ?_ ?_); (· exact aFit)))
  all_goals simp_all [Deed.rd, hcs]
theorem writes_pure (d : Deed) : Pure Try.prog 47 [d.av] (fun r => r = bl d.wr) := by
  refine Go.pure Try.func47 nm47 low47 res47 nt47 rfl ?_
  repeat' (first | ((with_reducible refine Go.red ?_); conv => whnf) | with_reducible (first | refine Go.and ?_ ?_ | exact True.intro | refine Go.far ?_ | exact Go.askRep | refine Go.unroll ?_ | refine Go.drawn ?_) | ((with_reducible refine Apt.mk ?_); (try dsimp only); omega) | ((with_reducible refine Ask.mk ?_); first | exact aAsk | exact aAsk2 | (intro h; simp_all [Deed.cells] <;> fail) | (simp_all [Deed.cells] <;> fail)) | ((with_reducible refine Go.ari64 ?_ ?_ ?_); (· exact aBnd); (· exact aBnd)) | ((with_reducible refine Go.ariu8 ?_ ?_ ?_); (· exact aBnd); (· exact aBnd)) | (with_reducible refine Go.ari0 ?_) | (apply Go.elem; (· exact aElem)) | (apply Go.row; (· exact aRow)) | (apply Go.map; (· exact aRow)) | (apply Go.gives; (· exact aGives)) | (apply Go.gives; (· exact aRes)) | (refine Go.gt rfl ?_) | (refine Go.gf rfl ?_) | (with_reducible refine Go.join ?_) | (refine Go.lt' rfl ?_) | (refine Go.lf' rfl ?_) | ((with_reducible refine Go.bool ?_ ?_) <;> intro hc <;> (try simp only [List.length_map, ne_eq, hcs] at hc) <;> try (exfalso; omega)) | ((with_reducible refine Res.eq ?_ ?_); (· exact aFit)))
  all_goals simp_all [Deed.wr, hcs]
theorem reader_pure (d : Deed) : Pure Try.prog 27 [d.av] (fun r => r = bl d.rd) := by
  refine Go.pure Try.func27 nm27 low27 res27 nt27 rfl ?_
  repeat' (first | ((with_reducible refine Go.red ?_); conv => whnf) | with_reducible (first | refine Go.and ?_ ?_ | exact True.intro | refine Go.far ?_ | exact Go.askRep | refine Go.unroll ?_ | refine Go.drawn ?_) | ((with_reducible refine Apt.mk ?_); (try dsimp only); omega) | ((with_reducible refine Ask.mk ?_); first | exact aAsk | exact aAsk2 | (intro h; simp_all [Deed.cells] <;> fail) | (simp_all [Deed.cells] <;> fail)) | ((with_reducible refine Go.ari64 ?_ ?_ ?_); (· exact aBnd); (· exact aBnd)) | ((with_reducible refine Go.ariu8 ?_ ?_ ?_); (· exact aBnd); (· exact aBnd)) | (with_reducible refine Go.ari0 ?_) | (apply Go.elem; (· exact aElem)) | (apply Go.row; (· exact aRow)) | (apply Go.map; (· exact aRow)) | (apply Go.gives; (· exact aGives)) | (apply Go.gives; (· exact aRes)) | (refine Go.gt rfl ?_) | (refine Go.gf rfl ?_) | (with_reducible refine Go.join ?_) | (refine Go.lt' rfl ?_) | (refine Go.lf' rfl ?_) | ((with_reducible refine Go.bool ?_ ?_) <;> intro hc <;> (try simp only [List.length_map, ne_eq, hcs] at hc) <;> try (exfalso; omega)) | ((with_reducible refine Res.eq ?_ ?_); (· exact aFit)))
  all_goals simp_all [Deed.rd, hcs]
theorem writer_pure (d : Deed) : Pure Try.prog 26 [d.av] (fun r => r = bl d.wr) := by
  refine Go.pure Try.func26 nm26 low26 res26 nt26 rfl ?_
  repeat' (first | ((with_reducible refine Go.red ?_); conv => whnf) | with_reducible (first | refine Go.and ?_ ?_ | exact True.intro | refine Go.far ?_ | exact Go.askRep | refine Go.unroll ?_ | refine Go.drawn ?_) | ((with_reducible refine Apt.mk ?_); (try dsimp only); omega) | ((with_reducible refine Ask.mk ?_); first | exact aAsk | exact aAsk2 | (intro h; simp_all [Deed.cells] <;> fail) | (simp_all [Deed.cells] <;> fail)) | ((with_reducible refine Go.ari64 ?_ ?_ ?_); (· exact aBnd); (· exact aBnd)) | ((with_reducible refine Go.ariu8 ?_ ?_ ?_); (· exact aBnd); (· exact aBnd)) | (with_reducible refine Go.ari0 ?_) | (apply Go.elem; (· exact aElem)) | (apply Go.row; (· exact aRow)) | (apply Go.map; (· exact aRow)) | (apply Go.gives; (· exact aGives)) | (apply Go.gives; (· exact aRes)) | (refine Go.gt rfl ?_) | (refine Go.gf rfl ?_) | (with_reducible refine Go.join ?_) | (refine Go.lt' rfl ?_) | (refine Go.lf' rfl ?_) | ((with_reducible refine Go.bool ?_ ?_) <;> intro hc <;> (try simp only [List.length_map, ne_eq, hcs] at hc) <;> try (exfalso; omega)) | ((with_reducible refine Res.eq ?_ ?_); (· exact aFit)))
  all_goals simp_all [Deed.wr, hcs]
end Go.Proofs.Ytncllkpekbapjaa
