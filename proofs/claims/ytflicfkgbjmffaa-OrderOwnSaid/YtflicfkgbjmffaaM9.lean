import Derived.Test.YtflicfkgbjmffaaM8
section
/- Short names for the printed code. -/
namespace Go.Abs
instance instT {n : Nat} : OfNat Opd n := ⟨.t n⟩
abbrev oN (d : Nat) (x : LOp) : GOp := ⟨some d, none, x⟩
abbrev oT (d g : Nat) (x : LOp) : GOp := ⟨some d, some (g, true), x⟩
abbrev oF (d g : Nat) (x : LOp) : GOp := ⟨some d, some (g, false), x⟩
abbrev uN (x : LOp) : GOp := ⟨none, none, x⟩
abbrev cI (n : Int) : Opd := .c (.int .i64 n)
abbrev cB (b : Bool) : Opd := .c (.bool b)
end Go.Abs
end
