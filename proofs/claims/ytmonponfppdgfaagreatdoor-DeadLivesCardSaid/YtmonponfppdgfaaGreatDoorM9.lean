import Derived.Test.YtmonponfppdgfaaGreatDoorM8
section
/- Short names for the printed code. -/
namespace Go.Abs
instance instT {n:Nat}:OfNat Opd n:=⟨.t n⟩
abbrev oN (d:Nat) (x:LOp):GOp:=⟨some d,none,x⟩
abbrev oT (d g:Nat) (x:LOp):GOp:=⟨some d,some (g,true),x⟩
abbrev oF (d g:Nat) (x:LOp):GOp:=⟨some d,some (g,false),x⟩
abbrev uN (x:LOp):GOp:=⟨none,none,x⟩
abbrev cI (n:Int):Opd:=.c (.int .i64 n)
abbrev cB (b:Bool):Opd:=.c (.bool b)
theorem lfok {P : Program} {f n : Nat} {fn : Func} {lc : LC} {rs : List LRes} {fz : Bool} (hf : P.funcs[f]? = some fn) (h : ((fn.name == "runtime.NumGoroutine"), fn.body.bind (lowCode P fn.ntmps), lowRes P fn.results.toList, fn.ntmps) = (false, some lc, some rs, n)) : LFok P ⟨f, n, lc, rs, fz⟩ := by
 simp only [Prod.mk.injEq] at h
 exact ⟨fn,hf,h.1,h.2.1,h.2.2.1,h.2.2.2.symm⟩
end Go.Abs
end
