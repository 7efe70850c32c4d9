import Derived.Test.YtjopoheligmmoaaGreatDoorM9
import Derived.KernelRfl
section
/- Lowered functions, as they come out of the loaded program. -/
namespace Go.cZ
structure cu (P:Program) (f:Nat) where
 n:Nat
 lc:LC
 rs:List jv
 ok:U9 P ⟨f,n,lc,rs,false⟩
set_option maxRecDepth 100000 in
def low {P:Program} {f:Nat} {fn:Func} (hf:P.funcs[f]?=some fn) {n:Nat} {lc:LC} {rs:List jv}
 (h1:fn.ntmps=n:=by with_unfolding_all conv=>lhs;reduce)
 (h:fn.body.bind (cj P fn.ntmps)=some lc:=by with_unfolding_all conv=>lhs;(reduce;simp only[Int.reduceOfNat,Int.reduceNegSucc]))
 (h2:gL P fn.results.toList=some rs:=by with_unfolding_all conv=>lhs;reduce)
 (h3:(fn.name== "runtime.NumGoroutine")=false:=by kernel_rfl):cu P f:=⟨n,lc,rs,fn,hf,h3,h,h2,h1.symm⟩
end Go.cZ
end
