import Derived.Test.YtjopoheligmmoaaGreatDoorM9
import Derived.KernelRfl
namespace Go.cw
structure dw (P:Program) (f:Nat) where
 n:Nat
 lc:LC
 rs:List lA
 ok:Z3 P ⟨f,n,lc,rs,false⟩
set_option maxRecDepth 100000 in
def low {P:Program} {f:Nat} {fn:Func} (hf:P.funcs[f]?=some fn) {n:Nat} {lc:LC} {rs:List lA}
 (h1:fn.ntmps=n:=by with_unfolding_all conv=>lhs;reduce)
 (h:fn.body.bind (dD P fn.ntmps)=some lc:=by with_unfolding_all conv=>lhs;(reduce;simp only[Int.reduceOfNat,Int.reduceNegSucc]))
 (h2:iQ P fn.results.toList=some rs:=by with_unfolding_all conv=>lhs;reduce)
 (h3:(fn.name== "runtime.NumGoroutine")=false:=by kernel_rfl):dw P f:=⟨n,lc,rs,fn,hf,h3,h,h2,h1.symm⟩
end Go.cw
