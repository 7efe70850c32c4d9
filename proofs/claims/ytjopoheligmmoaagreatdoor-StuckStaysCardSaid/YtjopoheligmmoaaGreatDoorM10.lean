import Derived.Test.YtjopoheligmmoaaGreatDoorM9
import Derived.KernelRfl
namespace Go.cp
structure eF (P:Program) (f:Nat) where
 n:Nat
 lc:LC
 rs:List jj
 ok:T6 P ⟨f,n,lc,rs,false⟩
set_option maxRecDepth 100000 in
def low {P:Program} {f:Nat} {fn:Func} (hf:P.funcs[f]?=some fn) {n:Nat} {lc:LC} {rs:List jj}
 (h1:fn.ntmps=n:=by with_unfolding_all conv=>lhs;reduce)
 (h:fn.body.bind (cq P fn.ntmps)=some lc:=by with_unfolding_all conv=>lhs;(reduce;simp only[Int.reduceOfNat,Int.reduceNegSucc]))
 (h2:gM P fn.results.toList=some rs:=by with_unfolding_all conv=>lhs;reduce)
 (h3:(fn.name== "runtime.NumGoroutine")=false:=by kernel_rfl):eF P f:=⟨n,lc,rs,fn,hf,h3,h,h2,h1.symm⟩
end Go.cp
