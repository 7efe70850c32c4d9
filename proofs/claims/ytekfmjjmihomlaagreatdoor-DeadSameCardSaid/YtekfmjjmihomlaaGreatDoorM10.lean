import Derived.Test.YtekfmjjmihomlaaGreatDoorM9
import Derived.KernelRfl
namespace Go.cw
structure dX (P:Program) (f:Nat) where
 n:Nat
 lc:LC
 rs:List kn
 ok:UW P ⟨f,n,lc,rs,false⟩
set_option maxRecDepth 100000 in
def low {P:Program} {f:Nat} {fn:Func} (hf:P.funcs[f]?=some fn) {n:Nat} {lc:LC} {rs:List kn}
 (h1:fn.ntmps=n:=by with_unfolding_all conv=>lhs;reduce)
 (h:fn.body.bind (cr P fn.ntmps)=some lc:=by with_unfolding_all conv=>lhs;(reduce;simp only[Int.reduceOfNat,Int.reduceNegSucc]))
 (h2:iP P fn.results.toList=some rs:=by with_unfolding_all conv=>lhs;reduce)
 (h3:(fn.name== "runtime.NumGoroutine")=false:=by kernel_rfl):dX P f:=⟨n,lc,rs,fn,hf,h3,h,h2,h1.symm⟩
end Go.cw
