import Derived.Test.YtjopoheligmmoaaGreatDoorM23
import Derived.Test.YtjopoheligmmoaaGreatDoorM24
namespace Go.Proofs.YtjopoheligmmoaaGreatDoor
open Go Go.cp Go.Proofs
set_option linter.unusedSimpArgs false
set_option linter.unusedVariables false
theorem fN (op:Int) (h0:0<=op):Pure Tryz.prog 159 [u8 op] (fun r=>r=bl (eA op)):=by
 refine aG RV rfl ?_
 repeat' (first|refine aQ ?_|exact aC|with_reducible refine aD ?_ ?_|(apply aA;(·exact cU))|((with_reducible refine aP (fp _) ?_ ?_);(·exact cH))|((with_reducible refine aO (fun _=>fp _) ?_ ?_);(·exact cH))|((with_reducible refine aM (fp _) ?_ ?_);(·exact cH))|((with_reducible refine aN (fun _=>fp _) ?_ ?_);(·exact cH))|refine aH ?_|((with_reducible refine aE ?_ ?_)<;>intro hc<;>try(exfalso;omega)))
 refine ez ?_
 unfold eA
 by_cases h1:0<op<;>by_cases h2:op<19<;>by_cases h3:op=17<;>by_cases h4:op=18<;>simp[h1,h2,h3,h4]<;>omega
def mask (k op:Int):Int:=if k=1 then(if eA op=true then 59 else 43) else if k=2 then 38 else if k=3 then 44 else if k=4 then 46 else if k=5 then 36 else if k=6 then 36 else if k=7 then 40 else if k=8 then 104 else 0
set_option maxRecDepth 100000 in
theorem AH (n:Node) (hn:n.Wf) (h:1<=n.kind/\n.kind<10):Pure Tryz.prog 116 [n.av] (fun r=>r=u8 (mask n.kind n.op)):=by
 obtain⟨h0,h1⟩:=h
 have ho:=hn.op.1
 obtain⟨kind,op,slot,cR,a,b,next,rk,origin⟩:=n
 simp only at h0 h1 ho
 have hk:kind=1\/kind=2\/kind=3\/kind=4\/kind=5\/kind=6\/kind=7\/kind=8\/kind=9:=by omega
 rcases hk with rfl|rfl|rfl|rfl|rfl|rfl|rfl|rfl|rfl
 ·refine aG NR rfl ?_
  repeat' (first|refine aQ ?_|exact aC|with_reducible refine aD ?_ ?_|(apply aA;(·exact cU))|((with_reducible refine aP (fN _ ho) ?_ ?_);(·exact cH))|((with_reducible refine aO (fun _=>fN _ ho) ?_ ?_);(·exact cH))|((with_reducible refine aM (fN _ ho) ?_ ?_);(·exact cH))|((with_reducible refine aN (fun _=>fN _ ho) ?_ ?_);(·exact cH))|refine aH ?_|((with_reducible refine aE ?_ ?_)<;>intro hc<;>try(exfalso;omega)))
  all_goals
   cases ht:eA op with
   |true=>
    rw[ht] at hc
    first|(exact absurd rfl hc)|(exact absurd hc (by decide))|(simp only[show mask 1 op=59 by simp[mask,ht]];try kernel_rfl)
   |false=>
    rw[ht] at hc
    first|(exact absurd rfl hc)|(exact absurd hc (by decide))|(simp only[show mask 1 op=43 by simp[mask,ht]];try kernel_rfl)
 iterate 8
  refine cm ?_ (by simp[cK])
  refine aJ NR rfl ?_
  refine cV ?_
  exact⟨rfl⟩
theorem lX.default_eq:(default:lX)=⟨false,0,0⟩:=rfl
def iS (m u:Int):Int:=IntKind.u8.wrap (BitVec.ofInt IntKind.u8.bits m&&& BitVec.ofInt IntKind.u8.bits u).toNat
theorem q7 (k u most m:Int) (b:Nat) (H:Hp) (nx:Nat) (e:TypeId) (d:AV) (hb:bw H b=some (.row e 1 d [u8 m])):vC Tryz.prog 117 [i64 k,u8 u,i64 most, .pt b 1 0 0] H nx (bl (qA k (decide (iS m u≠0)) most)):=by
 refine aa RI rfl ?_
 repeat' (first|refine aQ ?_|exact aC|with_reducible refine aD ?_ ?_|(apply aA;(·exact cU))|refine aH ?_|((with_reducible refine aE ?_ ?_)<;>intro hc<;>try(exfalso;omega)))
 refine GC.look ?_ w4
 simp only[show IntKind.u8.wrap (BitVec.ofInt IntKind.u8.bits m&&& BitVec.ofInt IntKind.u8.bits u).toNat=iS m u from rfl,qA]
 by_cases h1:iS m u=0<;>by_cases h2:k=0<;>by_cases h3:0<=k<;>by_cases h4:k<most<;>simp[h1,h2,h3,h4]
theorem sx (v:lX) (u m:Int) (g:cF) (b c:Nat) (H:Hp) (nx:Nat) (e e2:TypeId) (d d2:AV) (hb:bw H b=some (.row e 1 d [u8 m])) (hc:bw H c=some (.row e2 4 d2 [g.av])) (hbn:b<nx) (hcn:c<nx):vC Tryz.prog 118 [v.av,u8 u, .pt b 1 0 0, .pt c 1 0 0] H nx (bl (tV v (decide (iS m u≠0)) g.cC)):=by
 refine aa RJ rfl ?_
 repeat' (first|refine aQ ?_|exact gH|with_reducible refine aD ?_ ?_|((with_reducible refine Ask.mk ?_);first|exact dy|exact dC|(intro h;simp_all[lX.cells,cF.cells]<;>fail)|(simp_all[lX.cells,cF.cells]<;>fail))|(apply aA;(·exact cU))|refine aH ?_|((with_reducible refine aE ?_ ?_)<;>intro hc<;>try(exfalso;omega)))
 all_goals refine GC.look ?_ w4
 all_goals simp only[show IntKind.u8.wrap (BitVec.ofInt IntKind.u8.bits m&&& BitVec.ofInt IntKind.u8.bits u).toNat=iS m u from rfl] at *
 all_goals unfold tV
 ·rw[if_neg (show ¬decide (iS m u≠0)=true by simp[hc])]
  obtain⟨is,sl,wo⟩:=v
  refine ez ?_
  rw[Bool.eq_iff_iff]
  simp[lX.default_eq,and_assoc]
 ·rename_i h0
  rw[decide_eq_true hc,if_pos rfl,if_pos h0]
  refine ez ?_
  by_cases h1:0<=v.slot<;>by_cases h2:v.slot<g.cC<;>simp[h1,h2]
 ·rename_i h0
  rw[decide_eq_true hc,if_pos rfl,if_neg (by rw[h0];decide)]
theorem ET (k op:Int) (h:1<=k/\k<10):(iS (mask k op) 1=0↔¬k=1)/\(decide (iS (mask k op) 2≠0)=kY k)/\(decide (iS (mask k op) 4≠0)=fx k)/\(decide (iS (mask k op) 8≠0)=ur k)/\(decide (iS (mask k op) 16≠0)=(decide (k=1)&&eA op))/\(decide (iS (mask k op) 32≠0)=jV k)/\(decide (iS (mask k op) 64≠0)=decide (k=8)):=by
 have hk:k=1\/k=2\/k=3\/k=4\/k=5\/k=6\/k=7\/k=8\/k=9:=by omega
 rcases hk with rfl|rfl|rfl|rfl|rfl|rfl|rfl|rfl|rfl
 ·cases ht:eA op with
  |false=>rw[show mask 1 op=43 by simp[mask,ht]];decide
  |true=>rw[show mask 1 op=59 by simp[mask,ht]];decide
 ·rw[show mask 2 op=38 by rfl,show(decide ((2:Int)=1)&&eA op)=false by rfl];decide
 ·rw[show mask 3 op=44 by rfl,show(decide ((3:Int)=1)&&eA op)=false by rfl];decide
 ·rw[show mask 4 op=46 by rfl,show(decide ((4:Int)=1)&&eA op)=false by rfl];decide
 ·rw[show mask 5 op=36 by rfl,show(decide ((5:Int)=1)&&eA op)=false by rfl];decide
 ·rw[show mask 6 op=36 by rfl,show(decide ((6:Int)=1)&&eA op)=false by rfl];decide
 ·rw[show mask 7 op=40 by rfl,show(decide ((7:Int)=1)&&eA op)=false by rfl];decide
 ·rw[show mask 8 op=104 by rfl,show(decide ((8:Int)=1)&&eA op)=false by rfl];decide
 ·rw[show mask 9 op=0 by rfl,show(decide ((9:Int)=1)&&eA op)=false by rfl];decide
set_option maxRecDepth 4000 in
set_option maxHeartbeats 2000000 in
theorem AS (u:bx) (g:cF) (n:Node) (hn:n.Wf):Pure Tryz.prog 72 [u.av,g.av,n.av] (fun r=>r=bl (mB u g n)):=by
 refine aG VF rfl ?_
 have h0:=hn.kind.1
 have ho:=hn.op.1
 by_cases hk:1<=n.kind/\n.kind<10/\0<=n.origin/\n.origin<4096
 ·have hp:=AH n hn ⟨hk.1,hk.2.1⟩
  obtain⟨m1,m2,m3,m4,m5,m6,m7⟩:=ET n.kind n.op ⟨hk.1,hk.2.1⟩
  repeat' (first|refine aQ ?_|exact gH|with_reducible refine aD ?_ ?_|((with_reducible refine Ask.mk ?_);first|exact dy|exact dC|(intro h;simp_all[bx.cells,cF.cells,Node.cells]<;>fail)|(simp_all[bx.cells,cF.cells,Node.cells]<;>fail))|(apply aA;(·exact cU))|refine aK (hp) ?_|((refine aY (q7 _ _ _ _ _ _ _ _ _ (by exact rfl)) ?_ ?_);(·exact True.intro))|((refine aX (fun _=>q7 _ _ _ _ _ _ _ _ _ (by exact rfl)) ?_ ?_);(·exact True.intro))|((refine aY (sx ⟨_,_,_⟩ _ _ _ _ _ _ _ _ _ _ _ (by exact rfl) (by exact rfl) ca ca) ?_ ?_);(·exact True.intro))|((refine aX (fun _=>sx ⟨_,_,_⟩ _ _ _ _ _ _ _ _ _ _ _ (by exact rfl) (by exact rfl) ca ca) ?_ ?_);(·exact True.intro))|refine aH ?_|((with_reducible refine aE ?_ ?_)<;>intro hc<;>try(exfalso;omega)))
  all_goals
   have hop:qA (IntKind.i64.wrap n.op) (decide (iS (mask n.kind n.op) 1≠0)) 19=(if n.kind=1 then decide (n.op<19) else decide (n.op=0)):=by
    have h2:=hn.op.2
    rw[wrap64 (by omega) (by omega)]
    unfold qA
    by_cases h1:n.kind=1
    ·rw[if_pos h1,if_pos (show decide (iS (mask n.kind n.op) 1≠0)=true by rw[decide_eq_true_eq];exact fun h=>m1.1 h h1),decide_eq_true ho,Bool.true_and]
    ·rw[if_neg h1,if_neg (show ¬decide (iS (mask n.kind n.op) 1≠0)=true by rw[decide_eq_true_eq];exact fun h=>h (m1.2 h1))]
   refine ez ?_
   rw[hop,m2,m3,m4,m5,m6,m7]
   unfold mB
   rw[decide_eq_true hk,Bool.true_and]
   simp only[hc,if_true,if_false,or_self,Bool.if_false_right,Bool.decide_eq_true,Bool.and_assoc]
   simp only[List.length_map]
   generalize qA n.slot (kY n.kind) g.cC=x1
   have ea:(⟨n.a.jK,n.a.slot,n.a.word⟩:lX)=n.a:=rfl
   have eb:(⟨n.b.jK,n.b.slot,n.b.word⟩:lX)=n.b:=rfl
   rw[ea,eb]
   generalize tV n.a (ur n.kind) g.cC=x2
   generalize tV n.b (decide (n.kind=1)&&eA n.op) g.cC=x3
   generalize qA n.next (jV n.kind) g.nodes.length=x4
   generalize qA n.rk (decide (n.kind=8)) g.nodes.length=x5
   revert x1 x2 x3 x4 x5
   intro x1 x2 x3 x4 x5
   cases x1<;>cases x2<;>cases x3<;>cases x4<;>cases x5<;>simp
 ·have hb:mB u g n=false:=by unfold mB;rw[decide_eq_false hk];simp
  rw[hb]
  repeat' (first|refine aQ ?_|exact gH|with_reducible refine aD ?_ ?_|((with_reducible refine Ask.mk ?_);first|exact dy|exact dC|(intro h;simp_all[bx.cells,cF.cells,Node.cells]<;>fail)|(simp_all[bx.cells,cF.cells,Node.cells]<;>fail))|(apply aA;(·exact cU))|refine aH ?_|((with_reducible refine aE ?_ ?_)<;>intro hc<;>try(exfalso;omega)))
  exact rfl
def jH (c:Int):Bool:=decide (48<=c)&&decide (c<=57)
def mg (c:Int):Bool:=decide (97<=c)&&decide (c<=122)||decide (65<=c)&&decide (c<=90)||decide (c=95)
def J9:List ByteArray:=[⟨(List.toArray [115,104,97,114,101,100])⟩,⟨(List.toArray [108,111,99,107])⟩,⟨(List.toArray [116,104,114,101,97,100])⟩,⟨(List.toArray [108,111,99,97,108])⟩,⟨(List.toArray [105,102])⟩,⟨(List.toArray [101,108,115,101])⟩,⟨(List.toArray [119,104,105,108,101])⟩,⟨(List.toArray [112,114,105,110,116])⟩,⟨(List.toArray [115,107,105,112])⟩,⟨(List.toArray [115,119,97,112])⟩]
def uy (s:ByteArray):Bool:=J9.any (s==·)
theorem eI (c:Int):Pure Tryz.prog 165 [u8 c] (fun r=>r=bl (mg c)):=by
 refine aG R1 rfl ?_
 repeat' (first|refine aQ ?_|exact aC|with_reducible refine aD ?_ ?_|(apply aA;(·exact cU))|refine aH ?_|((with_reducible refine aE ?_ ?_)<;>intro hc<;>try(exfalso;omega)))
 refine ez ?_
 unfold mg
 by_cases h1:97<=c<;>by_cases h2:c<=122<;>by_cases h3:65<=c<;>by_cases h4:c<=90<;>by_cases h5:c=95<;>simp[h1,h2,h3,h4,h5]
theorem gP (s:ByteArray):Pure Tryz.prog 164 [st s] (fun r=>r=bl (uy s)):=by
 refine aG R0 rfl ?_
 repeat' (first|refine aQ ?_|exact aC|with_reducible refine aD ?_ ?_|(apply aA;(·exact cU))|refine aH ?_|((with_reducible refine aE ?_ ?_)<;>intro hc<;>try(exfalso;omega)))
 all_goals refine ez ?_
 all_goals simp_all[uy,J9]
def gO (s:ByteArray) (i:Nat):Int:=(s.data.toList.getD i 0).toNat
def lT (s:ByteArray):Bool:=decide (1<=s.size)&&decide (s.size<=32)&& !jH (gO s 0)&& !uy s&&(List.range s.size).all fun i=>mg (gO s i)||jH (gO s i)
theorem MW (s:ByteArray):(s==(⟨#[]⟩:ByteArray))=decide (s.size=0):=by
 obtain⟨d⟩:=s
 show(d==#[])=_
 rw[Bool.eq_iff_iff]
 show(d==#[])=true↔decide (d.size=0)=true
 simp
theorem EW (s:ByteArray) (hs:s.size<=140737488351232):Pure Tryz.prog 115 [st s] (fun r=>r=bl (lT s)):=by
 refine aG RH rfl ?_
 have e0:=MW s
 by_cases hz:s.size=0
 ·have e1:(s==(⟨#[]⟩:ByteArray))=true:=by rw[e0,decide_eq_true hz]
  have hb:lT s=false:=by unfold lT;rw[decide_eq_false (by omega)];simp
  rw[hb]
  repeat' (first|refine aQ ?_|exact gH|with_reducible refine aD ?_ ?_|((with_reducible refine Ask.mk ?_);first|exact dy|((refine Ask.mk ?_);intro h;simp_all)|exact dC)|(apply aA;(·exact cU))|((with_reducible refine aP (eW _) ?_ ?_);(·exact cH))|((with_reducible refine aO (fun _=>eW _) ?_ ?_);(·exact cH))|((with_reducible refine aM (eW _) ?_ ?_);(·exact cH))|((with_reducible refine aN (fun _=>eW _) ?_ ?_);(·exact cH))|((with_reducible refine aP (gP _) ?_ ?_);(·exact cH))|((with_reducible refine aO (fun _=>gP _) ?_ ?_);(·exact cH))|((with_reducible refine aM (gP _) ?_ ?_);(·exact cH))|((with_reducible refine aN (fun _=>gP _) ?_ ?_);(·exact cH))|((with_reducible refine aP (eI _) ?_ ?_);(·exact cH))|((with_reducible refine aO (fun _=>eI _) ?_ ?_);(·exact cH))|((with_reducible refine aM (eI _) ?_ ?_);(·exact cH))|((with_reducible refine aN (fun _=>eI _) ?_ ?_);(·exact cH))|(simp only[e1])|refine aH ?_|((with_reducible refine aE ?_ ?_)<;>intro hc<;>try(exfalso;omega)))
  all_goals first|exact rfl|(exfalso;simp_all)
 ·have e1:(s==(⟨#[]⟩:ByteArray))=false:=by rw[e0,decide_eq_false hz]
  repeat' (first|refine aQ ?_|exact gH|with_reducible refine aD ?_ ?_|((with_reducible refine Ask.mk ?_);first|exact dy|((refine Ask.mk ?_);intro h;exact⟨by omega,by omega⟩)|exact dC)|(apply aA;(·exact cU))|((with_reducible refine aP (eW _) ?_ ?_);(·exact cH))|((with_reducible refine aO (fun _=>eW _) ?_ ?_);(·exact cH))|((with_reducible refine aM (eW _) ?_ ?_);(·exact cH))|((with_reducible refine aN (fun _=>eW _) ?_ ?_);(·exact cH))|((with_reducible refine aP (gP _) ?_ ?_);(·exact cH))|((with_reducible refine aO (fun _=>gP _) ?_ ?_);(·exact cH))|((with_reducible refine aM (gP _) ?_ ?_);(·exact cH))|((with_reducible refine aN (fun _=>gP _) ?_ ?_);(·exact cH))|((with_reducible refine aP (eI _) ?_ ?_);(·exact cH))|((with_reducible refine aO (fun _=>eI _) ?_ ?_);(·exact cH))|((with_reducible refine aM (eI _) ?_ ?_);(·exact cH))|((with_reducible refine aN (fun _=>eI _) ?_ ?_);(·exact cH))|(simp only[e1])|refine aH ?_|((with_reducible refine aE ?_ ?_)<;>intro hc<;>try(exfalso;omega)))
  ·refine ez (Eq.symm ?_)
   unfold lT
   have hp:(decide (1<=s.size)&&decide (s.size<=32)&& !jH (gO s 0)&& !uy s)=false:=by
    rcases hc with((h|h)|h)|h
    ·exact absurd h (by decide)
    ·simp[show ¬s.size<=32 by omega]
    ·have h:48<=gO s 0/\gO s 0<=57:=h
     simp[jH,h.1,h.2]
    ·simp[h]
   rw[hp,Bool.false_and]
  ·have hp:(decide (1<=s.size)&&decide (s.size<=32)&& !jH (gO s 0)&& !uy s)=true:=by
    obtain⟨h1,h2⟩:=hc
    have h3:¬(48<=gO s 0/\gO s 0<=57):=fun h=>h1 (.inr h)
    have h4:s.size<=32:=by
     have:¬(32:Int)<s.size:=fun h=>h1 (.inl (.inr h))
     omega
    have h5:jH (gO s 0)=false:=by
     unfold jH
     by_cases h:48<=gO s 0
     ·rw[decide_eq_true h,decide_eq_false (fun h'=>h3 ⟨h,h'⟩)];rfl
     ·rw[decide_eq_false h];rfl
    rw[decide_eq_true (by omega:1<=s.size),decide_eq_true h4,h5,h2];rfl
   have hb:∀R,(decide (1<=s.size)&&decide (s.size<=32)&& !jH (gO s 0)&& !uy s&&R)=R:=fun R=>by rw[hp,Bool.true_and]
   unfold lT
   rw[hb]
   clear hc hp hb e1 e0
   refine aL (fun i:Nat=>[(0,st s),(21,i64 s.size),(22,i64 i)]) (fun i H n=>i<=s.size/\∀j,j<i->(mg (gO s j)||jH (gO s j))=true) (fun i=>s.size - i) 0 cI ⟨Nat.zero_le _,fun _ h=>by omega⟩ ?_
   rintro i H n ⟨hi,hall⟩
   by_cases his:i<s.size
   ·repeat' (first|refine aQ ?_|exact gH|with_reducible refine aD ?_ ?_|((with_reducible refine Ask.mk ?_);first|exact dy|((refine Ask.mk ?_);intro h;exact⟨by omega,by omega⟩)|exact dC)|(apply aA;(·exact cU))|((with_reducible refine aP (eW _) ?_ ?_);(·exact cH))|((with_reducible refine aO (fun _=>eW _) ?_ ?_);(·exact cH))|((with_reducible refine aM (eW _) ?_ ?_);(·exact cH))|((with_reducible refine aN (fun _=>eW _) ?_ ?_);(·exact cH))|((with_reducible refine aP (eI _) ?_ ?_);(·exact cH))|((with_reducible refine aO (fun _=>eI _) ?_ ?_);(·exact cH))|((with_reducible refine aM (eI _) ?_ ?_);(·exact cH))|((with_reducible refine aN (fun _=>eI _) ?_ ?_);(·exact cH))|refine aH ?_|((with_reducible refine aE ?_ ?_)<;>intro hc<;>try(exfalso;omega)))
    ·refine ez (Eq.symm ?_)
     rw[Bool.eq_false_iff,ne_eq,List.all_eq_true]
     intro hA
     have h1:=hA i (List.mem_range.2 his)
     have hc:mg (gO s i)=false/\(gO s i<48\/57<gO s i):=hc
     rw[hc.1,Bool.false_or] at h1
     simp only[jH,Bool.and_eq_true,decide_eq_true_eq] at h1
     omega
    ·refine⟨i+1,by omega,cI,by omega,fun j hj=> ?_⟩
     by_cases hji:j=i
     ·have hc:¬mg (gO s i)=false\/(48<=gO s i/\gO s i<=57):=hc
      rw[hji]
      rcases hc with h|h
      ·rw[Bool.not_eq_false] at h
       rw[h,Bool.true_or]
      ·simp[jH,h.1,h.2]
     ·exact hall j (by omega)
   ·have:i=s.size:=by omega
    subst this
    repeat' (first|refine aQ ?_|exact aC|with_reducible refine aD ?_ ?_|(apply aA;(·exact cU))|refine aH ?_|((with_reducible refine aE ?_ ?_)<;>intro hc<;>try(exfalso;omega)))
    refine ez (Eq.symm ?_)
    rw[List.all_eq_true]
    intro j hj
    exact hall j (List.mem_range.1 hj)
abbrev xx (E:List (ByteArray×Bool)):List AV:=py (fun s:ByteArray=>Value.string s) bl E
theorem UI (E:List (ByteArray×Bool)) (t:ByteArray):mA true (.string t) (xx E) (bl false)=some (bl ((ef E t).getD false),(ef E t).isSome):=(zt vk bl t E (bl false)).trans (by cases ef E t<;>rfl)
theorem VW (E:List (ByteArray×Bool)) (t:ByteArray) (v:Bool):oc true (.string t) (xx E) (bl v)=some (xx (ic E t v)):=zu vk bl t v E
def mG (l:List ByteArray):List (ByteArray×Bool):=l.map fun s=>(s,true)
def jX:List ByteArray->ByteArray->Bool
 |[],_=>false
 |a::l,s=>if s=a then true else jX l s
theorem FH (l:List ByteArray) (s:ByteArray):(ef (mG l) s).getD false=jX l s:=by
 induction l with
 |nil=>rfl
 |cons a l ih=>
  show((if s=a then some true else ef (mG l) s)).getD false=(if s=a then true else jX l s)
  by_cases h:s=a
  ·rw[if_pos h,if_pos h];rfl
  ·rw[if_neg h,if_neg h,ih]
theorem JU (l:List ByteArray) (s:ByteArray) (h:jX l s=false):ic (mG l) s true=mG (l++[s]):=by
 induction l with
 |nil=>rfl
 |cons a l ih=>
  rw[jX] at h
  by_cases e:s=a
  ·rw[if_pos e] at h;cases h
  ·rw[if_neg e] at h
   show(if s=a then(s,true)::mG l else(a,true)::ic (mG l) s true)=_
   rw[if_neg e,ih h];rfl
theorem rB (s:ByteArray) (hs:s.size<=140737488351232) (l:List ByteArray) (b m:Nat) (H:Hp) (nx:Nat) (e em:TypeId) (d dm:AV) (hb:bw H b=some (.row e 1 d [.mp m])) (hm:bw H m=some (.row em 0 dm (mapA (xx (mG l))))) (hbn:b<nx) (hmn:m<nx) (hbm:b≠m):
 cO Tryz.prog 114 [st s, .pt b 1 0 0] H nx (fun r H' n=>r=bl (lT s&& !jX l s)/\nx<=n/\(jX l s=false->bw H' m=some (.row em 0 dm (mapA (xx (mG (l++[s]))))))/\∀y,y<nx->y≠m->bw H' y=bw H y):=by
 refine aJ RG rfl ?_
 repeat' (first|refine aQ ?_|exact aC|with_reducible refine aD ?_ ?_|(apply aA;(·exact cU))|refine aK (EW s hs) ?_|(apply aR (g:=some _);(·exact fun _=>UI _ _))|(apply aR (g:=none);(·exact fun _=>VW _ _ _))|refine aH ?_|((with_reducible refine aE ?_ ?_)<;>intro hc<;>try(exfalso;omega)))
 refine⟨⟨?_,ca,fun h=> ?_,fun y hy hym=> ?_⟩⟩
 ·rw[FH]
  refine ez ?_
  cases lT s<;>cases jX l s<;>rfl
 ·rw[<-JU l s h]
  exact cA
 ·exact cB
def gT:List ByteArray->List ByteArray->Bool
 |_,[]=>true
 |acc,s::r=>if(lT s&& !jX acc s)=true then gT (acc++[s]) r else false
def cr (u:bx):List ByteArray:=u.shared.map Decl.name++(u.cG.map Decl.name++u.bz.map cF.name)
def fW (u:bx):Bool:=decide (u.shared.length<=64)&&decide (u.cG.length<=16)&&decide (u.bz.length<=8)&&gT [] (cr u)&&u.cG.all (fun d=>decide (d.word=0))
theorem l7 (u:bx) {k:Nat} (hk:k<(cr u).length) (h:gT ((cr u).take k) ((cr u).drop k)=gT [] (cr u)) {s:ByteArray} (hs:(cr u).getD k default=s):
 (gT [] (cr u)=if(lT s&& !jX ((cr u).take k) s)=true then gT ((cr u).take (k+1)) ((cr u).drop (k+1)) else false)/\(cr u).take (k+1)=(cr u).take k++[s]:=by
 have e:(cr u)[k]=s:=by rw[<-hs];simp[List.getD,hk]
 have e2:(cr u).take (k+1)=(cr u).take k++[s]:=by rw[List.take_succ_eq_append_getElem hk,e]
 refine⟨?_,e2⟩
 rw[<-h,List.drop_eq_getElem_cons hk,gT,e,e2]
theorem L0 (u:bx) {i:Nat} (h:i<u.shared.length):(cr u).getD i default=(u.shared.getD i default).name:=by
 simp[cr,List.getD,List.getElem?_append,h]
theorem LZ (u:bx) {i:Nat} (h:i<u.cG.length):(cr u).getD (u.shared.length+i) default=(u.cG.getD i default).name:=by
 unfold cr
 rw[List.getD,List.getElem?_append_right (by simp),List.length_map,Nat.add_sub_cancel_left,List.getElem?_append_left (by simpa using h)]
 simp[List.getD,h]
theorem LY (u:bx) {i:Nat} (h:i<u.bz.length):(cr u).getD (u.shared.length+u.cG.length+i) default=(u.bz.getD i default).name:=by
 unfold cr
 rw[List.getD,List.getElem?_append_right (by simp;omega),List.getElem?_append_right (by simp;omega)]
 simp only[List.length_map]
 rw[show u.shared.length+u.cG.length+i - u.shared.length - u.cG.length=i by omega]
 simp[List.getD,h]
set_option maxHeartbeats 4000000 in
theorem zx (u:bx) (hu:u.Wf):Pure Tryz.prog 71 [u.av] (fun r=>r=bl (fW u)):=by
 refine aG VE rfl ?_
 have h1:=hu.uh
 have h2:=hu.xl
 have h3:=hu.D7
 by_cases hl:u.shared.length<=64/\u.cG.length<=16/\u.bz.length<=8
 ·repeat' (first|refine aQ ?_|exact gH|with_reducible refine aD ?_ ?_|((with_reducible refine Ask.mk ?_);first|exact dy|exact dC|(intro h;simp_all[bx.cells]<;>fail)|(simp_all[bx.cells]<;>fail))|(apply aA;(·exact cU))|refine aH ?_|((with_reducible refine aE ?_ ?_)<;>intro hc<;>try(exfalso;omega)))
  clear hc
  simp only[List.length_map]
  refine aL (fun i:Nat=>[(1, .pt 0 1 0 0),(4, .fn (.func 114) [] [.pt 19 1 0 0]),(30,cw u.shared),(31,i64 u.shared.length),(32,i64 i)]) (fun i H n=>i<=u.shared.length/\20<=n/\(∃d,bw H 0=some (.row 25 3 d [u.av]))/\(∃d,bw H 19=some (.row 178 1 d [.mp 18]))/\(∃d,bw H 18=some (.row 9 0 d (mapA (xx (mG ((cr u).take (i)))))))/\gT ((cr u).take (i)) ((cr u).drop (i))=gT [] (cr u)) (fun i=>u.shared.length - i) 0 cI ⟨Nat.zero_le _,ca,⟨_,cA⟩,⟨_,cA⟩,⟨_,cA⟩,rfl⟩ ?_
  rintro i H n ⟨hi,hn,⟨d0,r0⟩,⟨d19,r19⟩,⟨d18,r18⟩,hq⟩
  by_cases hil:i<u.shared.length
  ·have hk:i<(cr u).length:=by simp only[cr,List.length_append,List.length_map];omega
   have hs:(cr u).getD (i) default=(u.shared.getD i default).name:=L0 u hil
   obtain⟨ha,ht⟩:=l7 u hk hq hs
   have hsz:=(hu.shared _ (cS default hil)).name
   repeat' (first|refine aQ ?_|exact gH|with_reducible refine aD ?_ ?_|((with_reducible refine Ask.mk ?_);first|exact dy|exact dC|(intro h;simp_all[bx.cells,Decl.cells]<;>fail)|(simp_all[bx.cells,Decl.cells]<;>fail))|(apply aA;(·(first|exact HA|exact cU)))|refine aH ?_|((with_reducible refine aE ?_ ?_)<;>intro hc<;>try(exfalso;omega)))
   refine aI (rB _ hsz ((cr u).take (i)) 19 18 _ _ _ _ _ _ cA cA ca ca (by decide)) ?_
   rintro _ H2 n2 ⟨rfl,hn2,hput,hf⟩
   have hn12:n<=n2:=Nat.le_trans ca hn2
   have r02:bw H2 0=some (.row 25 3 d0 [u.av]):=(hf 0 (Nat.lt_of_lt_of_le (by omega:0<n) ca) (by decide)).trans cA
   have r192:bw H2 19=some (.row 178 1 d19 [.mp 18]):=(hf 19 (Nat.lt_of_lt_of_le (by omega:19<n) ca) (by decide)).trans cA
   cases hg:(lT (u.shared.getD i default).name&& !jX ((cr u).take (i)) (u.shared.getD i default).name) with
   |false=>
    rw[hg,if_neg (by decide)] at ha
    have hb:fW u=false:=by unfold fW;rw[ha];simp
    rw[hb]
    repeat' (first|refine aQ ?_|exact gH|with_reducible refine aD ?_ ?_|((with_reducible refine Ask.mk ?_);first|exact dy|exact dC|(intro h;simp_all[bx.cells,Decl.cells]<;>fail)|(simp_all[bx.cells,Decl.cells]<;>fail))|(apply aA;(·exact cU))|refine aH ?_|((with_reducible refine aE ?_ ?_)<;>intro hc<;>try(exfalso;omega)))
    exact rfl
   |true=>
    rw[hg,if_pos rfl] at ha
    have hnm:jX ((cr u).take (i)) (u.shared.getD i default).name=false:=by revert hg;cases jX ((cr u).take (i)) (u.shared.getD i default).name<;>simp
    have r182:=hput hnm
    rw[<-ht] at r182
    clear hf hput
    repeat' (first|refine aQ ?_|exact gH|with_reducible refine aD ?_ ?_|((with_reducible refine Ask.mk ?_);first|exact dy|exact dC|(intro h;simp_all[bx.cells,Decl.cells]<;>fail)|(simp_all[bx.cells,Decl.cells]<;>fail))|(apply aA;(·exact cU))|refine aH ?_|((with_reducible refine aE ?_ ?_)<;>intro hc<;>try(exfalso;omega)))
    exact⟨i+1,by omega,cI,by omega,by omega,⟨_,cA⟩,⟨_,cA⟩,⟨_,cA⟩,ha.symm⟩
  ·have hie:i=u.shared.length:=by omega
   subst hie
   repeat' (first|refine aQ ?_|exact gH|with_reducible refine aD ?_ ?_|((with_reducible refine Ask.mk ?_);first|exact dy|exact dC|(intro h;simp_all[bx.cells]<;>fail)|(simp_all[bx.cells]<;>fail))|(apply aA;(·exact cU))|refine aH ?_|((with_reducible refine aE ?_ ?_)<;>intro hc<;>try(exfalso;omega)))
   refine aL (fun i:Nat=>[(1, .pt 0 1 0 0),(4, .fn (.func 114) [] [.pt 19 1 0 0]),(43,cw u.cG),(44,i64 u.cG.length),(45,i64 i)]) (fun i H n=>i<=u.cG.length/\20<=n/\(∃d,bw H 0=some (.row 25 3 d [u.av]))/\(∃d,bw H 19=some (.row 178 1 d [.mp 18]))/\(∃d,bw H 18=some (.row 9 0 d (mapA (xx (mG ((cr u).take (u.shared.length+i)))))))/\gT ((cr u).take (u.shared.length+i)) ((cr u).drop (u.shared.length+i))=gT [] (cr u)/\∀j,j<i->(u.cG.getD j default).word=0) (fun i=>u.cG.length - i) 0 cI ⟨Nat.zero_le _,ca,⟨_,cA⟩,⟨_,cA⟩,⟨_,by rw[Nat.add_zero];exact cA⟩,by rw[Nat.add_zero];exact hq,fun _ h=>by omega⟩ ?_
   clear r0 r19 r18 hq hc
   rintro i H n ⟨hi,hn,⟨d0,r0⟩,⟨d19,r19⟩,⟨d18,r18⟩,hq,hw⟩
   by_cases hil:i<u.cG.length
   ·have hk:u.shared.length+i<(cr u).length:=by simp only[cr,List.length_append,List.length_map];omega
    have hs:(cr u).getD (u.shared.length+i) default=(u.cG.getD i default).name:=LZ u hil
    obtain⟨ha,ht⟩:=l7 u hk hq hs
    have hsz:=(hu.cG _ (cS default hil)).name
    repeat' (first|refine aQ ?_|exact gH|with_reducible refine aD ?_ ?_|((with_reducible refine Ask.mk ?_);first|exact dy|exact dC|(intro h;simp_all[bx.cells,Decl.cells]<;>fail)|(simp_all[bx.cells,Decl.cells]<;>fail))|(apply aA;(·(first|exact HA|exact cU)))|refine aH ?_|((with_reducible refine aE ?_ ?_)<;>intro hc<;>try(exfalso;omega)))
    refine aI (rB _ hsz ((cr u).take (u.shared.length+i)) 19 18 _ _ _ _ _ _ cA cA ca ca (by decide)) ?_
    rintro _ H2 n2 ⟨rfl,hn2,hput,hf⟩
    have hn12:n<=n2:=Nat.le_trans ca hn2
    have r02:bw H2 0=some (.row 25 3 d0 [u.av]):=(hf 0 (Nat.lt_of_lt_of_le (by omega:0<n) ca) (by decide)).trans cA
    have r192:bw H2 19=some (.row 178 1 d19 [.mp 18]):=(hf 19 (Nat.lt_of_lt_of_le (by omega:19<n) ca) (by decide)).trans cA
    cases hg:(lT (u.cG.getD i default).name&& !jX ((cr u).take (u.shared.length+i)) (u.cG.getD i default).name) with
    |false=>
     rw[hg,if_neg (by decide)] at ha
     have hb:fW u=false:=by unfold fW;rw[ha];simp
     rw[hb]
     clear hf hput
     repeat' (first|refine aQ ?_|exact gH|with_reducible refine aD ?_ ?_|((with_reducible refine Ask.mk ?_);first|exact dy|exact dC|(intro h;simp_all[bx.cells,Decl.cells]<;>fail)|(simp_all[bx.cells,Decl.cells]<;>fail))|(apply aA;(·exact cU))|refine aH ?_|((with_reducible refine aE ?_ ?_)<;>intro hc<;>try(exfalso;omega)))
     exact rfl
    |true=>
     rw[hg,if_pos rfl] at ha
     have hnm:jX ((cr u).take (u.shared.length+i)) (u.cG.getD i default).name=false:=by revert hg;cases jX ((cr u).take (u.shared.length+i)) (u.cG.getD i default).name<;>simp
     have r182:=hput hnm
     rw[<-ht] at r182
     obtain⟨d4,r4⟩:∃d,bw H2 (n+3)=some (.row 85 3 d [(u.cG.getD i default).av]):=⟨_,(hf (n+3) ca (by omega)).trans cA⟩
     clear hf hput
     repeat' (first|refine aQ ?_|exact gH|with_reducible refine aD ?_ ?_|((with_reducible refine Ask.mk ?_);first|exact dy|exact dC|(intro h;simp_all[bx.cells,Decl.cells]<;>fail)|(simp_all[bx.cells,Decl.cells]<;>fail))|(apply aA;(·exact cU))|refine aH ?_|((with_reducible refine aE ?_ ?_)<;>intro hc<;>try(exfalso;omega)))
     ·have hb:fW u=false:=by
       unfold fW
       rw[Bool.and_eq_false_iff]
       right
       rw[Bool.eq_false_iff,ne_eq,List.all_eq_true]
       exact fun h=>(hc.resolve_left (by decide)) (of_decide_eq_true (h _ (cS default hil)))
      rw[hb]
     ·exact⟨i+1,by omega,cI,by omega,by omega,⟨_,cA⟩,⟨_,cA⟩,⟨_,cA⟩,ha.symm,fun j hj=>by
       by_cases hji:j=i
       ·rw[hji];exact hc.2
       ·exact hw j (by omega)⟩
   ·have hie:i=u.cG.length:=by omega
    subst hie
    repeat' (first|refine aQ ?_|exact gH|with_reducible refine aD ?_ ?_|((with_reducible refine Ask.mk ?_);first|exact dy|exact dC|(intro h;simp_all[bx.cells]<;>fail)|(simp_all[bx.cells]<;>fail))|(apply aA;(·exact cU))|refine aH ?_|((with_reducible refine aE ?_ ?_)<;>intro hc<;>try(exfalso;omega)))
    refine aL (fun i:Nat=>[(1, .pt 0 1 0 0),(4, .fn (.func 114) [] [.pt 19 1 0 0]),(61,df u.bz),(62,i64 u.bz.length),(63,i64 i)]) (fun i H n=>i<=u.bz.length/\20<=n/\(∃d,bw H 0=some (.row 25 3 d [u.av]))/\(∃d,bw H 19=some (.row 178 1 d [.mp 18]))/\(∃d,bw H 18=some (.row 9 0 d (mapA (xx (mG ((cr u).take (u.shared.length+u.cG.length+i)))))))/\gT ((cr u).take (u.shared.length+u.cG.length+i)) ((cr u).drop (u.shared.length+u.cG.length+i))=gT [] (cr u)/\∀j,j<u.cG.length->(u.cG.getD j default).word=0) (fun i=>u.bz.length - i) 0 cI ⟨Nat.zero_le _,ca,⟨_,cA⟩,⟨_,cA⟩,⟨_,by rw[Nat.add_zero];exact cA⟩,by rw[Nat.add_zero];exact hq,hw⟩ ?_
    clear r0 r19 r18 hq hc hw
    rintro i H n ⟨hi,hn,⟨d0,r0⟩,⟨d19,r19⟩,⟨d18,r18⟩,hq,hw⟩
    by_cases hil:i<u.bz.length
    ·have hk:u.shared.length+u.cG.length+i<(cr u).length:=by simp only[cr,List.length_append,List.length_map];omega
     have hs:(cr u).getD (u.shared.length+u.cG.length+i) default=(u.bz.getD i default).name:=LY u hil
     obtain⟨ha,ht⟩:=l7 u hk hq hs
     have hsz:=(hu.bz _ (cS default hil)).name
     repeat' (first|refine aQ ?_|exact gH|with_reducible refine aD ?_ ?_|((with_reducible refine Ask.mk ?_);first|exact dy|exact dC|(intro h;simp_all[bx.cells,cF.cells]<;>fail)|(simp_all[bx.cells,cF.cells]<;>fail))|(apply aA;(·(first|exact OS|exact cU)))|refine aH ?_|((with_reducible refine aE ?_ ?_)<;>intro hc<;>try(exfalso;omega)))
     refine aI (rB _ hsz ((cr u).take (u.shared.length+u.cG.length+i)) 19 18 _ _ _ _ _ _ cA cA ca ca (by decide)) ?_
     rintro _ H2 n2 ⟨rfl,hn2,hput,hf⟩
     have hn12:n<=n2:=Nat.le_trans ca hn2
     have r02:bw H2 0=some (.row 25 3 d0 [u.av]):=(hf 0 (Nat.lt_of_lt_of_le (by omega:0<n) ca) (by decide)).trans cA
     have r192:bw H2 19=some (.row 178 1 d19 [.mp 18]):=(hf 19 (Nat.lt_of_lt_of_le (by omega:19<n) ca) (by decide)).trans cA
     cases hg:(lT (u.bz.getD i default).name&& !jX ((cr u).take (u.shared.length+u.cG.length+i)) (u.bz.getD i default).name) with
     |false=>
      rw[hg,if_neg (by decide)] at ha
      have hb:fW u=false:=by unfold fW;rw[ha];simp
      rw[hb]
      repeat' (first|refine aQ ?_|exact gH|with_reducible refine aD ?_ ?_|((with_reducible refine Ask.mk ?_);first|exact dy|exact dC|(intro h;simp_all[bx.cells,cF.cells]<;>fail)|(simp_all[bx.cells,cF.cells]<;>fail))|(apply aA;(·exact cU))|refine aH ?_|((with_reducible refine aE ?_ ?_)<;>intro hc<;>try(exfalso;omega)))
      exact rfl
     |true=>
      rw[hg,if_pos rfl] at ha
      have hnm:jX ((cr u).take (u.shared.length+u.cG.length+i)) (u.bz.getD i default).name=false:=by revert hg;cases jX ((cr u).take (u.shared.length+u.cG.length+i)) (u.bz.getD i default).name<;>simp
      have r182:=hput hnm
      rw[<-ht] at r182
      clear hf hput
      repeat' (first|refine aQ ?_|exact gH|with_reducible refine aD ?_ ?_|((with_reducible refine Ask.mk ?_);first|exact dy|exact dC|(intro h;simp_all[bx.cells,cF.cells]<;>fail)|(simp_all[bx.cells,cF.cells]<;>fail))|(apply aA;(·exact cU))|refine aH ?_|((with_reducible refine aE ?_ ?_)<;>intro hc<;>try(exfalso;omega)))
      exact⟨i+1,by omega,cI,by omega,by omega,⟨_,cA⟩,⟨_,cA⟩,⟨_,cA⟩,ha.symm,hw⟩
    ·have hie:i=u.bz.length:=by omega
     subst hie
     repeat' (first|refine aQ ?_|exact gH|with_reducible refine aD ?_ ?_|((with_reducible refine Ask.mk ?_);first|exact dy|exact dC|(intro h;simp_all[bx.cells]<;>fail)|(simp_all[bx.cells]<;>fail))|(apply aA;(·exact cU))|refine aH ?_|((with_reducible refine aE ?_ ?_)<;>intro hc<;>try(exfalso;omega)))
     refine ez (Eq.symm ?_)
     have e:u.shared.length+u.cG.length+u.bz.length=(cr u).length:=by simp only[cr,List.length_append,List.length_map];omega
     have hall:gT [] (cr u)=true:=by
      rw[<-hq,e,List.drop_eq_nil_of_le (Nat.le_refl _)]
      cases(cr u).take (cr u).length<;>rfl
     unfold fW
     rw[decide_eq_true hl.1,decide_eq_true hl.2.1,decide_eq_true hl.2.2,hall]
     simp only[Bool.true_and]
     rw[List.all_eq_true]
     intro d hd
     obtain⟨j,hj,rfl⟩:=List.getElem_of_mem hd
     have:=hw j hj
     rw[show u.cG.getD j default=u.cG[j] by simp[List.getD,hj]] at this
     exact decide_eq_true this
 ·have hb:fW u=false:=by
   unfold fW
   by_cases a1:u.shared.length<=64
   ·by_cases a2:u.cG.length<=16
    ·rw[decide_eq_false (fun a3=>hl ⟨a1,a2,a3⟩:¬u.bz.length<=8)];simp
    ·rw[decide_eq_false a2];simp
   ·rw[decide_eq_false a1];simp
  rw[hb]
  repeat' (first|refine aQ ?_|exact gH|with_reducible refine aD ?_ ?_|((with_reducible refine Ask.mk ?_);first|exact dy|exact dC|(intro h;simp_all[bx.cells]<;>fail)|(simp_all[bx.cells]<;>fail))|(apply aA;(·exact cU))|refine aH ?_|((with_reducible refine aE ?_ ?_)<;>intro hc<;>try(exfalso;omega)))
  exact rfl
end Go.Proofs.YtjopoheligmmoaaGreatDoor
namespace Go.cp
open Go.RowKit
theorem Wk.TT {H:Hp} {nx b:Nat} {e:TypeId} {sz:Nat} {d:AV} {es es2:List AV} (d2:AV) (hb:bw H b=some (.row e sz d es)) (hl:es.length=es2.length) (h:∀c c2:Cx,c.le c2->c2.w=c.w->dK c c2 es es2):Wk .any H nx .any ((b,some (.row e sz d2 es2))::H) nx:=by
 refine Wk.tell (Nat.le_refl _) (fun x e' sz' d' es' he=> ?_) (fun w0 c c2 hS hU hc hc2 hw hle hnew hM=>⟨dN.any _ _ _,fun x e' sz' d' es' d0 es0 h1 h2=> ?_⟩)
 ·by_cases hx:x=b
  ·subst hx
   rw[ct] at he
   cases he
   exact .inl ⟨d,es,hb,hl⟩
  ·rw[cZ hx] at he
   exact .inl ⟨d',es',he,rfl⟩
 ·by_cases hx:x=b
  ·subst hx
   rw[ct] at h1
   rw[hb] at h2
   cases h1;cases h2
   exact h c c2 hle hw
  ·rw[cZ hx] at h1
   rw[h1] at h2;cases h2
   exact dK.cT hle _
theorem dK.rep {c c2:Cx} {a b:AV} (h:dN c c2 a b):∀n,dK c c2 (List.replicate n a) (List.replicate n b)
 |0=> .nil
 |n+1=> .cons h (dK.rep h n)
end Go.cp
namespace Go.Proofs.YtjopoheligmmoaaGreatDoor
open Go Go.cp Go.Proofs
set_option linter.unusedSimpArgs false
set_option linter.unusedVariables false
theorem oU {l:List Int} {i:Nat} (h:i<l.length) (d:AV):(l.map i64).getD i d=i64 (l.getD i 0):=dJ i64 l i d h
theorem tI {es:List AV} (hsz:es.length * 8<=140737488355328):cO Tryz.prog 119 [.im 1 .any es] [] 0 (qu [] 0 3 1 es):=by
 refine qu.of (by omega) ?_
 refine aJ RK rfl ?_
 cases hes:es with
 |nil=>
  repeat' (first|refine aQ ?_|exact aC|with_reducible refine aD ?_ ?_|(apply aA;(·exact cU))|refine aH ?_|((with_reducible refine aE ?_ ?_)<;>intro hc<;>try(exfalso;omega)))
  ·exact⟨.inl ⟨rfl,rfl,ca,w4⟩⟩
  ·exact⟨.inr ⟨_,_,rfl,ca,ca,ca,cA,w4⟩⟩
 |cons x t=>
  rw[hes] at hsz
  simp only[List.length_cons] at hsz
  repeat' (first|refine aQ ?_|exact aC|with_reducible refine aD ?_ ?_|(apply aA;(·exact cU))|refine aH ?_|((with_reducible refine aE ?_ ?_)<;>intro hc<;>try(exfalso;omega)))
  ·exact⟨.inr ⟨3,_,(by simp),ca,ca,ca,cA,w4⟩⟩
theorem nF {es:List AV} (hsz:es.length * 8<=140737488355328):cO Tryz.prog 119 [.im 1 .any es] [] 0 (fun r1 H1 _=>∃b d0,r1= .sl b es.length/\bw H1 b=some (.row 3 1 d0 es)):=
 (tI hsz).mono fun r H n ⟨b,d,h1,_,_,_,h2,_⟩=>⟨b,d,h1,h2⟩
theorem xF (l m:List Int) (hl:l.length * 8<=140737488351232) (hm:m.length * 8<=140737488351232):Pure Tryz.prog 121 [fV l,fV m] (fun r=>r=bl (decide (l=m))):=by
 refine aG RM rfl ?_
 unfold fV
 repeat' (first|refine aQ ?_|exact aC|with_reducible refine aD ?_ ?_|(apply aA;(·exact cU))|refine aH ?_|((with_reducible refine aE ?_ ?_)<;>intro hc<;>try(exfalso;omega)))
 ·refine ez (Eq.symm ?_)
  exact decide_eq_false fun e=>hc (by rw[e])
 ·have hlm:l.length=m.length:=by omega
  refine aL (fun i:Nat=>[(0,fV l),(1,fV m),(12,i64 l.length),(13,i64 i)])
   (fun i H n=>i<=l.length/\∀j,j<i->l.getD j 0=m.getD j 0) (fun i=>l.length - i) 0 cI ⟨Nat.zero_le _,fun _ h=>by omega⟩ ?_
  unfold fV
  rintro i H n ⟨hi,hall⟩
  by_cases hil:i<l.length
  ·have e1:=oU (l:=l) hil
   have e2:=oU (l:=m) (i:=i) (by omega)
   repeat' (first|refine aQ ?_|exact aC|with_reducible refine aD ?_ ?_|(apply aA;(·(first|exact e1 _|exact e2 _|exact cU)))|refine aH ?_|((with_reducible refine aE ?_ ?_)<;>intro hc<;>try(exfalso;omega)))
   ·refine ez (Eq.symm ?_)
    exact decide_eq_false fun e=>hc (by rw[e])
   ·refine⟨i+1,by omega,cI,by omega,fun j hj=> ?_⟩
    by_cases hji:j=i
    ·subst hji;exact hc
    ·exact hall j (by omega)
  ·have:i=l.length:=by omega
   subst this
   repeat' (first|refine aQ ?_|exact aC|with_reducible refine aD ?_ ?_|(apply aA;(·exact cU))|refine aH ?_|((with_reducible refine aE ?_ ?_)<;>intro hc<;>try(exfalso;omega)))
   refine ez (Eq.symm ?_)
   refine decide_eq_true (List.ext_getElem hlm fun j h1 h2=> ?_)
   have:=hall j h1
   simpa[List.getD,h1,h2] using this
def Told (nv:AV) (l:List Int) (H:Hp) (nx:Nat):Prop:=nv=fV l\/∃b d,nv= .sl b l.length/\b<nx/\bw H b=some (.row 3 1 d (l.map i64))
theorem Told.dX {nv:AV} {l:List Int} {H:Hp} {nx:Nat} (h:Told nv l H nx) (k:Nat):cp.dX H (k+1) nv=fV l:=by
 rcases h with rfl|⟨b,d,rfl,_,hb⟩
 ·exact dj _ (by simp[cK,fV,cD])
 ·rw[dZ hb (by simp),cx _ ((cD _ _).2 fun _ _=>by simp[cK])];rfl
theorem qo {nv:AV} {l:List Int} {H:Hp} {nx:Nat} (h:Told nv l H nx) (m:List Int) (hl:l.length * 8<=140737488351232) (hm:m.length * 8<=140737488351232):cO Tryz.prog 121 [fV m,nv] H nx (fun r H' n=>r=bl (decide (m=l))/\H'=H/\n=nx):=by
 refine Pure.view (args2:=[fV m,fV l]) (xF m l hm hl) ?_ (by simp[c8,cK,fV,cD]) trivial ⟨rfl,rfl,rfl⟩
 rw[List.map_cons,List.map_cons,List.map_nil,h.dX,dj 6 (by simp[cK,fV,cD])]
theorem lJ {nv:AV} {l:List Int} {H:Hp} {nx:Nat} (h:Told nv l H nx) (hl:l.length * 8<=140737488351232):cO Tryz.prog 119 [nv] H nx (fun r H' n=>r=fV l/\nx<=n/\∀b,b<nx->bw H' b=bw H b):=by
 refine cO.wk (cO.OP (es:=l.map i64) (args2:=[fV l]) (nF (by rw[List.length_map];omega)) (fun i hi=>by rw[dJ i64 _ _ _ (by simpa using hi)];trivial) (by rw[List.map_cons,List.map_nil,h.dX]) (by simp[c8,cK,fV,cD])) ?_
 rintro r H' n ⟨rfl,rfl,rfl⟩
 have hw:=Wk.QZ (r:= .sl nx (l.map i64).length) (H:=(nx,some (.row 3 1 .any (l.map i64)))::H) (nx:=nx+1) [(nx,some (.row 3 1 .any (l.map i64)))] 1 (fun b q hq=>by
  by_cases hb:b=nx
  ·subst hb;rw[ct] at hq ⊢;exact hq
  ·rw[cZ hb] at hq;cases hq)
 refine⟨_,_,_,hw, ?_,by omega,fun b hb=> ?_⟩
 ·rw[IP (ct _ _ _) rfl,sI];rfl
 ·rw[nX,D6,cZ (by omega),cZ (by omega)]
section
abbrev yj:=List (List Bool)
def pH (T:yj) (i k:Nat):Bool:=(T.getD i []).getD k false
def FV (T:yj) (i k:Nat):yj:=T.set i ((T.getD i []).set k true)
structure Shape (T:yj) (m n:Nat):Prop where
 len:T.length=m
 row:∀i,i<m->(T.getD i []).length=n
theorem fA {α:Type} (l:List α) (i j:Nat) (v d:α):(l.set i v).getD j d=if i=j/\i<l.length then v else l.getD j d:=by
 simp only[List.getD,List.getElem?_set]
 by_cases h:i=j
 ·subst h
  by_cases h2:i<l.length
  ·simp[h2]
  ·simp[h2]
 ·simp[h]
theorem J2 {T:yj} {m n i k:Nat} (h:Shape T m n) (hi:i<m) (hk:k<n) (i' k':Nat):pH (FV T i k) i' k'=if i=i'/\k=k' then true else pH T i' k':=by
 unfold pH FV
 rw[fA]
 by_cases h1:i=i'
 ·subst h1
  rw[if_pos ⟨rfl,by rw[h.len];exact hi⟩,fA]
  by_cases h2:k=k'
  ·subst h2;rw[if_pos ⟨rfl,by rw[h.row i hi];exact hk⟩,if_pos ⟨rfl,rfl⟩]
  ·rw[if_neg (fun h=>h2 h.1),if_neg (fun h=>h2 h.2)]
 ·rw[if_neg (fun h=>h1 h.1),if_neg (fun h=>h1 h.1)]
theorem Shape.set {T:yj} {m n:Nat} (h:Shape T m n) (i k:Nat):Shape (FV T i k) m n:=by
 refine⟨by simp[FV,h.len],fun j hj=> ?_⟩
 unfold FV
 rw[fA]
 split
 ·rename_i e;rw[List.length_set,e.1];exact h.row j hj
 ·exact h.row j hj
inductive PZ (g:cF) (oF cT:Node->Nat->Bool) (k:Nat):Nat->Prop where
 |oF {i:Nat}:oF (g.nd i) k=true->PZ g oF cT k i
 |on {i:Nat} {j:Int}:cT (g.nd i) k=true->j∈(g.nd i).nt->PZ g oF cT k j.toNat->PZ g oF cT k i
def OB (T:yj) (n:Node) (k:Nat):Bool:=n.nt.any fun j=>pH T j.toNat k
theorem GL (f:Int->Bool) (n:Node):n.fold.any f=n.nt.any f:=DV (fun l=>l.any f) n (fun a=>by simp)
def wq (g:cF) (oF cT:Node->Nat->Bool) (T:yj) (i k:Nat):Bool:=oF (g.nd i) k||(cT (g.nd i) k&&OB T (g.nd i) k)
structure Grow (g:cF) (oF cT:Node->Nat->Bool) (n:Nat) (T:yj):Prop where
 shape:Shape T g.nodes.length n
 sound:∀i k,pH T i k=true->PZ g oF cT k i
def vA (m n:Nat):yj:=List.replicate m (List.replicate n false)
theorem BK (m n i k:Nat):pH (vA m n) i k=false:=by
 unfold pH vA
 simp only[List.getD,List.getElem?_replicate]
 by_cases h:i<m
 ·simp only[h,if_true,Option.getD_some,List.getElem?_replicate];split<;>rfl
 ·simp[h]
theorem yQ (m n:Nat):Shape (vA m n) m n:=⟨by simp[vA],fun i hi=>by simp[vA,List.getD,List.getElem?_replicate,hi]⟩
theorem Grow.start (g:cF) (oF cT:Node->Nat->Bool) (n:Nat):Grow g oF cT n (vA g.nodes.length n):=
 ⟨yQ _ _,fun i k h=>by rw[BK] at h;cases h⟩
theorem wg {T:yj} {n:Node} {k:Nat}:OB T n k=true↔∃j∈n.nt,pH T j.toNat k=true:=by
 unfold OB;rw[List.any_eq_true]
theorem Grow.step {g:cF} {oF cT:Node->Nat->Bool} {n:Nat} {T:yj} (h:Grow g oF cT n T) {i k:Nat} (hi:i<g.nodes.length) (hk:k<n) (hc:wq g oF cT T i k=true):Grow g oF cT n (FV T i k):=by
 refine⟨h.shape.set i k,fun i' k' ht=> ?_⟩
 rw[J2 h.shape hi hk] at ht
 split at ht
 ·rename_i e
  obtain⟨rfl,rfl⟩:=e
  unfold wq at hc
  rw[Bool.or_eq_true,Bool.and_eq_true] at hc
  rcases hc with h1|⟨h1,h2⟩
  ·exact .oF h1
  ·obtain⟨j,hj,h3⟩:=wg.1 h2
   exact .on h1 hj (h.sound _ _ h3)
 ·exact h.sound _ _ ht
open Classical in
noncomputable def C7 (g:cF) (oF cT:Node->Nat->Bool) (n:Nat):yj:=(List.range g.nodes.length).map fun i=>(List.range n).map fun k=>decide (PZ g oF cT k i)
theorem A0 (g:cF) (oF cT:Node->Nat->Bool) (n:Nat):Shape (C7 g oF cT n) g.nodes.length n:=⟨by simp[C7],fun i hi=>by simp[C7,List.getD,hi]⟩
theorem FU (g:cF) (oF cT:Node->Nat->Bool) (n:Nat) {i k:Nat} (hi:i<g.nodes.length) (hk:k<n):pH (C7 g oF cT n) i k=true↔PZ g oF cT k i:=by
 simp[pH,C7,List.getD,hi,hk]
theorem MX {T S:yj} {m n:Nat} (hT:Shape T m n) (hS:Shape S m n) (h:∀i k,i<m->k<n->pH T i k=pH S i k):T=S:=by
 apply List.ext_getElem (hT.len.trans hS.len.symm)
 intro i h1 h2
 have hi:i<m:=by rw[<-hT.len];exact h1
 have e1:T.getD i []=T[i]:=by simp[List.getD,h1]
 have e2:S.getD i []=S[i]:=by simp[List.getD,h2]
 rw[<-e1,<-e2]
 apply List.ext_getElem ((hT.row i hi).trans (hS.row i hi).symm)
 intro k h3 h4
 have:=h i k hi (by rw[<-hT.row i hi];exact h3)
 unfold pH at this
 have g:∀(l:List Bool) (h:k<l.length),l[k]=l.getD k false:=fun l h=>by simp[List.getD,h]
 rw[g _ h3,g _ h4]
 exact this
theorem Grow.fin {g:cF} {oF cT:Node->Nat->Bool} {n:Nat} {T:yj} (hw:Whole g) (h:Grow g oF cT n T) (hc:∀i k,i<g.nodes.length->k<n->wq g oF cT T i k=true->pH T i k=true):T=C7 g oF cT n:=by
 refine MX h.shape (A0 _ _ _ _) fun i k hi hk=> ?_
 rw[Bool.eq_iff_iff,FU g oF cT n hi hk]
 refine⟨h.sound i k,fun ha=> ?_⟩
 induction ha with
 |oF hb=>exact hc _ _ hi hk (by unfold wq;rw[hb];rfl)
 |@on i j hkp hj _ ih=>
  have hj2:=(hw.2.2 i hi).2.2 j hj
  have:=ih hj2.2
  refine hc _ _ hi hk ?_
  unfold wq
  rw[hkp,wg.2 ⟨j,hj,this⟩]
  simp
structure vB where
 kind:Int
 dc:Int
 lock:Int
 deriving Inhabited,DecidableEq
def vB.cells (c:vB):List AV:=[u8 c.kind,i64 c.dc,i64 c.lock]
abbrev vB.av (c:vB):AV:= .agg c.cells
end
structure WA (now:List Int) (l:List Int) (s s':HS):Prop where
 oX:s'.cG.length=s.cG.length
 qb:s'.found.length=s.found.length
 gD:∀k:Int,s.f k=true->s'.f k=true/\s'.l k=s.l k
 new:∀k:Int,0<=k->s'.f k=true->s.f k=true\/k∈l
 all:∀k∈l,s'.f k=true/\s'.l k=now
 bare:∀k:Int,0<=k->s'.f k=false->s'.l k=s.l k
 more:∃t,s'.todo=s.todo++t/\(∀k∈t,k∈l/\s'.f k=true)/\(∀k:Int,0<=k->s'.f k=true->s.f k=true\/k∈t)/\s'.found.count false+t.length=s.found.count false
theorem HS.uK {s:HS} {i:Nat} {L:List (List Int)} {td:List Int} (h:i<s.found.length) (k:Int):HS.f ⟨L,s.found.set i true,td⟩ k=if k.toNat=i then true else s.f k:=ky h k
theorem HS.NO {s:HS} {i:Nat} {now:List Int} {F:List Bool} {td:List Int} (h:i<s.cG.length) (k:Int):HS.l ⟨s.cG.set i now,F,td⟩ k=if k.toNat=i then now else s.l k:=by
 unfold HS.l
 simp only
 rw[fA]
 by_cases e:i=k.toNat
 ·rw[if_pos ⟨e,h⟩,if_pos e.symm]
 ·rw[if_neg (fun x=>e x.1),if_neg (fun x=>e x.symm)]
theorem na (now:List Int):∀(l:List Int) (s s':HS),s.cG.length=s.found.length->(∀k∈l,0<=k/\k.toNat<s.found.length)->db now l s= .inl s'->WA now l s s'
 |[],s,s',_,_,h=>by
  rw[db] at h;cases h
  exact⟨rfl,rfl,fun _ h=>⟨h,rfl⟩,fun _ _ h=> .inl h,fun _ h=>by simp at h,fun _ _ _=>rfl,[],by simp,fun _ h=>by simp at h,fun _ _ h=> .inl h,by simp⟩
 |k::r,s,s',hl,hr,h=>by
  obtain⟨hk0,hk⟩:=hr k (by simp)
  have hr2:=fun x hx=>hr x (List.mem_cons_of_mem _ hx)
  rw[db] at h
  by_cases hf:s.f k=false
  ·rw[if_pos hf] at h
   have ih:=na now r _ s' (by simp[hl]) (fun x hx=>by simpa using hr2 x hx) h
   have fs:=fun x=>HS.uK (s:=s) (i:=k.toNat) (L:=s.cG.set k.toNat now) (td:=s.todo++[k]) hk x
   have ls:=fun x=>HS.NO (s:=s) (i:=k.toNat) (now:=now) (F:=s.found.set k.toNat true) (td:=s.todo++[k]) (by rw[hl];exact hk) x
   obtain⟨t,t1,t2,t3,t4⟩:=ih.more
   have hkk:=ih.gD k (by rw[fs,if_pos rfl])
   refine⟨ih.oX.trans (by simp),ih.qb.trans (by simp),fun x hx=> ?_,fun x hx0 hx=> ?_,fun x hx=> ?_,fun x hx0 hx=> ?_,k::t,by rw[t1];simp,fun x hx=> ?_,fun x hx0 hx=> ?_, ?_⟩
   ·have hne:x.toNat≠k.toNat:=fun e=>by unfold HS.f at hx hf;rw[e] at hx;rw[hx] at hf;cases hf
    have:=ih.gD x (by rw[fs,if_neg hne];exact hx)
    rw[ls,if_neg hne] at this
    exact this
   ·rcases ih.new x hx0 hx with h2|h2
    ·rw[fs] at h2
     split at h2
     ·rename_i e;exact .inr (by rw[show x=k by omega];simp)
     ·exact .inl h2
    ·exact .inr (List.mem_cons_of_mem _ h2)
   ·rcases List.mem_cons.1 hx with rfl|hx
    ·rw[ls,if_pos rfl] at hkk;exact hkk
    ·exact ih.all x hx
   ·have hne:x.toNat≠k.toNat:=fun e=>by
     have:=hkk.1
     rw[show k=x by omega,hx] at this;cases this
    have:=ih.bare x hx0 hx
    rw[ls,if_neg hne] at this
    exact this
   ·rcases List.mem_cons.1 hx with rfl|hx
    ·exact⟨by simp,hkk.1⟩
    ·exact⟨List.mem_cons_of_mem _ (t2 x hx).1,(t2 x hx).2⟩
   ·rcases t3 x hx0 hx with h2|h2
    ·rw[fs] at h2
     split at h2
     ·rename_i e;exact .inr (by rw[show x=k by omega];simp)
     ·exact .inl h2
    ·exact .inr (List.mem_cons_of_mem _ h2)
   ·have:=count_set hk hf
    rw[List.length_cons]
    dsimp only at t4
    omega
  ·rw[if_neg hf] at h
   have hkt:s.f k=true:=by simpa using hf
   by_cases hn:s.l k=now
   ·rw[if_pos hn] at h
    have ih:=na now r s s' hl hr2 h
    obtain⟨t,t1,t2,t3,t4⟩:=ih.more
    refine⟨ih.oX,ih.qb,ih.gD,fun x hx0 hx=>(ih.new x hx0 hx).imp id (List.mem_cons_of_mem _),fun x hx=> ?_,ih.bare,t,t1,fun x hx=>⟨List.mem_cons_of_mem _ (t2 x hx).1,(t2 x hx).2⟩,t3,t4⟩
    rcases List.mem_cons.1 hx with rfl|hx
    ·have:=ih.gD _ hkt;rw[hn] at this;exact this
    ·exact ih.all x hx
   ·rw[if_neg hn] at h;cases h
structure HI (g:cF) (s:HS) (k:Nat):Prop where
 oX:s.cG.length=g.nodes.length
 qb:s.found.length=g.nodes.length
 zero:s.f 0=true
 first:s.l 0=[]
 oH:∀i:Int,0<=i->s.f i=true->lZ g (-1) i
 bare:∀i:Int,0<=i->s.f i=false->s.l i=[]
 inr:∀i∈s.todo,0<=i/\i.toNat<g.nodes.length/\s.f i=true
 all:∀i:Int,0<=i->s.f i=true->i∈s.todo
 done:∀j,j<k->j<s.todo.length->∃now,dh (g.nd (s.todo.getD j 0).toNat) (s.l (s.todo.getD j 0))=some now/\∀to∈(g.nd (s.todo.getD j 0).toNat).nt,s.f to=true/\s.l to=now
 count:s.todo.length+s.found.count false=g.nodes.length
theorem HI.start {g:cF} (h:Whole g):HI g (vi g) 0:=by
 have hl:=h.1
 have hf:∀k,HS.f (vi g) k=decide (k.toNat=0):=fun k=>by
  have:=ky (l:=List.replicate g.nodes.length false) (i:=0) (by simp;omega) k
  unfold HS.f vi
  simp only
  unfold mY at this
  rw[this]
  by_cases e:k.toNat=0
  ·simp[e]
  ·rw[if_neg e,decide_eq_false e]
   simp only[List.getD,List.getElem?_replicate];split<;>rfl
 have hk:∀k,HS.l (vi g) k=[]:=fun k=>by
  unfold HS.l vi;simp only[List.getD,List.getElem?_replicate];split<;>rfl
 refine⟨by simp[vi],by simp[vi],by rw[hf];simp,hk 0,fun i h0 hi=> ?_,fun i _ _=>hk i,fun i hi=> ?_,fun i h0 hi=> ?_,fun j hj=>by omega, ?_⟩
 ·rw[hf] at hi
  rw[show i=0 by have:=of_decide_eq_true hi;omega];exact .zero
 ·simp only[vi,List.mem_cons,List.not_mem_nil,or_false] at hi
  subst hi
  exact⟨by omega,by simp;omega,by rw[hf];simp⟩
 ·rw[hf] at hi
  rw[show i=0 by have:=of_decide_eq_true hi;omega];simp[vi]
 ·have:=count_set (l:=List.replicate g.nodes.length false) (i:=0) (by simp;omega) (by simp[List.getD,List.getElem?_replicate];split<;>rfl)
  simp only[List.count_replicate_self] at this
  simp only[vi,List.length_cons,List.length_nil]
  omega
theorem HI.next {g:cF} (hw:Whole g) {s s':HS} {k:Nat} (h:HI g s k) (hk:k<s.todo.length) {now:List Int} (hn:dh (g.nd (s.todo.getD k 0).toNat) (s.l (s.todo.getD k 0))=some now) (ht:db now (g.nd (s.todo.getD k 0).toNat).nt s= .inl s'):HI g s' (k+1):=by
 have hm:=cS (0:Int) hk
 obtain⟨i1,i2,i3⟩:=h.inr _ hm
 have hfol:=(hw.2.2 _ i2).2.2
 have sp:=na now _ s s' (by rw[h.oX,h.qb]) (fun x hx=>by rw[h.qb];exact hfol x hx) ht
 obtain⟨t,t1,t2,t3,t4⟩:=sp.more
 have hget:∀j,j<s.todo.length->s'.todo.getD j 0=s.todo.getD j 0:=fun j hj=>by
  rw[t1];simp[List.getD,List.getElem?_append,hj]
 refine⟨sp.oX.trans h.oX,sp.qb.trans h.qb,(sp.gD 0 h.zero).1,(sp.gD 0 h.zero).2.trans h.first,fun i h0 hi=> ?_,fun i h0 hi=> ?_,fun i hi=> ?_,fun i h0 hi=> ?_,fun j hj hjl=> ?_, ?_⟩
 ·rcases sp.new i h0 hi with h1|h1
  ·exact h.oH i h0 h1
  ·exact .step (h.oH _ i1 i3) (by omega) h1
 ·rw[sp.bare i h0 hi]
  refine h.bare i h0 ?_
  cases hq:s.f i with
  |false=>rfl
  |true=>rw[(sp.gD i hq).1] at hi;cases hi
 ·rw[t1] at hi
  rcases List.mem_append.1 hi with hi|hi
  ·obtain⟨a,b,c⟩:=h.inr i hi
   exact⟨a,b,(sp.gD i c).1⟩
  ·have:=hfol i (t2 i hi).1
   exact⟨this.1,this.2,(t2 i hi).2⟩
 ·rw[t1]
  rcases t3 i h0 hi with h1|h1
  ·exact List.mem_append_left _ (h.all i h0 h1)
  ·exact List.mem_append_right _ h1
 ·by_cases hjk:j=k
  ·subst hjk
   rw[hget _ hk]
   refine⟨now, ?_,sp.all⟩
   rw[(sp.gD _ i3).2]
   exact hn
  ·have hj2:j<s.todo.length:=by omega
   rw[hget _ hj2]
   obtain⟨now2,d1,d2⟩:=h.done j (by omega) hj2
   have hjm:=h.inr _ (cS (0:Int) hj2)
   refine⟨now2,by rw[(sp.gD _ hjm.2.2).2];exact d1,fun to hto=> ?_⟩
   obtain⟨e1,e2⟩:=d2 to hto
   rw[(sp.gD _ e1).2]
   exact⟨(sp.gD _ e1).1,e2⟩
 ·have:=h.count
  rw[t1,List.length_append]
  omega
structure KI (g:cF) (lk:Nat->List Int):Prop where
 zero:lk 0=[]
 on:∀i:Int,lZ g (-1) i->∃now,dh (g.nd i.toNat) (lk i.toNat)=some now/\∀k∈(g.nd i.toNat).nt,lk k.toNat=now
theorem HI.fin {g:cF} {s:HS} {k:Nat} (hw:Whole g) (h:HI g s k) (hk:s.todo.length<=k):KI g (fun i=>s.cG.getD i [])/\∀i,i<g.nodes.length->(s.found.getD i false=true↔lZ g (-1) i):=by
 have hall:∀i:Int,lZ g (-1) i->0<=i/\s.f i=true:=fun i hi=>by
  induction hi with
  |zero=>exact⟨by omega,h.zero⟩
  |@step i j hi _ hj ih=>
   obtain⟨i0,hif⟩:=ih
   have hm:=h.all i i0 hif
   obtain⟨q,hq,e⟩:=List.getElem_of_mem hm
   have e2:s.todo.getD q 0=i:=by simp[List.getD,hq,e]
   obtain⟨now,_,d⟩:=h.done q (by omega) hq
   rw[e2] at d
   have h2:=(hw.2.2 i.toNat (h.inr i hm).2.1).2.2 j hj
   exact⟨h2.1,(d j hj).1⟩
 refine⟨⟨h.first,fun i hi=> ?_⟩,fun i hi=>⟨fun hf=>h.oH i (by omega) hf,fun hc=>(hall i hc).2⟩⟩
 obtain⟨i0,hif⟩:=hall i hi
 have hm:=h.all i i0 hif
 obtain⟨q,hq,e⟩:=List.getElem_of_mem hm
 have e2:s.todo.getD q 0=i:=by simp[List.getD,hq,e]
 obtain⟨now,d1,d⟩:=h.done q (by omega) hq
 rw[e2] at d1 d
 exact⟨now,d1,fun k hk=>(d k hk).2⟩
theorem sG {g:cF} (hw:Whole g):∀(f:Nat) (s:HS) (k:Nat),HI g s k->k+f=g.nodes.length+1->(fb g f s k).2<0->(fb g f s k).2=-1/\∃s' k',HI g s' k'/\s'.todo.length<=k'/\(fb g f s k).1=s'.cG
 |0,s,k,h,he,_=>by
  have:=h.count
  exact⟨rfl,s,k,h,by omega,rfl⟩
 |f+1,s,k,h,he,hneg=>by
  rw[fb] at hneg ⊢
  by_cases hk:k<s.todo.length
  ·rw[if_pos hk] at hneg ⊢
   have hm:=(h.inr _ (cS (0:Int) hk))
   cases hn:dh (g.nd (s.todo.getD k 0).toNat) (s.l (s.todo.getD k 0)) with
   |none=>rw[hn] at hneg;simp only at hneg;omega
   |some now=>
    rw[hn] at hneg
    simp only at hneg ⊢
    cases ht:db now (g.nd (s.todo.getD k 0).toNat).nt s with
    |inl s'=>
     rw[ht] at hneg
     exact sG hw f s' (k+1) (h.next hw hk hn ht) (by omega) hneg
    |inr a=>
     rw[ht] at hneg
     simp only at hneg
     exfalso
     have hfol:=(hw.2.2 _ hm.2.1).2.2
     have:∀(l:List Int) (s:HS),(∀x∈l,0<=x)->db now l s= .inr a->0<=a:=by
      intro l
      induction l with
      |nil=>intro s _ h;rw[db] at h;cases h
      |cons x r ih=>
       intro s hx h
       rw[db] at h
       split at h
       ·exact ih _ (fun y hy=>hx y (List.mem_cons_of_mem _ hy)) h
       ·split at h
        ·exact ih _ (fun y hy=>hx y (List.mem_cons_of_mem _ hy)) h
        ·cases h;exact hx _ (by simp)
     have:=this _ _ (fun x hx=>(hfol x hx).1) ht
     omega
  ·rw[if_neg hk]
   exact⟨rfl,s,k,h,by omega,rfl⟩
theorem kP {g:cF} (hw:Whole g) (h:(eO g).2<0):(eO g).2=-1/\(eO g).1.length=g.nodes.length/\KI g (fun i=>(eO g).1.getD i [])/\∀i,i<g.nodes.length->¬lZ g (-1) i->(eO g).1.getD i []=[]:=by
 obtain⟨h1,s,k,hi,hk,e⟩:=sG hw _ _ _ (HI.start hw) (by omega) h
 refine⟨h1, ?_, ?_,fun i hl hc=> ?_⟩
 ·unfold eO;rw[e];exact hi.oX
 ·unfold eO;rw[e];exact(hi.fin hw hk).1
 ·unfold eO;rw[e]
  have hf:=mt ((hi.fin hw hk).2 i hl).1 hc
  have:=hi.bare i (by omega) (by simpa[HS.f] using hf)
  exact this
theorem jQ {n:Node} {k:Int}:k∈n.fold↔k∈n.nt:=by
 have:=GL (fun j=>decide (j=k)) n
 rw[Bool.eq_iff_iff,List.any_eq_true,List.any_eq_true] at this
 constructor
 ·intro h;obtain⟨x,h1,h2⟩:=this.1 ⟨k,h,by simp⟩;rw[<-of_decide_eq_true h2];exact h1
 ·intro h;obtain⟨x,h1,h2⟩:=this.2 ⟨k,h,by simp⟩;rw[<-of_decide_eq_true h2];exact h1
theorem rv (n:Node):n.fold.length<=2:=by unfold Node.fold;split<;>(try split)<;>simp
theorem gd {α:Type} {l:List α} {q:Nat} (h:q<l.length) (d:α):l.getD q d=l[q]:=by simp[List.getD,h]
theorem HQ (n:Nat) (l:List Int):c8 n (l.map i64):=(cD _ _).2 fun _ _=>by simp[cK]
theorem DR (n:Nat) (l:List Bool):c8 n (l.map bl):=(cD _ _).2 fun _ _=>by simp[cK]
theorem j9 {l:List Node} {i:Nat} (h:i<l.length) (d:AV):(l.map Node.av).getD ((i:Int).toNat) d=(l.getD i default).av:=by
 rw[Int.toNat_natCast];exact dJ Node.av l i d h
theorem sF {l:List cF} {i:Nat} (h:i<l.length) (d:AV):(l.map cF.av).getD ((i:Int).toNat) d=(l.getD i default).av:=by
 rw[Int.toNat_natCast];exact dJ cF.av l i d h
theorem lA {l:List Int} {i:Nat} (h:i<l.length) (d:AV):(l.map i64).getD ((i:Int).toNat) d=i64 (l.getD i 0):=by
 rw[Int.toNat_natCast];exact dJ i64 l i d h
theorem tA (g:cF) (hg:g.Wf):Pure Tryz.prog 198 [g.av] (fun r=>r=bl (lK g)):=by
 have hl:=hg.len
 refine aG SB rfl ?_
 repeat' (first|refine aQ ?_|exact gH|with_reducible refine aD ?_ ?_|((with_reducible refine Ask.mk ?_);first|exact dy|exact dC|(intro h;simp_all[cF.cells]<;>fail)|(simp_all[cF.cells]<;>fail))|(apply aA;(·exact cU))|refine aH ?_|((with_reducible refine aE ?_ ?_)<;>intro hc<;>try(exfalso;omega)))
 ·refine ez (Eq.symm ?_)
  unfold lK
  by_cases h1:1<=g.nodes.length
  ·rw[decide_eq_false (show ¬g.nodes.length<=4096 by omega)];simp
  ·rw[decide_eq_false h1];simp
 ·simp only[List.length_map]
  refine aL (fun i:Nat=>[(1, .pt 0 1 0 0),(18,iZ g.nodes),(19,i64 g.nodes.length),(20,i64 i)])
   (fun i H n=>i<=g.nodes.length/\16<=n/\(∃d,bw H 0=some (.row 60 4 d [g.av]))/\∀j,j<i->sn g.nodes.length (g.nd j)=true) (fun i=>g.nodes.length - i) 0 cI ⟨Nat.zero_le _,ca,⟨_,cA⟩,fun _ h=>by omega⟩ ?_
  rintro i H n ⟨hi,hn,⟨d0,r0⟩,hall⟩
  by_cases hil:i<g.nodes.length
  ·have hbad:sn g.nodes.length (g.nd i)=false->lK g=false:=fun h=>by
    unfold lK
    rw[Bool.and_eq_false_iff]
    right
    rw[Bool.eq_false_iff,ne_eq,List.all_eq_true]
    intro hA
    have:=hA _ (cS default hil)
    rw[show g.nodes.getD i default=g.nd i from rfl,h] at this;cases this
   have hf:=kz (g.nd i)
   have h2:=rv (g.nd i)
   unfold fV at hf
   repeat' (first|refine aQ ?_|exact gH|with_reducible refine aD ?_ ?_|((with_reducible refine Ask.mk ?_);first|exact dy|exact dC|(intro h;simp_all[cF.cells,Node.cells]<;>fail)|(simp_all[cF.cells,Node.cells]<;>fail))|(apply aA;(·(first|exact j9 hil _|exact cU)))|refine aK (hf) ?_|refine aH ?_|((with_reducible refine aE ?_ ?_)<;>intro hc<;>try(exfalso;omega)))
   ·refine ez (Eq.symm (hbad ?_))
    unfold sn
    have hc:(g.nd i).kind=0\/10<=(g.nd i).kind:=hc
    by_cases h1:(g.nd i).kind<10
    ·rw[decide_eq_false (show ¬1<=(g.nd i).kind by omega)];simp
    ·rw[decide_eq_false h1];simp
   ·have hk0:0<=(g.nd i).kind:=(hg.nodes _ (cS default hil)).kind.1
    have hkk:¬(g.nd i).kind=0/\(g.nd i).kind<10:=hc
    clear hf
    simp only[List.length_map]
    refine aL (fun j:Nat=>[(1, .pt 0 1 0 0),(4, .pt (n+3) 1 0 0),(18,iZ g.nodes),(19,i64 g.nodes.length),(20,i64 i),(33,fV (g.nd i).fold),(34,i64 (g.nd i).fold.length),(35,i64 j)])
     (fun j H2 n2=>j<=(g.nd i).fold.length/\n+4<=n2/\(∃d,bw H2 0=some (.row 60 4 d [g.av]))/\∀q,q<j->0<=(g.nd i).fold.getD q 0/\(g.nd i).fold.getD q 0<g.nodes.length) (fun j=>(g.nd i).fold.length - j) 0 cI ⟨Nat.zero_le _,ca,⟨_,cA⟩,fun _ h=>by omega⟩ ?_
    clear r0
    rintro j H2 n2 ⟨hj,hn2,⟨d02,r02⟩,hq⟩
    unfold fV
    by_cases hjl:j<(g.nd i).fold.length
    ·repeat' (first|refine aQ ?_|exact gH|with_reducible refine aD ?_ ?_|((with_reducible refine Ask.mk ?_);first|exact dy|exact dC|(intro h;simp_all[cF.cells]<;>fail)|(simp_all[cF.cells]<;>fail))|(apply aA;(·(first|exact lA hjl _|exact cU)))|refine aH ?_|((with_reducible refine aE ?_ ?_)<;>intro hc<;>try(exfalso;omega)))
     ·refine ez (Eq.symm (hbad ?_))
      unfold sn
      rw[Bool.and_eq_false_iff]
      right
      rw[Bool.eq_false_iff,ne_eq,List.all_eq_true]
      intro hA
      have:=hA _ (jQ.1 (cS 0 hjl))
      simp only[Bool.and_eq_true,decide_eq_true_eq] at this
      omega
     ·refine⟨j+1,by omega,cI,by omega,by omega,⟨_,cA⟩,fun q hq2=> ?_⟩
      by_cases e:q=j
      ·rw[e];omega
      ·exact hq q (by omega)
    ·have:j=(g.nd i).fold.length:=by omega
     subst this
     repeat' (first|refine aQ ?_|exact aC|with_reducible refine aD ?_ ?_|(apply aA;(·exact cU))|refine aH ?_|((with_reducible refine aE ?_ ?_)<;>intro hc<;>try(exfalso;omega)))
     refine⟨i+1,by omega,cI,by omega,by omega,⟨_,cA⟩,fun j hj=> ?_⟩
     by_cases e:j=i
     ·rw[e]
      unfold sn
      rw[decide_eq_true (show 1<=(g.nd i).kind by omega),decide_eq_true hkk.2]
      simp only[Bool.true_and]
      rw[List.all_eq_true]
      intro k hk
      obtain⟨q,hq1,e⟩:=List.getElem_of_mem (jQ.2 hk)
      have:=hq q hq1
      rw[gd hq1,e] at this
      simp[this.1,this.2]
     ·exact hall j (by omega)
  ·have:i=g.nodes.length:=by omega
   subst this
   repeat' (first|refine aQ ?_|exact aC|with_reducible refine aD ?_ ?_|(apply aA;(·exact cU))|refine aH ?_|((with_reducible refine aE ?_ ?_)<;>intro hc<;>try(exfalso;omega)))
   refine ez (Eq.symm ?_)
   unfold lK
   rw[decide_eq_true (show 1<=g.nodes.length by omega),decide_eq_true (show g.nodes.length<=4096 by omega)]
   simp only[Bool.true_and]
   rw[List.all_eq_true]
   intro m hm
   obtain⟨q,hq1,rfl⟩:=List.getElem_of_mem hm
   have:=hall q hq1
   rw[show g.nd q=g.nodes[q] by simp[List.getD,hq1]] at this
   exact this
theorem wD (g:cF) (hg:g.Wf) (hw:lK g=true) (hs:Pure Tryz.prog 199 [g.av,i64 (-1)] (fun r=>r=CG (fY g (-1)))):Pure Tryz.prog 166 [g.av] (fun r=>r=CG (fY g (-1))):=by
 refine aG R3 rfl ?_
 have h1:=tA g hg
 rw[hw] at h1
 repeat' (first|refine aQ ?_|exact gH|with_reducible refine aD ?_ ?_|((with_reducible refine Ask.mk ?_);first|exact dy|exact dC|(intro h;simp_all[cF.cells]<;>fail)|(simp_all[cF.cells]<;>fail))|(apply aA;(·exact cU))|refine aK (h1) ?_|refine aK (hs) ?_|refine aH ?_|((with_reducible refine aE ?_ ?_)<;>intro hc<;>try(exfalso;omega)))
 exact KK.eq (by simp[cK,CG,cD]) rfl
end Go.Proofs.YtjopoheligmmoaaGreatDoor
