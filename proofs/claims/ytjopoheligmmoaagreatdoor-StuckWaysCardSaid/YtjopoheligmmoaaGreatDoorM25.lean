import Derived.Test.YtjopoheligmmoaaGreatDoorM23
import Derived.Test.YtjopoheligmmoaaGreatDoorM24
namespace Go.Proofs.YtjopoheligmmoaaGreatDoor
open Go Go.cw Go.Proofs
set_option linter.unusedSimpArgs false
set_option linter.unusedVariables false
theorem gA (op:Int) (h0:0<=op):Pure Tryz.prog 159 [u8 op] (fun r=>r=bl (dv op)):=by
 refine aD XQ rfl ?_
 repeat' (first|refine aQ ?_|exact aC|with_reducible refine aB ?_ ?_|(apply aA;(·exact cL))|((with_reducible refine aN (gl _) ?_ ?_);(·exact cJ))|((with_reducible refine aI (fun _=>gl _) ?_ ?_);(·exact cJ))|((with_reducible refine aL (gl _) ?_ ?_);(·exact cJ))|((with_reducible refine aM (fun _=>gl _) ?_ ?_);(·exact cJ))|refine aH ?_|((with_reducible refine aE ?_ ?_)<;>intro hc<;>try(exfalso;omega)))
 refine eD ?_
 unfold dv
 by_cases h1:0<op<;>by_cases h2:op<19<;>by_cases h3:op=17<;>by_cases h4:op=18<;>simp[h1,h2,h3,h4]<;>omega
def mask (k op:Int):Int:=if k=1 then(if dv op=true then 59 else 43) else if k=2 then 38 else if k=3 then 44 else if k=4 then 46 else if k=5 then 36 else if k=6 then 36 else if k=7 then 40 else if k=8 then 104 else 0
set_option maxRecDepth 100000 in
theorem D5 (n:Node) (hn:n.Wf) (h:1<=n.kind/\n.kind<10):Pure Tryz.prog 116 [n.av] (fun r=>r=u8 (mask n.kind n.op)):=by
 obtain⟨h0,h1⟩:=h
 have ho:=hn.op.1
 obtain⟨kind,op,slot,cI,a,b,next,rN,origin⟩:=n
 simp only at h0 h1 ho
 have hk:kind=1\/kind=2\/kind=3\/kind=4\/kind=5\/kind=6\/kind=7\/kind=8\/kind=9:=by omega
 rcases hk with rfl|rfl|rfl|rfl|rfl|rfl|rfl|rfl|rfl
 ·refine aD SJ rfl ?_
  repeat' (first|refine aQ ?_|exact aC|with_reducible refine aB ?_ ?_|(apply aA;(·exact cL))|((with_reducible refine aN (gA _ ho) ?_ ?_);(·exact cJ))|((with_reducible refine aI (fun _=>gA _ ho) ?_ ?_);(·exact cJ))|((with_reducible refine aL (gA _ ho) ?_ ?_);(·exact cJ))|((with_reducible refine aM (fun _=>gA _ ho) ?_ ?_);(·exact cJ))|refine aH ?_|((with_reducible refine aE ?_ ?_)<;>intro hc<;>try(exfalso;omega)))
  all_goals
   cases ht:dv op with
   |true=>
    rw[ht] at hc
    first|(exact absurd rfl hc)|(exact absurd hc (by decide))|(simp only[show mask 1 op=59 by simp[mask,ht]];try kernel_rfl)
   |false=>
    rw[ht] at hc
    first|(exact absurd rfl hc)|(exact absurd hc (by decide))|(simp only[show mask 1 op=43 by simp[mask,ht]];try kernel_rfl)
 iterate 8
  refine cp ?_ (by simp[cH])
  refine aJ SJ rfl ?_
  refine cP ?_
  exact⟨rfl⟩
theorem jz.default_eq:(default:jz)=⟨false,0,0⟩:=rfl
def ja (m u:Int):Int:=IntKind.u8.wrap (BitVec.ofInt IntKind.u8.bits m&&& BitVec.ofInt IntKind.u8.bits u).toNat
theorem se (k u most m:Int) (b:Nat) (H:Hp) (nx:Nat) (e:TypeId) (d:AV) (hb:bt H b=some (.row e 1 d [u8 m])):xT Tryz.prog 117 [i64 k,u8 u,i64 most, .pt b 1 0 0] H nx (bl (p6 k (decide (ja m u≠0)) most)):=by
 refine aY W1 rfl ?_
 repeat' (first|refine aQ ?_|exact aC|with_reducible refine aB ?_ ?_|(apply aA;(·exact cL))|refine aH ?_|((with_reducible refine aE ?_ ?_)<;>intro hc<;>try(exfalso;omega)))
 refine KX.look ?_ yp
 simp only[show IntKind.u8.wrap (BitVec.ofInt IntKind.u8.bits m&&& BitVec.ofInt IntKind.u8.bits u).toNat=ja m u from rfl,p6]
 by_cases h1:ja m u=0<;>by_cases h2:k=0<;>by_cases h3:0<=k<;>by_cases h4:k<most<;>simp[h1,h2,h3,h4]
theorem vT (v:jz) (u m:Int) (g:cG) (b c:Nat) (H:Hp) (nx:Nat) (e e2:TypeId) (d d2:AV) (hb:bt H b=some (.row e 1 d [u8 m])) (hc:bt H c=some (.row e2 4 d2 [g.av])) (hbn:b<nx) (hcn:c<nx):xT Tryz.prog 118 [v.av,u8 u, .pt b 1 0 0, .pt c 1 0 0] H nx (bl (pe v (decide (ja m u≠0)) g.bz)):=by
 refine aY W2 rfl ?_
 repeat' (first|refine aQ ?_|exact eh|with_reducible refine aB ?_ ?_|((with_reducible refine Ask.mk ?_);first|exact dJ|exact cj|(intro h;simp_all[jz.cells,cG.cells]<;>fail)|(simp_all[jz.cells,cG.cells]<;>fail))|(apply aA;(·exact cL))|refine aH ?_|((with_reducible refine aE ?_ ?_)<;>intro hc<;>try(exfalso;omega)))
 all_goals refine KX.look ?_ yp
 all_goals simp only[show IntKind.u8.wrap (BitVec.ofInt IntKind.u8.bits m&&& BitVec.ofInt IntKind.u8.bits u).toNat=ja m u from rfl] at *
 all_goals unfold pe
 ·rw[if_neg (show ¬decide (ja m u≠0)=true by simp[hc])]
  obtain⟨is,sl,wo⟩:=v
  refine eD ?_
  rw[Bool.eq_iff_iff]
  simp[jz.default_eq,and_assoc]
 ·rename_i h0
  rw[decide_eq_true hc,if_pos rfl,if_pos h0]
  refine eD ?_
  by_cases h1:0<=v.slot<;>by_cases h2:v.slot<g.bz<;>simp[h1,h2]
 ·rename_i h0
  rw[decide_eq_true hc,if_pos rfl,if_neg (by rw[h0];decide)]
theorem I6 (k op:Int) (h:1<=k/\k<10):(ja (mask k op) 1=0↔¬k=1)/\(decide (ja (mask k op) 2≠0)=j0 k)/\(decide (ja (mask k op) 4≠0)=ej k)/\(decide (ja (mask k op) 8≠0)=nt k)/\(decide (ja (mask k op) 16≠0)=(decide (k=1)&&dv op))/\(decide (ja (mask k op) 32≠0)=jA k)/\(decide (ja (mask k op) 64≠0)=decide (k=8)):=by
 have hk:k=1\/k=2\/k=3\/k=4\/k=5\/k=6\/k=7\/k=8\/k=9:=by omega
 rcases hk with rfl|rfl|rfl|rfl|rfl|rfl|rfl|rfl|rfl
 ·cases ht:dv op with
  |false=>rw[show mask 1 op=43 by simp[mask,ht]];decide
  |true=>rw[show mask 1 op=59 by simp[mask,ht]];decide
 ·rw[show mask 2 op=38 by rfl,show(decide ((2:Int)=1)&&dv op)=false by rfl];decide
 ·rw[show mask 3 op=44 by rfl,show(decide ((3:Int)=1)&&dv op)=false by rfl];decide
 ·rw[show mask 4 op=46 by rfl,show(decide ((4:Int)=1)&&dv op)=false by rfl];decide
 ·rw[show mask 5 op=36 by rfl,show(decide ((5:Int)=1)&&dv op)=false by rfl];decide
 ·rw[show mask 6 op=36 by rfl,show(decide ((6:Int)=1)&&dv op)=false by rfl];decide
 ·rw[show mask 7 op=40 by rfl,show(decide ((7:Int)=1)&&dv op)=false by rfl];decide
 ·rw[show mask 8 op=104 by rfl,show(decide ((8:Int)=1)&&dv op)=false by rfl];decide
 ·rw[show mask 9 op=0 by rfl,show(decide ((9:Int)=1)&&dv op)=false by rfl];decide
set_option maxRecDepth 4000 in
set_option maxHeartbeats 2000000 in
theorem EN (u:bx) (g:cG) (n:Node) (hn:n.Wf):Pure Tryz.prog 72 [u.av,g.av,n.av] (fun r=>r=bl (jF u g n)):=by
 refine aD aAe rfl ?_
 have h0:=hn.kind.1
 have ho:=hn.op.1
 by_cases hk:1<=n.kind/\n.kind<10/\0<=n.origin/\n.origin<4096
 ·have hp:=D5 n hn ⟨hk.1,hk.2.1⟩
  obtain⟨m1,m2,m3,m4,m5,m6,m7⟩:=I6 n.kind n.op ⟨hk.1,hk.2.1⟩
  repeat' (first|refine aQ ?_|exact eh|with_reducible refine aB ?_ ?_|((with_reducible refine Ask.mk ?_);first|exact dJ|exact cj|(intro h;simp_all[bx.cells,cG.cells,Node.cells]<;>fail)|(simp_all[bx.cells,cG.cells,Node.cells]<;>fail))|(apply aA;(·exact cL))|refine aK (hp) ?_|((refine aX (se _ _ _ _ _ _ _ _ _ (by exact rfl)) ?_ ?_);(·exact True.intro))|((refine aW (fun _=>se _ _ _ _ _ _ _ _ _ (by exact rfl)) ?_ ?_);(·exact True.intro))|((refine aX (vT ⟨_,_,_⟩ _ _ _ _ _ _ _ _ _ _ _ (by exact rfl) (by exact rfl) cX cX) ?_ ?_);(·exact True.intro))|((refine aW (fun _=>vT ⟨_,_,_⟩ _ _ _ _ _ _ _ _ _ _ _ (by exact rfl) (by exact rfl) cX cX) ?_ ?_);(·exact True.intro))|refine aH ?_|((with_reducible refine aE ?_ ?_)<;>intro hc<;>try(exfalso;omega)))
  all_goals
   have hop:p6 (IntKind.i64.wrap n.op) (decide (ja (mask n.kind n.op) 1≠0)) 19=(if n.kind=1 then decide (n.op<19) else decide (n.op=0)):=by
    have h2:=hn.op.2
    rw[wrap64 (by omega) (by omega)]
    unfold p6
    by_cases h1:n.kind=1
    ·rw[if_pos h1,if_pos (show decide (ja (mask n.kind n.op) 1≠0)=true by rw[decide_eq_true_eq];exact fun h=>m1.1 h h1),decide_eq_true ho,Bool.true_and]
    ·rw[if_neg h1,if_neg (show ¬decide (ja (mask n.kind n.op) 1≠0)=true by rw[decide_eq_true_eq];exact fun h=>h (m1.2 h1))]
   refine eD ?_
   rw[hop,m2,m3,m4,m5,m6,m7]
   unfold jF
   rw[decide_eq_true hk,Bool.true_and]
   simp only[hc,if_true,if_false,or_self,Bool.if_false_right,Bool.decide_eq_true,Bool.and_assoc]
   simp only[List.length_map]
   generalize p6 n.slot (j0 n.kind) g.bz=x1
   have ea:(⟨n.a.ir,n.a.slot,n.a.word⟩:jz)=n.a:=rfl
   have eb:(⟨n.b.ir,n.b.slot,n.b.word⟩:jz)=n.b:=rfl
   rw[ea,eb]
   generalize pe n.a (nt n.kind) g.bz=x2
   generalize pe n.b (decide (n.kind=1)&&dv n.op) g.bz=x3
   generalize p6 n.next (jA n.kind) g.nodes.length=x4
   generalize p6 n.rN (decide (n.kind=8)) g.nodes.length=x5
   revert x1 x2 x3 x4 x5
   intro x1 x2 x3 x4 x5
   cases x1<;>cases x2<;>cases x3<;>cases x4<;>cases x5<;>simp
 ·have hb:jF u g n=false:=by unfold jF;rw[decide_eq_false hk];simp
  rw[hb]
  repeat' (first|refine aQ ?_|exact eh|with_reducible refine aB ?_ ?_|((with_reducible refine Ask.mk ?_);first|exact dJ|exact cj|(intro h;simp_all[bx.cells,cG.cells,Node.cells]<;>fail)|(simp_all[bx.cells,cG.cells,Node.cells]<;>fail))|(apply aA;(·exact cL))|refine aH ?_|((with_reducible refine aE ?_ ?_)<;>intro hc<;>try(exfalso;omega)))
  exact rfl
def fV (c:Int):Bool:=decide (48<=c)&&decide (c<=57)
def iu (c:Int):Bool:=decide (97<=c)&&decide (c<=122)||decide (65<=c)&&decide (c<=90)||decide (c=95)
def FF:List ByteArray:=[⟨(List.toArray [115,104,97,114,101,100])⟩,⟨(List.toArray [108,111,99,107])⟩,⟨(List.toArray [116,104,114,101,97,100])⟩,⟨(List.toArray [108,111,99,97,108])⟩,⟨(List.toArray [105,102])⟩,⟨(List.toArray [101,108,115,101])⟩,⟨(List.toArray [119,104,105,108,101])⟩,⟨(List.toArray [112,114,105,110,116])⟩,⟨(List.toArray [115,107,105,112])⟩,⟨(List.toArray [115,119,97,112])⟩]
def my (s:ByteArray):Bool:=FF.any (s==·)
theorem eZ (c:Int):Pure Tryz.prog 165 [u8 c] (fun r=>r=bl (iu c)):=by
 refine aD XX rfl ?_
 repeat' (first|refine aQ ?_|exact aC|with_reducible refine aB ?_ ?_|(apply aA;(·exact cL))|refine aH ?_|((with_reducible refine aE ?_ ?_)<;>intro hc<;>try(exfalso;omega)))
 refine eD ?_
 unfold iu
 by_cases h1:97<=c<;>by_cases h2:c<=122<;>by_cases h3:65<=c<;>by_cases h4:c<=90<;>by_cases h5:c=95<;>simp[h1,h2,h3,h4,h5]
theorem iW (s:ByteArray):Pure Tryz.prog 164 [st s] (fun r=>r=bl (my s)):=by
 refine aD XW rfl ?_
 repeat' (first|refine aQ ?_|exact aC|with_reducible refine aB ?_ ?_|(apply aA;(·exact cL))|refine aH ?_|((with_reducible refine aE ?_ ?_)<;>intro hc<;>try(exfalso;omega)))
 all_goals refine eD ?_
 all_goals simp_all[my,FF]
def fM (s:ByteArray) (i:Nat):Int:=(s.data.toList.getD i 0).toNat
def fm (s:ByteArray):Bool:=decide (1<=s.size)&&decide (s.size<=32)&& !fV (fM s 0)&& !my s&&(List.range s.size).all fun i=>iu (fM s i)||fV (fM s i)
theorem RO (s:ByteArray):(s==(⟨#[]⟩:ByteArray))=decide (s.size=0):=by
 obtain⟨d⟩:=s
 show(d==#[])=_
 rw[Bool.eq_iff_iff]
 show(d==#[])=true↔decide (d.size=0)=true
 simp
theorem JB (s:ByteArray) (hs:s.size<=140737488351232):Pure Tryz.prog 115 [st s] (fun r=>r=bl (fm s)):=by
 refine aD W0 rfl ?_
 have e0:=RO s
 by_cases hz:s.size=0
 ·have e1:(s==(⟨#[]⟩:ByteArray))=true:=by rw[e0,decide_eq_true hz]
  have hb:fm s=false:=by unfold fm;rw[decide_eq_false (by omega)];simp
  rw[hb]
  repeat' (first|refine aQ ?_|exact eh|with_reducible refine aB ?_ ?_|((with_reducible refine Ask.mk ?_);first|exact dJ|((refine Ask.mk ?_);intro h;simp_all)|exact cj)|(apply aA;(·exact cL))|((with_reducible refine aN (fD _) ?_ ?_);(·exact cJ))|((with_reducible refine aI (fun _=>fD _) ?_ ?_);(·exact cJ))|((with_reducible refine aL (fD _) ?_ ?_);(·exact cJ))|((with_reducible refine aM (fun _=>fD _) ?_ ?_);(·exact cJ))|((with_reducible refine aN (iW _) ?_ ?_);(·exact cJ))|((with_reducible refine aI (fun _=>iW _) ?_ ?_);(·exact cJ))|((with_reducible refine aL (iW _) ?_ ?_);(·exact cJ))|((with_reducible refine aM (fun _=>iW _) ?_ ?_);(·exact cJ))|((with_reducible refine aN (eZ _) ?_ ?_);(·exact cJ))|((with_reducible refine aI (fun _=>eZ _) ?_ ?_);(·exact cJ))|((with_reducible refine aL (eZ _) ?_ ?_);(·exact cJ))|((with_reducible refine aM (fun _=>eZ _) ?_ ?_);(·exact cJ))|(simp only[e1])|refine aH ?_|((with_reducible refine aE ?_ ?_)<;>intro hc<;>try(exfalso;omega)))
  all_goals first|exact rfl|(exfalso;simp_all)
 ·have e1:(s==(⟨#[]⟩:ByteArray))=false:=by rw[e0,decide_eq_false hz]
  repeat' (first|refine aQ ?_|exact eh|with_reducible refine aB ?_ ?_|((with_reducible refine Ask.mk ?_);first|exact dJ|((refine Ask.mk ?_);intro h;exact⟨by omega,by omega⟩)|exact cj)|(apply aA;(·exact cL))|((with_reducible refine aN (fD _) ?_ ?_);(·exact cJ))|((with_reducible refine aI (fun _=>fD _) ?_ ?_);(·exact cJ))|((with_reducible refine aL (fD _) ?_ ?_);(·exact cJ))|((with_reducible refine aM (fun _=>fD _) ?_ ?_);(·exact cJ))|((with_reducible refine aN (iW _) ?_ ?_);(·exact cJ))|((with_reducible refine aI (fun _=>iW _) ?_ ?_);(·exact cJ))|((with_reducible refine aL (iW _) ?_ ?_);(·exact cJ))|((with_reducible refine aM (fun _=>iW _) ?_ ?_);(·exact cJ))|((with_reducible refine aN (eZ _) ?_ ?_);(·exact cJ))|((with_reducible refine aI (fun _=>eZ _) ?_ ?_);(·exact cJ))|((with_reducible refine aL (eZ _) ?_ ?_);(·exact cJ))|((with_reducible refine aM (fun _=>eZ _) ?_ ?_);(·exact cJ))|(simp only[e1])|refine aH ?_|((with_reducible refine aE ?_ ?_)<;>intro hc<;>try(exfalso;omega)))
  ·refine eD (Eq.symm ?_)
   unfold fm
   have hp:(decide (1<=s.size)&&decide (s.size<=32)&& !fV (fM s 0)&& !my s)=false:=by
    rcases hc with((h|h)|h)|h
    ·exact absurd h (by decide)
    ·simp[show ¬s.size<=32 by omega]
    ·have h:48<=fM s 0/\fM s 0<=57:=h
     simp[fV,h.1,h.2]
    ·simp[h]
   rw[hp,Bool.false_and]
  ·have hp:(decide (1<=s.size)&&decide (s.size<=32)&& !fV (fM s 0)&& !my s)=true:=by
    obtain⟨h1,h2⟩:=hc
    have h3:¬(48<=fM s 0/\fM s 0<=57):=fun h=>h1 (.inr h)
    have h4:s.size<=32:=by
     have:¬(32:Int)<s.size:=fun h=>h1 (.inl (.inr h))
     omega
    have h5:fV (fM s 0)=false:=by
     unfold fV
     by_cases h:48<=fM s 0
     ·rw[decide_eq_true h,decide_eq_false (fun h'=>h3 ⟨h,h'⟩)];rfl
     ·rw[decide_eq_false h];rfl
    rw[decide_eq_true (by omega:1<=s.size),decide_eq_true h4,h5,h2];rfl
   have hb:∀R,(decide (1<=s.size)&&decide (s.size<=32)&& !fV (fM s 0)&& !my s&&R)=R:=fun R=>by rw[hp,Bool.true_and]
   unfold fm
   rw[hb]
   clear hc hp hb e1 e0
   refine aF (fun i:Nat=>[(0,st s),(21,i64 s.size),(22,i64 i)]) (fun i H n=>i<=s.size/\∀j,j<i->(iu (fM s j)||fV (fM s j))=true) (fun i=>s.size - i) 0 cC ⟨Nat.zero_le _,fun _ h=>by omega⟩ ?_
   rintro i H n ⟨hi,hall⟩
   by_cases his:i<s.size
   ·repeat' (first|refine aQ ?_|exact eh|with_reducible refine aB ?_ ?_|((with_reducible refine Ask.mk ?_);first|exact dJ|((refine Ask.mk ?_);intro h;exact⟨by omega,by omega⟩)|exact cj)|(apply aA;(·exact cL))|((with_reducible refine aN (fD _) ?_ ?_);(·exact cJ))|((with_reducible refine aI (fun _=>fD _) ?_ ?_);(·exact cJ))|((with_reducible refine aL (fD _) ?_ ?_);(·exact cJ))|((with_reducible refine aM (fun _=>fD _) ?_ ?_);(·exact cJ))|((with_reducible refine aN (eZ _) ?_ ?_);(·exact cJ))|((with_reducible refine aI (fun _=>eZ _) ?_ ?_);(·exact cJ))|((with_reducible refine aL (eZ _) ?_ ?_);(·exact cJ))|((with_reducible refine aM (fun _=>eZ _) ?_ ?_);(·exact cJ))|refine aH ?_|((with_reducible refine aE ?_ ?_)<;>intro hc<;>try(exfalso;omega)))
    ·refine eD (Eq.symm ?_)
     rw[Bool.eq_false_iff,ne_eq,List.all_eq_true]
     intro hA
     have h1:=hA i (List.mem_range.2 his)
     have hc:iu (fM s i)=false/\(fM s i<48\/57<fM s i):=hc
     rw[hc.1,Bool.false_or] at h1
     simp only[fV,Bool.and_eq_true,decide_eq_true_eq] at h1
     omega
    ·refine⟨i+1,by omega,cC,by omega,fun j hj=> ?_⟩
     by_cases hji:j=i
     ·have hc:¬iu (fM s i)=false\/(48<=fM s i/\fM s i<=57):=hc
      rw[hji]
      rcases hc with h|h
      ·rw[Bool.not_eq_false] at h
       rw[h,Bool.true_or]
      ·simp[fV,h.1,h.2]
     ·exact hall j (by omega)
   ·have:i=s.size:=by omega
    subst this
    repeat' (first|refine aQ ?_|exact aC|with_reducible refine aB ?_ ?_|(apply aA;(·exact cL))|refine aH ?_|((with_reducible refine aE ?_ ?_)<;>intro hc<;>try(exfalso;omega)))
    refine eD (Eq.symm ?_)
    rw[List.all_eq_true]
    intro j hj
    exact hall j (List.mem_range.1 hj)
abbrev AS (E:List (ByteArray×Bool)):List AV:=rf (fun s:ByteArray=>Value.string s) bl E
theorem aAF (E:List (ByteArray×Bool)) (t:ByteArray):na true (.string t) (AS E) (bl false)=some (bl ((fQ E t).getD false),(fQ E t).isSome):=(DT xw bl t E (bl false)).trans (by cases fQ E t<;>rfl)
theorem aAy (E:List (ByteArray×Bool)) (t:ByteArray) (v:Bool):qW true (.string t) (AS E) (bl v)=some (AS (fS E t v)):=DU xw bl t v E
def ni (l:List ByteArray):List (ByteArray×Bool):=l.map fun s=>(s,true)
def gI:List ByteArray->ByteArray->Bool
 |[],_=>false
 |a::l,s=>if s=a then true else gI l s
theorem AT (l:List ByteArray) (s:ByteArray):gI l s=true↔s∈l:=by
 induction l with
 |nil=>simp[gI]
 |cons a l ih=>
  rw[gI]
  by_cases h:s=a
  ·simp[h]
  ·simp[h,ih]
theorem J1 (l:List ByteArray) (s:ByteArray):(fQ (ni l) s).getD false=gI l s:=by
 induction l with
 |nil=>rfl
 |cons a l ih=>
  show((if s=a then some true else fQ (ni l) s)).getD false=(if s=a then true else gI l s)
  by_cases h:s=a
  ·rw[if_pos h,if_pos h];rfl
  ·rw[if_neg h,if_neg h,ih]
theorem OJ (l:List ByteArray) (s:ByteArray) (h:gI l s=false):fS (ni l) s true=ni (l++[s]):=by
 induction l with
 |nil=>rfl
 |cons a l ih=>
  rw[gI] at h
  by_cases e:s=a
  ·rw[if_pos e] at h;cases h
  ·rw[if_neg e] at h
   show(if s=a then(s,true)::ni l else(a,true)::fS (ni l) s true)=_
   rw[if_neg e,ih h];rfl
theorem tX (s:ByteArray) (hs:s.size<=140737488351232) (l:List ByteArray) (b m:Nat) (H:Hp) (nx:Nat) (e em:TypeId) (d dm:AV) (hb:bt H b=some (.row e 1 d [.mp m])) (hm:bt H m=some (.row em 0 dm (mapA (AS (ni l))))) (hbn:b<nx) (hmn:m<nx) (hbm:b≠m):
 cU Tryz.prog 114 [st s, .pt b 1 0 0] H nx (fun r H' n=>r=bl (fm s&& !gI l s)/\nx<=n/\(gI l s=false->bt H' m=some (.row em 0 dm (mapA (AS (ni (l++[s]))))))/\∀y,y<nx->y≠m->bt H' y=bt H y):=by
 refine aJ WZ rfl ?_
 repeat' (first|refine aQ ?_|exact aC|with_reducible refine aB ?_ ?_|(apply aA;(·exact cL))|refine aK (JB s hs) ?_|(apply aO (g:=some _);(·exact fun _=>aAF _ _))|(apply aO (g:=none);(·exact fun _=>aAy _ _ _))|refine aH ?_|((with_reducible refine aE ?_ ?_)<;>intro hc<;>try(exfalso;omega)))
 refine⟨⟨?_,cX,fun h=> ?_,fun y hy hym=> ?_⟩⟩
 ·rw[J1]
  refine eD ?_
  cases fm s<;>cases gI l s<;>rfl
 ·rw[<-OJ l s h]
  exact bu
 ·exact cE
def ew:List ByteArray->List ByteArray->Bool
 |_,[]=>true
 |acc,s::r=>if(fm s&& !gI acc s)=true then ew (acc++[s]) r else false
def dC (u:bx):List ByteArray:=u.shared.map Decl.name++(u.cB.map Decl.name++u.bw.map cG.name)
def fK (u:bx):Bool:=decide (u.shared.length<=64)&&decide (u.cB.length<=16)&&decide (u.bw.length<=8)&&ew [] (dC u)&&u.cB.all (fun d=>decide (d.word=0))
theorem nF (u:bx) {k:Nat} (hk:k<(dC u).length) (h:ew ((dC u).take k) ((dC u).drop k)=ew [] (dC u)) {s:ByteArray} (hs:(dC u).getD k default=s):
 (ew [] (dC u)=if(fm s&& !gI ((dC u).take k) s)=true then ew ((dC u).take (k+1)) ((dC u).drop (k+1)) else false)/\(dC u).take (k+1)=(dC u).take k++[s]:=by
 have e:(dC u)[k]=s:=by rw[<-hs];simp[List.getD,hk]
 have e2:(dC u).take (k+1)=(dC u).take k++[s]:=by rw[List.take_succ_eq_append_getElem hk,e]
 refine⟨?_,e2⟩
 rw[<-h,List.drop_eq_getElem_cons hk,ew,e,e2]
theorem Q0 (u:bx) {i:Nat} (h:i<u.shared.length):(dC u).getD i default=(u.shared.getD i default).name:=by
 simp[dC,List.getD,List.getElem?_append,h]
theorem QZ (u:bx) {i:Nat} (h:i<u.cB.length):(dC u).getD (u.shared.length+i) default=(u.cB.getD i default).name:=by
 unfold dC
 rw[List.getD,List.getElem?_append_right (by simp),List.length_map,Nat.add_sub_cancel_left,List.getElem?_append_left (by simpa using h)]
 simp[List.getD,h]
theorem QY (u:bx) {i:Nat} (h:i<u.bw.length):(dC u).getD (u.shared.length+u.cB.length+i) default=(u.bw.getD i default).name:=by
 unfold dC
 rw[List.getD,List.getElem?_append_right (by simp;omega),List.getElem?_append_right (by simp;omega)]
 simp only[List.length_map]
 rw[show u.shared.length+u.cB.length+i - u.shared.length - u.cB.length=i by omega]
 simp[List.getD,h]
set_option maxHeartbeats 4000000 in
theorem DW (u:bx) (hu:u.Wf):Pure Tryz.prog 71 [u.av] (fun r=>r=bl (fK u)):=by
 refine aD aAd rfl ?_
 have h1:=hu.rn
 have h2:=hu.ud
 have h3:=hu.wj
 by_cases hl:u.shared.length<=64/\u.cB.length<=16/\u.bw.length<=8
 ·repeat' (first|refine aQ ?_|exact eh|with_reducible refine aB ?_ ?_|((with_reducible refine Ask.mk ?_);first|exact dJ|exact cj|(intro h;simp_all[bx.cells]<;>fail)|(simp_all[bx.cells]<;>fail))|(apply aA;(·exact cL))|refine aH ?_|((with_reducible refine aE ?_ ?_)<;>intro hc<;>try(exfalso;omega)))
  clear hc
  simp only[List.length_map]
  refine aF (fun i:Nat=>[(1, .pt 0 1 0 0),(4, .fn (.func 114) [] [.pt 19 1 0 0]),(30,cF u.shared),(31,i64 u.shared.length),(32,i64 i)]) (fun i H n=>i<=u.shared.length/\20<=n/\(∃d,bt H 0=some (.row 25 3 d [u.av]))/\(∃d,bt H 19=some (.row 178 1 d [.mp 18]))/\(∃d,bt H 18=some (.row 9 0 d (mapA (AS (ni ((dC u).take (i)))))))/\ew ((dC u).take (i)) ((dC u).drop (i))=ew [] (dC u)) (fun i=>u.shared.length - i) 0 cC ⟨Nat.zero_le _,cX,⟨_,bu⟩,⟨_,bu⟩,⟨_,bu⟩,rfl⟩ ?_
  rintro i H n ⟨hi,hn,⟨d0,r0⟩,⟨d19,r19⟩,⟨d18,r18⟩,hq⟩
  by_cases hil:i<u.shared.length
  ·have hk:i<(dC u).length:=by simp only[dC,List.length_append,List.length_map];omega
   have hs:(dC u).getD (i) default=(u.shared.getD i default).name:=Q0 u hil
   obtain⟨ha,ht⟩:=nF u hk hq hs
   have hsz:=(hu.shared _ (cO default hil)).name
   repeat' (first|refine aQ ?_|exact eh|with_reducible refine aB ?_ ?_|((with_reducible refine Ask.mk ?_);first|exact dJ|exact cj|(intro h;simp_all[bx.cells,Decl.cells]<;>fail)|(simp_all[bx.cells,Decl.cells]<;>fail))|(apply aA;(·(first|exact LU|exact cL)))|refine aH ?_|((with_reducible refine aE ?_ ?_)<;>intro hc<;>try(exfalso;omega)))
   refine aG (tX _ hsz ((dC u).take (i)) 19 18 _ _ _ _ _ _ bu bu cX cX (by decide)) ?_
   rintro _ H2 n2 ⟨rfl,hn2,hput,hf⟩
   have hn12:n<=n2:=Nat.le_trans cX hn2
   have r02:bt H2 0=some (.row 25 3 d0 [u.av]):=(hf 0 (Nat.lt_of_lt_of_le (by omega:0<n) cX) (by decide)).trans bu
   have r192:bt H2 19=some (.row 178 1 d19 [.mp 18]):=(hf 19 (Nat.lt_of_lt_of_le (by omega:19<n) cX) (by decide)).trans bu
   cases hg:(fm (u.shared.getD i default).name&& !gI ((dC u).take (i)) (u.shared.getD i default).name) with
   |false=>
    rw[hg,if_neg (by decide)] at ha
    have hb:fK u=false:=by unfold fK;rw[ha];simp
    rw[hb]
    repeat' (first|refine aQ ?_|exact eh|with_reducible refine aB ?_ ?_|((with_reducible refine Ask.mk ?_);first|exact dJ|exact cj|(intro h;simp_all[bx.cells,Decl.cells]<;>fail)|(simp_all[bx.cells,Decl.cells]<;>fail))|(apply aA;(·exact cL))|refine aH ?_|((with_reducible refine aE ?_ ?_)<;>intro hc<;>try(exfalso;omega)))
    exact rfl
   |true=>
    rw[hg,if_pos rfl] at ha
    have hnm:gI ((dC u).take (i)) (u.shared.getD i default).name=false:=by revert hg;cases gI ((dC u).take (i)) (u.shared.getD i default).name<;>simp
    have r182:=hput hnm
    rw[<-ht] at r182
    clear hf hput
    repeat' (first|refine aQ ?_|exact eh|with_reducible refine aB ?_ ?_|((with_reducible refine Ask.mk ?_);first|exact dJ|exact cj|(intro h;simp_all[bx.cells,Decl.cells]<;>fail)|(simp_all[bx.cells,Decl.cells]<;>fail))|(apply aA;(·exact cL))|refine aH ?_|((with_reducible refine aE ?_ ?_)<;>intro hc<;>try(exfalso;omega)))
    exact⟨i+1,by omega,cC,by omega,by omega,⟨_,bu⟩,⟨_,bu⟩,⟨_,bu⟩,ha.symm⟩
  ·have hie:i=u.shared.length:=by omega
   subst hie
   repeat' (first|refine aQ ?_|exact eh|with_reducible refine aB ?_ ?_|((with_reducible refine Ask.mk ?_);first|exact dJ|exact cj|(intro h;simp_all[bx.cells]<;>fail)|(simp_all[bx.cells]<;>fail))|(apply aA;(·exact cL))|refine aH ?_|((with_reducible refine aE ?_ ?_)<;>intro hc<;>try(exfalso;omega)))
   refine aF (fun i:Nat=>[(1, .pt 0 1 0 0),(4, .fn (.func 114) [] [.pt 19 1 0 0]),(43,cF u.cB),(44,i64 u.cB.length),(45,i64 i)]) (fun i H n=>i<=u.cB.length/\20<=n/\(∃d,bt H 0=some (.row 25 3 d [u.av]))/\(∃d,bt H 19=some (.row 178 1 d [.mp 18]))/\(∃d,bt H 18=some (.row 9 0 d (mapA (AS (ni ((dC u).take (u.shared.length+i)))))))/\ew ((dC u).take (u.shared.length+i)) ((dC u).drop (u.shared.length+i))=ew [] (dC u)/\∀j,j<i->(u.cB.getD j default).word=0) (fun i=>u.cB.length - i) 0 cC ⟨Nat.zero_le _,cX,⟨_,bu⟩,⟨_,bu⟩,⟨_,by rw[Nat.add_zero];exact bu⟩,by rw[Nat.add_zero];exact hq,fun _ h=>by omega⟩ ?_
   clear r0 r19 r18 hq hc
   rintro i H n ⟨hi,hn,⟨d0,r0⟩,⟨d19,r19⟩,⟨d18,r18⟩,hq,hw⟩
   by_cases hil:i<u.cB.length
   ·have hk:u.shared.length+i<(dC u).length:=by simp only[dC,List.length_append,List.length_map];omega
    have hs:(dC u).getD (u.shared.length+i) default=(u.cB.getD i default).name:=QZ u hil
    obtain⟨ha,ht⟩:=nF u hk hq hs
    have hsz:=(hu.cB _ (cO default hil)).name
    repeat' (first|refine aQ ?_|exact eh|with_reducible refine aB ?_ ?_|((with_reducible refine Ask.mk ?_);first|exact dJ|exact cj|(intro h;simp_all[bx.cells,Decl.cells]<;>fail)|(simp_all[bx.cells,Decl.cells]<;>fail))|(apply aA;(·(first|exact LU|exact cL)))|refine aH ?_|((with_reducible refine aE ?_ ?_)<;>intro hc<;>try(exfalso;omega)))
    refine aG (tX _ hsz ((dC u).take (u.shared.length+i)) 19 18 _ _ _ _ _ _ bu bu cX cX (by decide)) ?_
    rintro _ H2 n2 ⟨rfl,hn2,hput,hf⟩
    have hn12:n<=n2:=Nat.le_trans cX hn2
    have r02:bt H2 0=some (.row 25 3 d0 [u.av]):=(hf 0 (Nat.lt_of_lt_of_le (by omega:0<n) cX) (by decide)).trans bu
    have r192:bt H2 19=some (.row 178 1 d19 [.mp 18]):=(hf 19 (Nat.lt_of_lt_of_le (by omega:19<n) cX) (by decide)).trans bu
    cases hg:(fm (u.cB.getD i default).name&& !gI ((dC u).take (u.shared.length+i)) (u.cB.getD i default).name) with
    |false=>
     rw[hg,if_neg (by decide)] at ha
     have hb:fK u=false:=by unfold fK;rw[ha];simp
     rw[hb]
     clear hf hput
     repeat' (first|refine aQ ?_|exact eh|with_reducible refine aB ?_ ?_|((with_reducible refine Ask.mk ?_);first|exact dJ|exact cj|(intro h;simp_all[bx.cells,Decl.cells]<;>fail)|(simp_all[bx.cells,Decl.cells]<;>fail))|(apply aA;(·exact cL))|refine aH ?_|((with_reducible refine aE ?_ ?_)<;>intro hc<;>try(exfalso;omega)))
     exact rfl
    |true=>
     rw[hg,if_pos rfl] at ha
     have hnm:gI ((dC u).take (u.shared.length+i)) (u.cB.getD i default).name=false:=by revert hg;cases gI ((dC u).take (u.shared.length+i)) (u.cB.getD i default).name<;>simp
     have r182:=hput hnm
     rw[<-ht] at r182
     obtain⟨d4,r4⟩:∃d,bt H2 (n+3)=some (.row 85 3 d [(u.cB.getD i default).av]):=⟨_,(hf (n+3) cX (by omega)).trans bu⟩
     clear hf hput
     repeat' (first|refine aQ ?_|exact eh|with_reducible refine aB ?_ ?_|((with_reducible refine Ask.mk ?_);first|exact dJ|exact cj|(intro h;simp_all[bx.cells,Decl.cells]<;>fail)|(simp_all[bx.cells,Decl.cells]<;>fail))|(apply aA;(·exact cL))|refine aH ?_|((with_reducible refine aE ?_ ?_)<;>intro hc<;>try(exfalso;omega)))
     ·have hb:fK u=false:=by
       unfold fK
       rw[Bool.and_eq_false_iff]
       right
       rw[Bool.eq_false_iff,ne_eq,List.all_eq_true]
       exact fun h=>(hc.resolve_left (by decide)) (of_decide_eq_true (h _ (cO default hil)))
      rw[hb]
     ·exact⟨i+1,by omega,cC,by omega,by omega,⟨_,bu⟩,⟨_,bu⟩,⟨_,bu⟩,ha.symm,fun j hj=>by
       by_cases hji:j=i
       ·rw[hji];exact hc.2
       ·exact hw j (by omega)⟩
   ·have hie:i=u.cB.length:=by omega
    subst hie
    repeat' (first|refine aQ ?_|exact eh|with_reducible refine aB ?_ ?_|((with_reducible refine Ask.mk ?_);first|exact dJ|exact cj|(intro h;simp_all[bx.cells]<;>fail)|(simp_all[bx.cells]<;>fail))|(apply aA;(·exact cL))|refine aH ?_|((with_reducible refine aE ?_ ?_)<;>intro hc<;>try(exfalso;omega)))
    refine aF (fun i:Nat=>[(1, .pt 0 1 0 0),(4, .fn (.func 114) [] [.pt 19 1 0 0]),(61,cZ u.bw),(62,i64 u.bw.length),(63,i64 i)]) (fun i H n=>i<=u.bw.length/\20<=n/\(∃d,bt H 0=some (.row 25 3 d [u.av]))/\(∃d,bt H 19=some (.row 178 1 d [.mp 18]))/\(∃d,bt H 18=some (.row 9 0 d (mapA (AS (ni ((dC u).take (u.shared.length+u.cB.length+i)))))))/\ew ((dC u).take (u.shared.length+u.cB.length+i)) ((dC u).drop (u.shared.length+u.cB.length+i))=ew [] (dC u)/\∀j,j<u.cB.length->(u.cB.getD j default).word=0) (fun i=>u.bw.length - i) 0 cC ⟨Nat.zero_le _,cX,⟨_,bu⟩,⟨_,bu⟩,⟨_,by rw[Nat.add_zero];exact bu⟩,by rw[Nat.add_zero];exact hq,hw⟩ ?_
    clear r0 r19 r18 hq hc hw
    rintro i H n ⟨hi,hn,⟨d0,r0⟩,⟨d19,r19⟩,⟨d18,r18⟩,hq,hw⟩
    by_cases hil:i<u.bw.length
    ·have hk:u.shared.length+u.cB.length+i<(dC u).length:=by simp only[dC,List.length_append,List.length_map];omega
     have hs:(dC u).getD (u.shared.length+u.cB.length+i) default=(u.bw.getD i default).name:=QY u hil
     obtain⟨ha,ht⟩:=nF u hk hq hs
     have hsz:=(hu.bw _ (cO default hil)).name
     repeat' (first|refine aQ ?_|exact eh|with_reducible refine aB ?_ ?_|((with_reducible refine Ask.mk ?_);first|exact dJ|exact cj|(intro h;simp_all[bx.cells,cG.cells]<;>fail)|(simp_all[bx.cells,cG.cells]<;>fail))|(apply aA;(·(first|exact TU|exact cL)))|refine aH ?_|((with_reducible refine aE ?_ ?_)<;>intro hc<;>try(exfalso;omega)))
     refine aG (tX _ hsz ((dC u).take (u.shared.length+u.cB.length+i)) 19 18 _ _ _ _ _ _ bu bu cX cX (by decide)) ?_
     rintro _ H2 n2 ⟨rfl,hn2,hput,hf⟩
     have hn12:n<=n2:=Nat.le_trans cX hn2
     have r02:bt H2 0=some (.row 25 3 d0 [u.av]):=(hf 0 (Nat.lt_of_lt_of_le (by omega:0<n) cX) (by decide)).trans bu
     have r192:bt H2 19=some (.row 178 1 d19 [.mp 18]):=(hf 19 (Nat.lt_of_lt_of_le (by omega:19<n) cX) (by decide)).trans bu
     cases hg:(fm (u.bw.getD i default).name&& !gI ((dC u).take (u.shared.length+u.cB.length+i)) (u.bw.getD i default).name) with
     |false=>
      rw[hg,if_neg (by decide)] at ha
      have hb:fK u=false:=by unfold fK;rw[ha];simp
      rw[hb]
      repeat' (first|refine aQ ?_|exact eh|with_reducible refine aB ?_ ?_|((with_reducible refine Ask.mk ?_);first|exact dJ|exact cj|(intro h;simp_all[bx.cells,cG.cells]<;>fail)|(simp_all[bx.cells,cG.cells]<;>fail))|(apply aA;(·exact cL))|refine aH ?_|((with_reducible refine aE ?_ ?_)<;>intro hc<;>try(exfalso;omega)))
      exact rfl
     |true=>
      rw[hg,if_pos rfl] at ha
      have hnm:gI ((dC u).take (u.shared.length+u.cB.length+i)) (u.bw.getD i default).name=false:=by revert hg;cases gI ((dC u).take (u.shared.length+u.cB.length+i)) (u.bw.getD i default).name<;>simp
      have r182:=hput hnm
      rw[<-ht] at r182
      clear hf hput
      repeat' (first|refine aQ ?_|exact eh|with_reducible refine aB ?_ ?_|((with_reducible refine Ask.mk ?_);first|exact dJ|exact cj|(intro h;simp_all[bx.cells,cG.cells]<;>fail)|(simp_all[bx.cells,cG.cells]<;>fail))|(apply aA;(·exact cL))|refine aH ?_|((with_reducible refine aE ?_ ?_)<;>intro hc<;>try(exfalso;omega)))
      exact⟨i+1,by omega,cC,by omega,by omega,⟨_,bu⟩,⟨_,bu⟩,⟨_,bu⟩,ha.symm,hw⟩
    ·have hie:i=u.bw.length:=by omega
     subst hie
     repeat' (first|refine aQ ?_|exact eh|with_reducible refine aB ?_ ?_|((with_reducible refine Ask.mk ?_);first|exact dJ|exact cj|(intro h;simp_all[bx.cells]<;>fail)|(simp_all[bx.cells]<;>fail))|(apply aA;(·exact cL))|refine aH ?_|((with_reducible refine aE ?_ ?_)<;>intro hc<;>try(exfalso;omega)))
     refine eD (Eq.symm ?_)
     have e:u.shared.length+u.cB.length+u.bw.length=(dC u).length:=by simp only[dC,List.length_append,List.length_map];omega
     have hall:ew [] (dC u)=true:=by
      rw[<-hq,e,List.drop_eq_nil_of_le (Nat.le_refl _)]
      cases(dC u).take (dC u).length<;>rfl
     unfold fK
     rw[decide_eq_true hl.1,decide_eq_true hl.2.1,decide_eq_true hl.2.2,hall]
     simp only[Bool.true_and]
     rw[List.all_eq_true]
     intro d hd
     obtain⟨j,hj,rfl⟩:=List.getElem_of_mem hd
     have:=hw j hj
     rw[show u.cB.getD j default=u.cB[j] by simp[List.getD,hj]] at this
     exact decide_eq_true this
 ·have hb:fK u=false:=by
   unfold fK
   by_cases a1:u.shared.length<=64
   ·by_cases a2:u.cB.length<=16
    ·rw[decide_eq_false (fun a3=>hl ⟨a1,a2,a3⟩:¬u.bw.length<=8)];simp
    ·rw[decide_eq_false a2];simp
   ·rw[decide_eq_false a1];simp
  rw[hb]
  repeat' (first|refine aQ ?_|exact eh|with_reducible refine aB ?_ ?_|((with_reducible refine Ask.mk ?_);first|exact dJ|exact cj|(intro h;simp_all[bx.cells]<;>fail)|(simp_all[bx.cells]<;>fail))|(apply aA;(·exact cL))|refine aH ?_|((with_reducible refine aE ?_ ?_)<;>intro hc<;>try(exfalso;omega)))
  exact rfl
end Go.Proofs.YtjopoheligmmoaaGreatDoor
namespace Go.cw
open Go.RowKit
theorem Wk.UZ {H:Hp} {nx b:Nat} {e:TypeId} {sz:Nat} {d:AV} {es es2:List AV} (d2:AV) (hb:bt H b=some (.row e sz d es)) (hl:es.length=es2.length) (h:∀c c2:Cx,c.le c2->c2.w=c.w->dW c c2 es es2):Wk .any H nx .any ((b,some (.row e sz d2 es2))::H) nx:=by
 refine Wk.tell (Nat.le_refl _) (fun x e' sz' d' es' he=> ?_) (fun w0 c c2 hS hU hc hc2 hw hle hnew hM=>⟨db.any _ _ _,fun x e' sz' d' es' d0 es0 h1 h2=> ?_⟩)
 ·by_cases hx:x=b
  ·subst hx
   rw[ca] at he
   cases he
   exact .inl ⟨d,es,hb,hl⟩
  ·rw[cN hx] at he
   exact .inl ⟨d',es',he,rfl⟩
 ·by_cases hx:x=b
  ·subst hx
   rw[ca] at h1
   rw[hb] at h2
   cases h1;cases h2
   exact h c c2 hle hw
  ·rw[cN hx] at h1
   rw[h1] at h2;cases h2
   exact dW.cc hle _
theorem dW.rep {c c2:Cx} {a b:AV} (h:db c c2 a b):∀n,dW c c2 (List.replicate n a) (List.replicate n b)
 |0=> .nil
 |n+1=> .cons h (dW.rep h n)
end Go.cw
namespace Go.Proofs.YtjopoheligmmoaaGreatDoor
open Go Go.cw Go.Proofs
set_option linter.unusedSimpArgs false
set_option linter.unusedVariables false
theorem la {l:List Int} {i:Nat} (h:i<l.length) (d:AV):(l.map i64).getD i d=i64 (l.getD i 0):=cx i64 l i d h
theorem vh {es:List AV} (hsz:es.length * 8<=140737488355328):cU Tryz.prog 119 [.im 1 .any es] [] 0 (tN [] 0 3 1 es):=by
 refine tN.of (by omega) ?_
 refine aJ W3 rfl ?_
 cases hes:es with
 |nil=>
  repeat' (first|refine aQ ?_|exact aC|with_reducible refine aB ?_ ?_|(apply aA;(·exact cL))|refine aH ?_|((with_reducible refine aE ?_ ?_)<;>intro hc<;>try(exfalso;omega)))
  ·exact⟨.inl ⟨rfl,rfl,cX,yp⟩⟩
  ·exact⟨.inr ⟨_,_,rfl,cX,cX,cX,bu,yp⟩⟩
 |cons x t=>
  rw[hes] at hsz
  simp only[List.length_cons] at hsz
  repeat' (first|refine aQ ?_|exact aC|with_reducible refine aB ?_ ?_|(apply aA;(·exact cL))|refine aH ?_|((with_reducible refine aE ?_ ?_)<;>intro hc<;>try(exfalso;omega)))
  ·exact⟨.inr ⟨3,_,(by simp),cX,cX,cX,bu,yp⟩⟩
theorem ow {es:List AV} (hsz:es.length * 8<=140737488355328):cU Tryz.prog 119 [.im 1 .any es] [] 0 (fun r1 H1 _=>∃b d0,r1= .sl b es.length/\bt H1 b=some (.row 3 1 d0 es)):=
 (vh hsz).mono fun r H n ⟨b,d,h1,_,_,_,h2,_⟩=>⟨b,d,h1,h2⟩
theorem zV (l m:List Int) (hl:l.length * 8<=140737488351232) (hm:m.length * 8<=140737488351232):Pure Tryz.prog 121 [fE l,fE m] (fun r=>r=bl (decide (l=m))):=by
 refine aD W5 rfl ?_
 unfold fE
 repeat' (first|refine aQ ?_|exact aC|with_reducible refine aB ?_ ?_|(apply aA;(·exact cL))|refine aH ?_|((with_reducible refine aE ?_ ?_)<;>intro hc<;>try(exfalso;omega)))
 ·refine eD (Eq.symm ?_)
  exact decide_eq_false fun e=>hc (by rw[e])
 ·have hlm:l.length=m.length:=by omega
  refine aF (fun i:Nat=>[(0,fE l),(1,fE m),(12,i64 l.length),(13,i64 i)])
   (fun i H n=>i<=l.length/\∀j,j<i->l.getD j 0=m.getD j 0) (fun i=>l.length - i) 0 cC ⟨Nat.zero_le _,fun _ h=>by omega⟩ ?_
  unfold fE
  rintro i H n ⟨hi,hall⟩
  by_cases hil:i<l.length
  ·have e1:=la (l:=l) hil
   have e2:=la (l:=m) (i:=i) (by omega)
   repeat' (first|refine aQ ?_|exact aC|with_reducible refine aB ?_ ?_|(apply aA;(·(first|exact e1 _|exact e2 _|exact cL)))|refine aH ?_|((with_reducible refine aE ?_ ?_)<;>intro hc<;>try(exfalso;omega)))
   ·refine eD (Eq.symm ?_)
    exact decide_eq_false fun e=>hc (by rw[e])
   ·refine⟨i+1,by omega,cC,by omega,fun j hj=> ?_⟩
    by_cases hji:j=i
    ·subst hji;exact hc
    ·exact hall j (by omega)
  ·have:i=l.length:=by omega
   subst this
   repeat' (first|refine aQ ?_|exact aC|with_reducible refine aB ?_ ?_|(apply aA;(·exact cL))|refine aH ?_|((with_reducible refine aE ?_ ?_)<;>intro hc<;>try(exfalso;omega)))
   refine eD (Eq.symm ?_)
   refine decide_eq_true (List.ext_getElem hlm fun j h1 h2=> ?_)
   have:=hall j h1
   simpa[List.getD,h1,h2] using this
def Told (nv:AV) (l:List Int) (H:Hp) (nx:Nat):Prop:=nv=fE l\/∃b d,nv= .sl b l.length/\b<nx/\bt H b=some (.row 3 1 d (l.map i64))
theorem Told.dY {nv:AV} {l:List Int} {H:Hp} {nx:Nat} (h:Told nv l H nx) (k:Nat):cw.dY H (k+1) nv=fE l:=by
 rcases h with rfl|⟨b,d,rfl,_,hb⟩
 ·exact dA _ (by simp[cH,fE,cD])
 ·rw[dH hb (by simp),cn _ ((cD _ _).2 fun _ _=>by simp[cH])];rfl
theorem tK {nv:AV} {l:List Int} {H:Hp} {nx:Nat} (h:Told nv l H nx) (m:List Int) (hl:l.length * 8<=140737488351232) (hm:m.length * 8<=140737488351232):cU Tryz.prog 121 [fE m,nv] H nx (fun r H' n=>r=bl (decide (m=l))/\H'=H/\n=nx):=by
 refine Pure.view (args2:=[fE m,fE l]) (zV m l hm hl) ?_ (by simp[c8,cH,fE,cD]) trivial ⟨rfl,rfl,rfl⟩
 rw[List.map_cons,List.map_cons,List.map_nil,h.dY,dA 6 (by simp[cH,fE,cD])]
theorem ma {nv:AV} {l:List Int} {H:Hp} {nx:Nat} (h:Told nv l H nx) (hl:l.length * 8<=140737488351232):cU Tryz.prog 119 [nv] H nx (fun r H' n=>r=fE l/\nx<=n/\∀b,b<nx->bt H' b=bt H b):=by
 refine cU.wk (cU.TR (es:=l.map i64) (args2:=[fE l]) (ow (by rw[List.length_map];omega)) (fun i hi=>by rw[cx i64 _ _ _ (by simpa using hi)];trivial) (by rw[List.map_cons,List.map_nil,h.dY]) (by simp[c8,cH,fE,cD])) ?_
 rintro r H' n ⟨rfl,rfl,rfl⟩
 have hw:=Wk.TX (r:= .sl nx (l.map i64).length) (H:=(nx,some (.row 3 1 .any (l.map i64)))::H) (nx:=nx+1) [(nx,some (.row 3 1 .any (l.map i64)))] 1 (fun b q hq=>by
  by_cases hb:b=nx
  ·subst hb;rw[ca] at hq ⊢;exact hq
  ·rw[cN hb] at hq;cases hq)
 refine⟨_,_,_,hw, ?_,by omega,fun b hb=> ?_⟩
 ·rw[DI (ca _ _ _) rfl,qS];rfl
 ·rw[mO,wi,cN (by omega),cN (by omega)]
section
abbrev CA:=List (List Bool)
def qm (T:CA) (i k:Nat):Bool:=(T.getD i []).getD k false
def KH (T:CA) (i k:Nat):CA:=T.set i ((T.getD i []).set k true)
structure Shape (T:CA) (m n:Nat):Prop where
 len:T.length=m
 row:∀i,i<m->(T.getD i []).length=n
theorem eS {α:Type} (l:List α) (i j:Nat) (v d:α):(l.set i v).getD j d=if i=j/\i<l.length then v else l.getD j d:=by
 simp only[List.getD,List.getElem?_set]
 by_cases h:i=j
 ·subst h
  by_cases h2:i<l.length
  ·simp[h2]
  ·simp[h2]
 ·simp[h]
theorem OX {T:CA} {m n i k:Nat} (h:Shape T m n) (hi:i<m) (hk:k<n) (i' k':Nat):qm (KH T i k) i' k'=if i=i'/\k=k' then true else qm T i' k':=by
 unfold qm KH
 rw[eS]
 by_cases h1:i=i'
 ·subst h1
  rw[if_pos ⟨rfl,by rw[h.len];exact hi⟩,eS]
  by_cases h2:k=k'
  ·subst h2;rw[if_pos ⟨rfl,by rw[h.row i hi];exact hk⟩,if_pos ⟨rfl,rfl⟩]
  ·rw[if_neg (fun h=>h2 h.1),if_neg (fun h=>h2 h.2)]
 ·rw[if_neg (fun h=>h1 h.1),if_neg (fun h=>h1 h.1)]
theorem Shape.set {T:CA} {m n:Nat} (h:Shape T m n) (i k:Nat):Shape (KH T i k) m n:=by
 refine⟨by simp[KH,h.len],fun j hj=> ?_⟩
 unfold KH
 rw[eS]
 split
 ·rename_i e;rw[List.length_set,e.1];exact h.row j hj
 ·exact h.row j hj
inductive U6 (g:cG) (pz cc:Node->Nat->Bool) (k:Nat):Nat->Prop where
 |pz {i:Nat}:pz (g.nd i) k=true->U6 g pz cc k i
 |on {i:Nat} {j:Int}:cc (g.nd i) k=true->j∈(g.nd i).gh->U6 g pz cc k j.toNat->U6 g pz cc k i
def TC (T:CA) (n:Node) (k:Nat):Bool:=n.gh.any fun j=>qm T j.toNat k
theorem K4 (f:Int->Bool) (n:Node):n.fold.any f=n.gh.any f:=H8 (fun l=>l.any f) n (fun a=>by simp)
def zG (g:cG) (pz cc:Node->Nat->Bool) (T:CA) (i k:Nat):Bool:=pz (g.nd i) k||(cc (g.nd i) k&&TC T (g.nd i) k)
structure Grow (g:cG) (pz cc:Node->Nat->Bool) (n:Nat) (T:CA):Prop where
 shape:Shape T g.nodes.length n
 sound:∀i k,qm T i k=true->U6 g pz cc k i
def xR (m n:Nat):CA:=List.replicate m (List.replicate n false)
theorem FD (m n i k:Nat):qm (xR m n) i k=false:=by
 unfold qm xR
 simp only[List.getD,List.getElem?_replicate]
 by_cases h:i<m
 ·simp only[h,if_true,Option.getD_some,List.getElem?_replicate];split<;>rfl
 ·simp[h]
theorem BJ (m n:Nat):Shape (xR m n) m n:=⟨by simp[xR],fun i hi=>by simp[xR,List.getD,List.getElem?_replicate,hi]⟩
theorem Grow.start (g:cG) (pz cc:Node->Nat->Bool) (n:Nat):Grow g pz cc n (xR g.nodes.length n):=
 ⟨BJ _ _,fun i k h=>by rw[FD] at h;cases h⟩
theorem zA {T:CA} {n:Node} {k:Nat}:TC T n k=true↔∃j∈n.gh,qm T j.toNat k=true:=by
 unfold TC;rw[List.any_eq_true]
theorem Grow.step {g:cG} {pz cc:Node->Nat->Bool} {n:Nat} {T:CA} (h:Grow g pz cc n T) {i k:Nat} (hi:i<g.nodes.length) (hk:k<n) (hc:zG g pz cc T i k=true):Grow g pz cc n (KH T i k):=by
 refine⟨h.shape.set i k,fun i' k' ht=> ?_⟩
 rw[OX h.shape hi hk] at ht
 split at ht
 ·rename_i e
  obtain⟨rfl,rfl⟩:=e
  unfold zG at hc
  rw[Bool.or_eq_true,Bool.and_eq_true] at hc
  rcases hc with h1|⟨h1,h2⟩
  ·exact .pz h1
  ·obtain⟨j,hj,h3⟩:=zA.1 h2
   exact .on h1 hj (h.sound _ _ h3)
 ·exact h.sound _ _ ht
open Classical in
noncomputable def G7 (g:cG) (pz cc:Node->Nat->Bool) (n:Nat):CA:=(List.range g.nodes.length).map fun i=>(List.range n).map fun k=>decide (U6 g pz cc k i)
theorem EX (g:cG) (pz cc:Node->Nat->Bool) (n:Nat):Shape (G7 g pz cc n) g.nodes.length n:=⟨by simp[G7],fun i hi=>by simp[G7,List.getD,hi]⟩
theorem KE (g:cG) (pz cc:Node->Nat->Bool) (n:Nat) {i k:Nat} (hi:i<g.nodes.length) (hk:k<n):qm (G7 g pz cc n) i k=true↔U6 g pz cc k i:=by
 simp[qm,G7,List.getD,hi,hk]
theorem RP {T S:CA} {m n:Nat} (hT:Shape T m n) (hS:Shape S m n) (h:∀i k,i<m->k<n->qm T i k=qm S i k):T=S:=by
 apply List.ext_getElem (hT.len.trans hS.len.symm)
 intro i h1 h2
 have hi:i<m:=by rw[<-hT.len];exact h1
 have e1:T.getD i []=T[i]:=by simp[List.getD,h1]
 have e2:S.getD i []=S[i]:=by simp[List.getD,h2]
 rw[<-e1,<-e2]
 apply List.ext_getElem ((hT.row i hi).trans (hS.row i hi).symm)
 intro k h3 h4
 have:=h i k hi (by rw[<-hT.row i hi];exact h3)
 unfold qm at this
 have g:∀(l:List Bool) (h:k<l.length),l[k]=l.getD k false:=fun l h=>by simp[List.getD,h]
 rw[g _ h3,g _ h4]
 exact this
theorem Grow.fin {g:cG} {pz cc:Node->Nat->Bool} {n:Nat} {T:CA} (hw:Whole g) (h:Grow g pz cc n T) (hc:∀i k,i<g.nodes.length->k<n->zG g pz cc T i k=true->qm T i k=true):T=G7 g pz cc n:=by
 refine RP h.shape (EX _ _ _ _) fun i k hi hk=> ?_
 rw[Bool.eq_iff_iff,KE g pz cc n hi hk]
 refine⟨h.sound i k,fun ha=> ?_⟩
 induction ha with
 |pz hb=>exact hc _ _ hi hk (by unfold zG;rw[hb];rfl)
 |@on i j hkp hj _ ih=>
  have hj2:=(hw.2.2 i hi).2.2 j hj
  have:=ih hj2.2
  refine hc _ _ hi hk ?_
  unfold zG
  rw[hkp,zA.2 ⟨j,hj,this⟩]
  simp
structure xS where
 kind:Int
 cr:Int
 lock:Int
 deriving Inhabited,DecidableEq
def xS.cells (c:xS):List AV:=[u8 c.kind,i64 c.cr,i64 c.lock]
abbrev xS.av (c:xS):AV:= .agg c.cells
end
structure HTo (now:List Int) (l:List Int) (s s':HS):Prop where
 lg:s'.cB.length=s.cB.length
 oi:s'.found.length=s.found.length
 iB:∀k:Int,s.f k=true->s'.f k=true/\s'.l k=s.l k
 new:∀k:Int,0<=k->s'.f k=true->s.f k=true\/k∈l
 all:∀k∈l,s'.f k=true/\s'.l k=now
 bare:∀k:Int,0<=k->s'.f k=false->s'.l k=s.l k
 more:∃t,s'.todo=s.todo++t/\(∀k∈t,k∈l/\s'.f k=true)/\(∀k:Int,0<=k->s'.f k=true->s.f k=true\/k∈t)/\s'.found.count false+t.length=s.found.count false
theorem HS.wX {s:HS} {i:Nat} {L:List (List Int)} {td:List Int} (h:i<s.found.length) (k:Int):HS.f ⟨L,s.found.set i true,td⟩ k=if k.toNat=i then true else s.f k:=mM h k
theorem HS.SG {s:HS} {i:Nat} {now:List Int} {F:List Bool} {td:List Int} (h:i<s.cB.length) (k:Int):HS.l ⟨s.cB.set i now,F,td⟩ k=if k.toNat=i then now else s.l k:=by
 unfold HS.l
 simp only
 rw[eS]
 by_cases e:i=k.toNat
 ·rw[if_pos ⟨e,h⟩,if_pos e.symm]
 ·rw[if_neg (fun x=>e x.1),if_neg (fun x=>e x.symm)]
theorem pT (now:List Int):∀(l:List Int) (s s':HS),s.cB.length=s.found.length->(∀k∈l,0<=k/\k.toNat<s.found.length)->dQ now l s= .inl s'->HTo now l s s'
 |[],s,s',_,_,h=>by
  rw[dQ] at h;cases h
  exact⟨rfl,rfl,fun _ h=>⟨h,rfl⟩,fun _ _ h=> .inl h,fun _ h=>by simp at h,fun _ _ _=>rfl,[],by simp,fun _ h=>by simp at h,fun _ _ h=> .inl h,by simp⟩
 |k::r,s,s',hl,hr,h=>by
  obtain⟨hk0,hk⟩:=hr k (by simp)
  have hr2:=fun x hx=>hr x (List.mem_cons_of_mem _ hx)
  rw[dQ] at h
  by_cases hf:s.f k=false
  ·rw[if_pos hf] at h
   have ih:=pT now r _ s' (by simp[hl]) (fun x hx=>by simpa using hr2 x hx) h
   have fs:=fun x=>HS.wX (s:=s) (i:=k.toNat) (L:=s.cB.set k.toNat now) (td:=s.todo++[k]) hk x
   have ls:=fun x=>HS.SG (s:=s) (i:=k.toNat) (now:=now) (F:=s.found.set k.toNat true) (td:=s.todo++[k]) (by rw[hl];exact hk) x
   obtain⟨t,t1,t2,t3,t4⟩:=ih.more
   have hkk:=ih.iB k (by rw[fs,if_pos rfl])
   refine⟨ih.lg.trans (by simp),ih.oi.trans (by simp),fun x hx=> ?_,fun x hx0 hx=> ?_,fun x hx=> ?_,fun x hx0 hx=> ?_,k::t,by rw[t1];simp,fun x hx=> ?_,fun x hx0 hx=> ?_, ?_⟩
   ·have hne:x.toNat≠k.toNat:=fun e=>by unfold HS.f at hx hf;rw[e] at hx;rw[hx] at hf;cases hf
    have:=ih.iB x (by rw[fs,if_neg hne];exact hx)
    rw[ls,if_neg hne] at this
    exact this
   ·rcases ih.new x hx0 hx with h2|h2
    ·rw[fs] at h2
     split at h2
     ·rename_i e;exact .inr (by rw[show x=k by omega];simp)
     ·exact .inl h2
    ·exact .inr (List.mem_cons_of_mem _ h2)
   ·rcases List.mem_cons.1 hx with rfl|hx
    ·rw[ls,if_pos rfl] at hkk;exact hkk
    ·exact ih.all x hx
   ·have hne:x.toNat≠k.toNat:=fun e=>by
     have:=hkk.1
     rw[show k=x by omega,hx] at this;cases this
    have:=ih.bare x hx0 hx
    rw[ls,if_neg hne] at this
    exact this
   ·rcases List.mem_cons.1 hx with rfl|hx
    ·exact⟨by simp,hkk.1⟩
    ·exact⟨List.mem_cons_of_mem _ (t2 x hx).1,(t2 x hx).2⟩
   ·rcases t3 x hx0 hx with h2|h2
    ·rw[fs] at h2
     split at h2
     ·rename_i e;exact .inr (by rw[show x=k by omega];simp)
     ·exact .inl h2
    ·exact .inr (List.mem_cons_of_mem _ h2)
   ·have:=count_set hk hf
    rw[List.length_cons]
    dsimp only at t4
    omega
  ·rw[if_neg hf] at h
   have hkt:s.f k=true:=by simpa using hf
   by_cases hn:s.l k=now
   ·rw[if_pos hn] at h
    have ih:=pT now r s s' hl hr2 h
    obtain⟨t,t1,t2,t3,t4⟩:=ih.more
    refine⟨ih.lg,ih.oi,ih.iB,fun x hx0 hx=>(ih.new x hx0 hx).imp id (List.mem_cons_of_mem _),fun x hx=> ?_,ih.bare,t,t1,fun x hx=>⟨List.mem_cons_of_mem _ (t2 x hx).1,(t2 x hx).2⟩,t3,t4⟩
    rcases List.mem_cons.1 hx with rfl|hx
    ·have:=ih.iB _ hkt;rw[hn] at this;exact this
    ·exact ih.all x hx
   ·rw[if_neg hn] at h;cases h
structure HI (g:cG) (s:HS) (k:Nat):Prop where
 lg:s.cB.length=g.nodes.length
 oi:s.found.length=g.nodes.length
 zero:s.f 0=true
 first:s.l 0=[]
 qD:∀i:Int,0<=i->s.f i=true->nB g (-1) i
 bare:∀i:Int,0<=i->s.f i=false->s.l i=[]
 inr:∀i∈s.todo,0<=i/\i.toNat<g.nodes.length/\s.f i=true
 all:∀i:Int,0<=i->s.f i=true->i∈s.todo
 done:∀j,j<k->j<s.todo.length->∃now,dM (g.nd (s.todo.getD j 0).toNat) (s.l (s.todo.getD j 0))=some now/\∀to∈(g.nd (s.todo.getD j 0).toNat).gh,s.f to=true/\s.l to=now
 count:s.todo.length+s.found.count false=g.nodes.length
theorem HI.start {g:cG} (h:Whole g):HI g (sS g) 0:=by
 have hl:=h.1
 have hf:∀k,HS.f (sS g) k=decide (k.toNat=0):=fun k=>by
  have:=mM (l:=List.replicate g.nodes.length false) (i:=0) (by simp;omega) k
  unfold HS.f sS
  simp only
  unfold lN at this
  rw[this]
  by_cases e:k.toNat=0
  ·simp[e]
  ·rw[if_neg e,decide_eq_false e]
   simp only[List.getD,List.getElem?_replicate];split<;>rfl
 have hk:∀k,HS.l (sS g) k=[]:=fun k=>by
  unfold HS.l sS;simp only[List.getD,List.getElem?_replicate];split<;>rfl
 refine⟨by simp[sS],by simp[sS],by rw[hf];simp,hk 0,fun i h0 hi=> ?_,fun i _ _=>hk i,fun i hi=> ?_,fun i h0 hi=> ?_,fun j hj=>by omega, ?_⟩
 ·rw[hf] at hi
  rw[show i=0 by have:=of_decide_eq_true hi;omega];exact .zero
 ·simp only[sS,List.mem_cons,List.not_mem_nil,or_false] at hi
  subst hi
  exact⟨by omega,by simp;omega,by rw[hf];simp⟩
 ·rw[hf] at hi
  rw[show i=0 by have:=of_decide_eq_true hi;omega];simp[sS]
 ·have:=count_set (l:=List.replicate g.nodes.length false) (i:=0) (by simp;omega) (by simp[List.getD,List.getElem?_replicate];split<;>rfl)
  simp only[List.count_replicate_self] at this
  simp only[sS,List.length_cons,List.length_nil]
  omega
theorem HI.next {g:cG} (hw:Whole g) {s s':HS} {k:Nat} (h:HI g s k) (hk:k<s.todo.length) {now:List Int} (hn:dM (g.nd (s.todo.getD k 0).toNat) (s.l (s.todo.getD k 0))=some now) (ht:dQ now (g.nd (s.todo.getD k 0).toNat).gh s= .inl s'):HI g s' (k+1):=by
 have hm:=cO (0:Int) hk
 obtain⟨i1,i2,i3⟩:=h.inr _ hm
 have hfol:=(hw.2.2 _ i2).2.2
 have sp:=pT now _ s s' (by rw[h.lg,h.oi]) (fun x hx=>by rw[h.oi];exact hfol x hx) ht
 obtain⟨t,t1,t2,t3,t4⟩:=sp.more
 have hget:∀j,j<s.todo.length->s'.todo.getD j 0=s.todo.getD j 0:=fun j hj=>by
  rw[t1];simp[List.getD,List.getElem?_append,hj]
 refine⟨sp.lg.trans h.lg,sp.oi.trans h.oi,(sp.iB 0 h.zero).1,(sp.iB 0 h.zero).2.trans h.first,fun i h0 hi=> ?_,fun i h0 hi=> ?_,fun i hi=> ?_,fun i h0 hi=> ?_,fun j hj hjl=> ?_, ?_⟩
 ·rcases sp.new i h0 hi with h1|h1
  ·exact h.qD i h0 h1
  ·exact .step (h.qD _ i1 i3) (by omega) h1
 ·rw[sp.bare i h0 hi]
  refine h.bare i h0 ?_
  cases hq:s.f i with
  |false=>rfl
  |true=>rw[(sp.iB i hq).1] at hi;cases hi
 ·rw[t1] at hi
  rcases List.mem_append.1 hi with hi|hi
  ·obtain⟨a,b,c⟩:=h.inr i hi
   exact⟨a,b,(sp.iB i c).1⟩
  ·have:=hfol i (t2 i hi).1
   exact⟨this.1,this.2,(t2 i hi).2⟩
 ·rw[t1]
  rcases t3 i h0 hi with h1|h1
  ·exact List.mem_append_left _ (h.all i h0 h1)
  ·exact List.mem_append_right _ h1
 ·by_cases hjk:j=k
  ·subst hjk
   rw[hget _ hk]
   refine⟨now, ?_,sp.all⟩
   rw[(sp.iB _ i3).2]
   exact hn
  ·have hj2:j<s.todo.length:=by omega
   rw[hget _ hj2]
   obtain⟨now2,d1,d2⟩:=h.done j (by omega) hj2
   have hjm:=h.inr _ (cO (0:Int) hj2)
   refine⟨now2,by rw[(sp.iB _ hjm.2.2).2];exact d1,fun to hto=> ?_⟩
   obtain⟨e1,e2⟩:=d2 to hto
   rw[(sp.iB _ e1).2]
   exact⟨(sp.iB _ e1).1,e2⟩
 ·have:=h.count
  rw[t1,List.length_append]
  omega
structure PD (g:cG) (lk:Nat->List Int):Prop where
 zero:lk 0=[]
 on:∀i:Int,nB g (-1) i->∃now,dM (g.nd i.toNat) (lk i.toNat)=some now/\∀k∈(g.nd i.toNat).gh,lk k.toNat=now
theorem HI.fin {g:cG} {s:HS} {k:Nat} (hw:Whole g) (h:HI g s k) (hk:s.todo.length<=k):PD g (fun i=>s.cB.getD i [])/\∀i,i<g.nodes.length->(s.found.getD i false=true↔nB g (-1) i):=by
 have hall:∀i:Int,nB g (-1) i->0<=i/\s.f i=true:=fun i hi=>by
  induction hi with
  |zero=>exact⟨by omega,h.zero⟩
  |@step i j hi _ hj ih=>
   obtain⟨i0,hif⟩:=ih
   have hm:=h.all i i0 hif
   obtain⟨q,hq,e⟩:=List.getElem_of_mem hm
   have e2:s.todo.getD q 0=i:=by simp[List.getD,hq,e]
   obtain⟨now,_,d⟩:=h.done q (by omega) hq
   rw[e2] at d
   have h2:=(hw.2.2 i.toNat (h.inr i hm).2.1).2.2 j hj
   exact⟨h2.1,(d j hj).1⟩
 refine⟨⟨h.first,fun i hi=> ?_⟩,fun i hi=>⟨fun hf=>h.qD i (by omega) hf,fun hc=>(hall i hc).2⟩⟩
 obtain⟨i0,hif⟩:=hall i hi
 have hm:=h.all i i0 hif
 obtain⟨q,hq,e⟩:=List.getElem_of_mem hm
 have e2:s.todo.getD q 0=i:=by simp[List.getD,hq,e]
 obtain⟨now,d1,d⟩:=h.done q (by omega) hq
 rw[e2] at d1 d
 exact⟨now,d1,fun k hk=>(d k hk).2⟩
theorem uX {g:cG} (hw:Whole g):∀(f:Nat) (s:HS) (k:Nat),HI g s k->k+f=g.nodes.length+1->(fq g f s k).2<0->(fq g f s k).2=-1/\∃s' k',HI g s' k'/\s'.todo.length<=k'/\(fq g f s k).1=s'.cB
 |0,s,k,h,he,_=>by
  have:=h.count
  exact⟨rfl,s,k,h,by omega,rfl⟩
 |f+1,s,k,h,he,hneg=>by
  rw[fq] at hneg ⊢
  by_cases hk:k<s.todo.length
  ·rw[if_pos hk] at hneg ⊢
   have hm:=(h.inr _ (cO (0:Int) hk))
   cases hn:dM (g.nd (s.todo.getD k 0).toNat) (s.l (s.todo.getD k 0)) with
   |none=>rw[hn] at hneg;simp only at hneg;omega
   |some now=>
    rw[hn] at hneg
    simp only at hneg ⊢
    cases ht:dQ now (g.nd (s.todo.getD k 0).toNat).gh s with
    |inl s'=>
     rw[ht] at hneg
     exact uX hw f s' (k+1) (h.next hw hk hn ht) (by omega) hneg
    |inr a=>
     rw[ht] at hneg
     simp only at hneg
     exfalso
     have hfol:=(hw.2.2 _ hm.2.1).2.2
     have:∀(l:List Int) (s:HS),(∀x∈l,0<=x)->dQ now l s= .inr a->0<=a:=by
      intro l
      induction l with
      |nil=>intro s _ h;rw[dQ] at h;cases h
      |cons x r ih=>
       intro s hx h
       rw[dQ] at h
       split at h
       ·exact ih _ (fun y hy=>hx y (List.mem_cons_of_mem _ hy)) h
       ·split at h
        ·exact ih _ (fun y hy=>hx y (List.mem_cons_of_mem _ hy)) h
        ·cases h;exact hx _ (by simp)
     have:=this _ _ (fun x hx=>(hfol x hx).1) ht
     omega
  ·rw[if_neg hk]
   exact⟨rfl,s,k,h,by omega,rfl⟩
theorem l7 {g:cG} (hw:Whole g) (h:(eK g).2<0):(eK g).2=-1/\(eK g).1.length=g.nodes.length/\PD g (fun i=>(eK g).1.getD i [])/\∀i,i<g.nodes.length->¬nB g (-1) i->(eK g).1.getD i []=[]:=by
 obtain⟨h1,s,k,hi,hk,e⟩:=uX hw _ _ _ (HI.start hw) (by omega) h
 refine⟨h1, ?_, ?_,fun i hl hc=> ?_⟩
 ·unfold eK;rw[e];exact hi.lg
 ·unfold eK;rw[e];exact(hi.fin hw hk).1
 ·unfold eK;rw[e]
  have hf:=mt ((hi.fin hw hk).2 i hl).1 hc
  have:=hi.bare i (by omega) (by simpa[HS.f] using hf)
  exact this
theorem kJ {n:Node} {k:Int}:k∈n.fold↔k∈n.gh:=by
 have:=K4 (fun j=>decide (j=k)) n
 rw[Bool.eq_iff_iff,List.any_eq_true,List.any_eq_true] at this
 constructor
 ·intro h;obtain⟨x,h1,h2⟩:=this.1 ⟨k,h,by simp⟩;rw[<-of_decide_eq_true h2];exact h1
 ·intro h;obtain⟨x,h1,h2⟩:=this.2 ⟨k,h,by simp⟩;rw[<-of_decide_eq_true h2];exact h1
theorem uN (n:Node):n.fold.length<=2:=by unfold Node.fold;split<;>(try split)<;>simp
theorem QC (n:Node):n.gh.length<=2:=by unfold Node.gh;split<;>(try split)<;>simp
theorem gd {α:Type} {l:List α} {q:Nat} (h:q<l.length) (d:α):l.getD q d=l[q]:=by simp[List.getD,h]
theorem L9 (n:Nat) (l:List Int):c8 n (l.map i64):=(cD _ _).2 fun _ _=>by simp[cH]
theorem HW (n:Nat) (l:List Bool):c8 n (l.map bl):=(cD _ _).2 fun _ _=>by simp[cH]
theorem gm {l:List Node} {i:Nat} (h:i<l.length) (d:AV):(l.map Node.av).getD ((i:Int).toNat) d=(l.getD i default).av:=by
 rw[Int.toNat_natCast];exact cx Node.av l i d h
theorem nV {l:List cG} {i:Nat} (h:i<l.length) (d:AV):(l.map cG.av).getD ((i:Int).toNat) d=(l.getD i default).av:=by
 rw[Int.toNat_natCast];exact cx cG.av l i d h
theorem jP {l:List Int} {i:Nat} (h:i<l.length) (d:AV):(l.map i64).getD ((i:Int).toNat) d=i64 (l.getD i 0):=by
 rw[Int.toNat_natCast];exact cx i64 l i d h
theorem vW (g:cG) (hg:g.Wf):Pure Tryz.prog 198 [g.av] (fun r=>r=bl (mf g)):=by
 have hl:=hg.len
 refine aD YA rfl ?_
 repeat' (first|refine aQ ?_|exact eh|with_reducible refine aB ?_ ?_|((with_reducible refine Ask.mk ?_);first|exact dJ|exact cj|(intro h;simp_all[cG.cells]<;>fail)|(simp_all[cG.cells]<;>fail))|(apply aA;(·exact cL))|refine aH ?_|((with_reducible refine aE ?_ ?_)<;>intro hc<;>try(exfalso;omega)))
 ·refine eD (Eq.symm ?_)
  unfold mf
  by_cases h1:1<=g.nodes.length
  ·rw[decide_eq_false (show ¬g.nodes.length<=4096 by omega)];simp
  ·rw[decide_eq_false h1];simp
 ·simp only[List.length_map]
  refine aF (fun i:Nat=>[(1, .pt 0 1 0 0),(18,jh g.nodes),(19,i64 g.nodes.length),(20,i64 i)])
   (fun i H n=>i<=g.nodes.length/\16<=n/\(∃d,bt H 0=some (.row 60 4 d [g.av]))/\∀j,j<i->vM g.nodes.length (g.nd j)=true) (fun i=>g.nodes.length - i) 0 cC ⟨Nat.zero_le _,cX,⟨_,bu⟩,fun _ h=>by omega⟩ ?_
  rintro i H n ⟨hi,hn,⟨d0,r0⟩,hall⟩
  by_cases hil:i<g.nodes.length
  ·have hbad:vM g.nodes.length (g.nd i)=false->mf g=false:=fun h=>by
    unfold mf
    rw[Bool.and_eq_false_iff]
    right
    rw[Bool.eq_false_iff,ne_eq,List.all_eq_true]
    intro hA
    have:=hA _ (cO default hil)
    rw[show g.nodes.getD i default=g.nd i from rfl,h] at this;cases this
   have hf:=mN (g.nd i)
   have h2:=uN (g.nd i)
   unfold fE at hf
   repeat' (first|refine aQ ?_|exact eh|with_reducible refine aB ?_ ?_|((with_reducible refine Ask.mk ?_);first|exact dJ|exact cj|(intro h;simp_all[cG.cells,Node.cells]<;>fail)|(simp_all[cG.cells,Node.cells]<;>fail))|(apply aA;(·(first|exact gm hil _|exact cL)))|refine aK (hf) ?_|refine aH ?_|((with_reducible refine aE ?_ ?_)<;>intro hc<;>try(exfalso;omega)))
   ·refine eD (Eq.symm (hbad ?_))
    unfold vM
    have hc:(g.nd i).kind=0\/10<=(g.nd i).kind:=hc
    by_cases h1:(g.nd i).kind<10
    ·rw[decide_eq_false (show ¬1<=(g.nd i).kind by omega)];simp
    ·rw[decide_eq_false h1];simp
   ·have hk0:0<=(g.nd i).kind:=(hg.nodes _ (cO default hil)).kind.1
    have hkk:¬(g.nd i).kind=0/\(g.nd i).kind<10:=hc
    clear hf
    simp only[List.length_map]
    refine aF (fun j:Nat=>[(1, .pt 0 1 0 0),(4, .pt (n+3) 1 0 0),(18,jh g.nodes),(19,i64 g.nodes.length),(20,i64 i),(33,fE (g.nd i).fold),(34,i64 (g.nd i).fold.length),(35,i64 j)])
     (fun j H2 n2=>j<=(g.nd i).fold.length/\n+4<=n2/\(∃d,bt H2 0=some (.row 60 4 d [g.av]))/\∀q,q<j->0<=(g.nd i).fold.getD q 0/\(g.nd i).fold.getD q 0<g.nodes.length) (fun j=>(g.nd i).fold.length - j) 0 cC ⟨Nat.zero_le _,cX,⟨_,bu⟩,fun _ h=>by omega⟩ ?_
    clear r0
    rintro j H2 n2 ⟨hj,hn2,⟨d02,r02⟩,hq⟩
    unfold fE
    by_cases hjl:j<(g.nd i).fold.length
    ·repeat' (first|refine aQ ?_|exact eh|with_reducible refine aB ?_ ?_|((with_reducible refine Ask.mk ?_);first|exact dJ|exact cj|(intro h;simp_all[cG.cells]<;>fail)|(simp_all[cG.cells]<;>fail))|(apply aA;(·(first|exact jP hjl _|exact cL)))|refine aH ?_|((with_reducible refine aE ?_ ?_)<;>intro hc<;>try(exfalso;omega)))
     ·refine eD (Eq.symm (hbad ?_))
      unfold vM
      rw[Bool.and_eq_false_iff]
      right
      rw[Bool.eq_false_iff,ne_eq,List.all_eq_true]
      intro hA
      have:=hA _ (kJ.1 (cO 0 hjl))
      simp only[Bool.and_eq_true,decide_eq_true_eq] at this
      omega
     ·refine⟨j+1,by omega,cC,by omega,by omega,⟨_,bu⟩,fun q hq2=> ?_⟩
      by_cases e:q=j
      ·rw[e];omega
      ·exact hq q (by omega)
    ·have:j=(g.nd i).fold.length:=by omega
     subst this
     repeat' (first|refine aQ ?_|exact aC|with_reducible refine aB ?_ ?_|(apply aA;(·exact cL))|refine aH ?_|((with_reducible refine aE ?_ ?_)<;>intro hc<;>try(exfalso;omega)))
     refine⟨i+1,by omega,cC,by omega,by omega,⟨_,bu⟩,fun j hj=> ?_⟩
     by_cases e:j=i
     ·rw[e]
      unfold vM
      rw[decide_eq_true (show 1<=(g.nd i).kind by omega),decide_eq_true hkk.2]
      simp only[Bool.true_and]
      rw[List.all_eq_true]
      intro k hk
      obtain⟨q,hq1,e⟩:=List.getElem_of_mem (kJ.2 hk)
      have:=hq q hq1
      rw[gd hq1,e] at this
      simp[this.1,this.2]
     ·exact hall j (by omega)
  ·have:i=g.nodes.length:=by omega
   subst this
   repeat' (first|refine aQ ?_|exact aC|with_reducible refine aB ?_ ?_|(apply aA;(·exact cL))|refine aH ?_|((with_reducible refine aE ?_ ?_)<;>intro hc<;>try(exfalso;omega)))
   refine eD (Eq.symm ?_)
   unfold mf
   rw[decide_eq_true (show 1<=g.nodes.length by omega),decide_eq_true (show g.nodes.length<=4096 by omega)]
   simp only[Bool.true_and]
   rw[List.all_eq_true]
   intro m hm
   obtain⟨q,hq1,rfl⟩:=List.getElem_of_mem hm
   have:=hall q hq1
   rw[show g.nd q=g.nodes[q] by simp[List.getD,hq1]] at this
   exact this
theorem yM (g:cG) (hg:g.Wf) (hw:mf g=true) (hs:Pure Tryz.prog 199 [g.av,i64 (-1)] (fun r=>r=F9 (gS g (-1)))):Pure Tryz.prog 166 [g.av] (fun r=>r=F9 (gS g (-1))):=by
 refine aD XY rfl ?_
 have h1:=vW g hg
 rw[hw] at h1
 repeat' (first|refine aQ ?_|exact eh|with_reducible refine aB ?_ ?_|((with_reducible refine Ask.mk ?_);first|exact dJ|exact cj|(intro h;simp_all[cG.cells]<;>fail)|(simp_all[cG.cells]<;>fail))|(apply aA;(·exact cL))|refine aK (h1) ?_|refine aK (hs) ?_|refine aH ?_|((with_reducible refine aE ?_ ?_)<;>intro hc<;>try(exfalso;omega)))
 exact PF.eq (by simp[cH,F9,cD]) rfl
end Go.Proofs.YtjopoheligmmoaaGreatDoor
