import Derived.Test.YtekfmjjmihomlaaGreatDoorM23
import Derived.Test.YtekfmjjmihomlaaGreatDoorM24
namespace Go.Proofs.YtekfmjjmihomlaaGreatDoor
open Go Go.cw Go.Proofs
set_option linter.unusedSimpArgs false
set_option linter.unusedVariables false
theorem wq {f:FuncId} {args:List AV} {u:AV} (hu:cF 0 u) (h:(xF TT 30 f args [] 0).map (fun q=>dj q.2.1 6 q.1)=some u):Pure Tryz.prog f args (fun r=>r=u):=by
 simp only[Option.map_eq_some_iff] at h
 obtain⟨⟨r,H',nx'⟩,h1,h2⟩:=h
 simp only at h2
 have h0:=pJ Z1 30 _ _ _ _ _ _ _ h1
 have h3:=cQ.pure (H':=H') (h0.mono fun r H n ⟨h1,h2,_⟩=>⟨h1,h2⟩) (by rw[h2];exact hu)
 exact h3.mono fun r hr=>by rw[hr,h2]
theorem fe (op:Int) (h0:0<=op):Pure Tryz.prog 95 [u8 op] (fun r=>r=bl (dY op)):=by
 refine aD O3 rfl ?_
 repeat' (first|refine aQ ?_|exact aC|with_reducible refine aB ?_ ?_|(apply aA;(·exact bz))|((with_reducible refine aO (gK _) ?_ ?_);(·exact cH))|((with_reducible refine aN (fun _=>gK _) ?_ ?_);(·exact cH))|((with_reducible refine aL (gK _) ?_ ?_);(·exact cH))|((with_reducible refine aM (fun _=>gK _) ?_ ?_);(·exact cH))|refine aH ?_|((with_reducible refine aE ?_ ?_)<;>intro hc<;>try(exfalso;omega)))
 refine dZ ?_
 unfold dY
 by_cases h1:0<op<;>by_cases h2:op<19<;>by_cases h3:op=17<;>by_cases h4:op=18<;>simp[h1,h2,h3,h4]<;>omega
def mask (k op:Int):Int:=if k=1 then(if dY op=true then 59 else 43) else if k=2 then 38 else if k=3 then 44 else if k=4 then 46 else if k=5 then 36 else if k=6 then 36 else if k=7 then 40 else if k=8 then 104 else 0
set_option maxRecDepth 100000 in
theorem EN (n:Node) (hn:n.Wf) (h:1<=n.kind/\n.kind<10):Pure Tryz.prog 98 [n.av] (fun r=>r=u8 (mask n.kind n.op)):=by
 obtain⟨h0,h1⟩:=h
 have ho:=hn.op.1
 obtain⟨kind,op,slot,cB,a,b,next,iu,origin⟩:=n
 simp only at h0 h1 ho
 have hk:kind=1\/kind=2\/kind=3\/kind=4\/kind=5\/kind=6\/kind=7\/kind=8\/kind=9:=by omega
 rcases hk with rfl|rfl|rfl|rfl|rfl|rfl|rfl|rfl|rfl
 ·refine aD JL rfl ?_
  repeat' (first|refine aQ ?_|exact aC|with_reducible refine aB ?_ ?_|(apply aA;(·exact bz))|((with_reducible refine aO (fe _ ho) ?_ ?_);(·exact cH))|((with_reducible refine aN (fun _=>fe _ ho) ?_ ?_);(·exact cH))|((with_reducible refine aL (fe _ ho) ?_ ?_);(·exact cH))|((with_reducible refine aM (fun _=>fe _ ho) ?_ ?_);(·exact cH))|refine aH ?_|((with_reducible refine aE ?_ ?_)<;>intro hc<;>try(exfalso;omega)))
  all_goals
   cases ht:dY op with
   |true=>
    rw[ht] at hc
    first|(exact absurd rfl hc)|(exact absurd hc (by decide))|(simp only[show mask 1 op=59 by simp[mask,ht]];try kernel_rfl)
   |false=>
    rw[ht] at hc
    first|(exact absurd rfl hc)|(exact absurd hc (by decide))|(simp only[show mask 1 op=43 by simp[mask,ht]];try kernel_rfl)
 iterate 8
  refine dO ?_ (by simp[cF])
  refine aJ JL rfl ?_
  refine cz ?_
  exact⟨rfl⟩
theorem kq.default_eq:(default:kq)=⟨false,0,0⟩:=rfl
def jT (m u:Int):Int:=IntKind.u8.wrap (BitVec.ofInt IntKind.u8.bits m&&& BitVec.ofInt IntKind.u8.bits u).toNat
theorem sI (k u most m:Int) (b:Nat) (H:Hp) (nx:Nat) (e:TypeId) (d:AV) (hb:bo H b=some (.row e 1 d [u8 m])):kU Tryz.prog 99 [i64 k,u8 u,i64 most, .pt b 1 0 0] H nx (bl (rC k (decide (jT m u≠0)) most)):=by
 refine aV O6 rfl ?_
 repeat' (first|refine aQ ?_|exact aC|with_reducible refine aB ?_ ?_|(apply aA;(·exact bz))|refine aH ?_|((with_reducible refine aE ?_ ?_)<;>intro hc<;>try(exfalso;omega)))
 refine sK.look ?_ kB
 simp only[show IntKind.u8.wrap (BitVec.ofInt IntKind.u8.bits m&&& BitVec.ofInt IntKind.u8.bits u).toNat=jT m u from rfl,rC]
 by_cases h1:jT m u=0<;>by_cases h2:k=0<;>by_cases h3:0<=k<;>by_cases h4:k<most<;>simp[h1,h2,h3,h4]
theorem vC (v:kq) (u m:Int) (g:bu) (b c:Nat) (H:Hp) (nx:Nat) (e e2:TypeId) (d d2:AV) (hb:bo H b=some (.row e 1 d [u8 m])) (hc:bo H c=some (.row e2 4 d2 [g.av])) (hbn:b<nx) (hcn:c<nx):kU Tryz.prog 100 [v.av,u8 u, .pt b 1 0 0, .pt c 1 0 0] H nx (bl (sU v (decide (jT m u≠0)) g.bw)):=by
 refine aV zh rfl ?_
 repeat' (first|refine aQ ?_|exact dR|with_reducible refine aB ?_ ?_|((with_reducible refine Ask.mk ?_);first|exact cW|exact cJ|(intro h;simp_all[kq.cells,bu.cells]<;>fail)|(simp_all[kq.cells,bu.cells]<;>fail))|(apply aA;(·exact bz))|refine aH ?_|((with_reducible refine aE ?_ ?_)<;>intro hc<;>try(exfalso;omega)))
 all_goals refine sK.look ?_ kB
 all_goals simp only[show IntKind.u8.wrap (BitVec.ofInt IntKind.u8.bits m&&& BitVec.ofInt IntKind.u8.bits u).toNat=jT m u from rfl] at *
 all_goals unfold sU
 ·rw[if_neg (show ¬decide (jT m u≠0)=true by simp[hc])]
  obtain⟨is,sl,wo⟩:=v
  refine dZ ?_
  rw[Bool.eq_iff_iff]
  simp[kq.default_eq,and_assoc]
 ·rename_i h0
  rw[decide_eq_true hc,if_pos rfl,if_pos h0]
  refine dZ ?_
  by_cases h1:0<=v.slot<;>by_cases h2:v.slot<g.bw<;>simp[h1,h2]
 ·rename_i h0
  rw[decide_eq_true hc,if_pos rfl,if_neg (by rw[h0];decide)]
theorem JP (k op:Int) (h:1<=k/\k<10):(jT (mask k op) 1=0↔¬k=1)/\(decide (jT (mask k op) 2≠0)=gQ k)/\(decide (jT (mask k op) 4≠0)=fD k)/\(decide (jT (mask k op) 8≠0)=oT k)/\(decide (jT (mask k op) 16≠0)=(decide (k=1)&&dY op))/\(decide (jT (mask k op) 32≠0)=fK k)/\(decide (jT (mask k op) 64≠0)=decide (k=8)):=by
 have hk:k=1\/k=2\/k=3\/k=4\/k=5\/k=6\/k=7\/k=8\/k=9:=by omega
 rcases hk with rfl|rfl|rfl|rfl|rfl|rfl|rfl|rfl|rfl
 ·cases ht:dY op with
  |false=>rw[show mask 1 op=43 by simp[mask,ht]];decide
  |true=>rw[show mask 1 op=59 by simp[mask,ht]];decide
 ·rw[show mask 2 op=38 by rfl,show(decide ((2:Int)=1)&&dY op)=false by rfl];decide
 ·rw[show mask 3 op=44 by rfl,show(decide ((3:Int)=1)&&dY op)=false by rfl];decide
 ·rw[show mask 4 op=46 by rfl,show(decide ((4:Int)=1)&&dY op)=false by rfl];decide
 ·rw[show mask 5 op=36 by rfl,show(decide ((5:Int)=1)&&dY op)=false by rfl];decide
 ·rw[show mask 6 op=36 by rfl,show(decide ((6:Int)=1)&&dY op)=false by rfl];decide
 ·rw[show mask 7 op=40 by rfl,show(decide ((7:Int)=1)&&dY op)=false by rfl];decide
 ·rw[show mask 8 op=104 by rfl,show(decide ((8:Int)=1)&&dY op)=false by rfl];decide
 ·rw[show mask 9 op=0 by rfl,show(decide ((9:Int)=1)&&dY op)=false by rfl];decide
set_option maxRecDepth 4000 in
set_option maxHeartbeats 2000000 in
theorem EY (u:bq) (g:bu) (n:Node) (hn:n.Wf):Pure Tryz.prog 60 [u.av,g.av,n.av] (fun r=>r=bl (nB u g n)):=by
 refine aD OK rfl ?_
 have h0:=hn.kind.1
 have ho:=hn.op.1
 by_cases hk:1<=n.kind/\n.kind<10/\0<=n.origin/\n.origin<4096
 ·have hp:=EN n hn ⟨hk.1,hk.2.1⟩
  obtain⟨m1,m2,m3,m4,m5,m6,m7⟩:=JP n.kind n.op ⟨hk.1,hk.2.1⟩
  repeat' (first|refine aQ ?_|exact dR|with_reducible refine aB ?_ ?_|((with_reducible refine Ask.mk ?_);first|exact cW|exact cJ|(intro h;simp_all[bq.cells,bu.cells,Node.cells]<;>fail)|(simp_all[bq.cells,bu.cells,Node.cells]<;>fail))|(apply aA;(·exact bz))|refine aK (hp) ?_|((refine aS (sI _ _ _ _ _ _ _ _ _ (by exact rfl)) ?_ ?_);(·exact True.intro))|((refine aR (fun _=>sI _ _ _ _ _ _ _ _ _ (by exact rfl)) ?_ ?_);(·exact True.intro))|((refine aS (vC ⟨_,_,_⟩ _ _ _ _ _ _ _ _ _ _ _ (by exact rfl) (by exact rfl) cU cU) ?_ ?_);(·exact True.intro))|((refine aR (fun _=>vC ⟨_,_,_⟩ _ _ _ _ _ _ _ _ _ _ _ (by exact rfl) (by exact rfl) cU cU) ?_ ?_);(·exact True.intro))|refine aH ?_|((with_reducible refine aE ?_ ?_)<;>intro hc<;>try(exfalso;omega)))
  all_goals
   have hop:rC (IntKind.i64.wrap n.op) (decide (jT (mask n.kind n.op) 1≠0)) 19=(if n.kind=1 then decide (n.op<19) else decide (n.op=0)):=by
    have h2:=hn.op.2
    rw[wrap64 (by omega) (by omega)]
    unfold rC
    by_cases h1:n.kind=1
    ·rw[if_pos h1,if_pos (show decide (jT (mask n.kind n.op) 1≠0)=true by rw[decide_eq_true_eq];exact fun h=>m1.1 h h1),decide_eq_true ho,Bool.true_and]
    ·rw[if_neg h1,if_neg (show ¬decide (jT (mask n.kind n.op) 1≠0)=true by rw[decide_eq_true_eq];exact fun h=>h (m1.2 h1))]
   refine dZ ?_
   rw[hop,m2,m3,m4,m5,m6,m7]
   unfold nB
   rw[decide_eq_true hk,Bool.true_and]
   simp only[hc,if_true,if_false,or_self,Bool.if_false_right,Bool.decide_eq_true,Bool.and_assoc]
   simp only[List.length_map]
   generalize rC n.slot (gQ n.kind) g.bw=x1
   have ea:(⟨n.a.ee,n.a.slot,n.a.word⟩:kq)=n.a:=rfl
   have eb:(⟨n.b.ee,n.b.slot,n.b.word⟩:kq)=n.b:=rfl
   rw[ea,eb]
   generalize sU n.a (oT n.kind) g.bw=x2
   generalize sU n.b (decide (n.kind=1)&&dY n.op) g.bw=x3
   generalize rC n.next (fK n.kind) g.nodes.length=x4
   generalize rC n.iu (decide (n.kind=8)) g.nodes.length=x5
   revert x1 x2 x3 x4 x5
   intro x1 x2 x3 x4 x5
   cases x1<;>cases x2<;>cases x3<;>cases x4<;>cases x5<;>simp
 ·have hb:nB u g n=false:=by unfold nB;rw[decide_eq_false hk];simp
  rw[hb]
  repeat' (first|refine aQ ?_|exact dR|with_reducible refine aB ?_ ?_|((with_reducible refine Ask.mk ?_);first|exact cW|exact cJ|(intro h;simp_all[bq.cells,bu.cells,Node.cells]<;>fail)|(simp_all[bq.cells,bu.cells,Node.cells]<;>fail))|(apply aA;(·exact bz))|refine aH ?_|((with_reducible refine aE ?_ ?_)<;>intro hc<;>try(exfalso;omega)))
  exact rfl
def jh (c:Int):Bool:=decide (48<=c)&&decide (c<=57)
def ni (c:Int):Bool:=decide (97<=c)&&decide (c<=122)||decide (65<=c)&&decide (c<=90)||decide (c=95)
def Q0:List ByteArray:=[⟨(List.toArray [115,104,97,114,101,100])⟩,⟨(List.toArray [108,111,99,107])⟩,⟨(List.toArray [116,104,114,101,97,100])⟩,⟨(List.toArray [108,111,99,97,108])⟩,⟨(List.toArray [105,102])⟩,⟨(List.toArray [101,108,115,101])⟩,⟨(List.toArray [119,104,105,108,101])⟩,⟨(List.toArray [112,114,105,110,116])⟩,⟨(List.toArray [115,107,105,112])⟩,⟨(List.toArray [115,119,97,112])⟩]
def xD (s:ByteArray):Bool:=Q0.any (s==·)
theorem eX (c:Int):Pure Tryz.prog 125 [u8 c] (fun r=>r=bl (ni c)):=by
 refine aD AA rfl ?_
 repeat' (first|refine aQ ?_|exact aC|with_reducible refine aB ?_ ?_|(apply aA;(·exact bz))|refine aH ?_|((with_reducible refine aE ?_ ?_)<;>intro hc<;>try(exfalso;omega)))
 refine dZ ?_
 unfold ni
 by_cases h1:97<=c<;>by_cases h2:c<=122<;>by_cases h3:65<=c<;>by_cases h4:c<=90<;>by_cases h5:c=95<;>simp[h1,h2,h3,h4,h5]
theorem iH (s:ByteArray):Pure Tryz.prog 124 [st s] (fun r=>r=bl (xD s)):=by
 refine aD zy rfl ?_
 repeat' (first|refine aQ ?_|exact aC|with_reducible refine aB ?_ ?_|(apply aA;(·exact bz))|refine aH ?_|((with_reducible refine aE ?_ ?_)<;>intro hc<;>try(exfalso;omega)))
 all_goals refine dZ ?_
 all_goals simp_all[xD,Q0]
def hX (s:ByteArray) (i:Nat):Int:=(s.data.toList.getD i 0).toNat
def mO (s:ByteArray):Bool:=decide (1<=s.size)&&decide (s.size<=32)&& !jh (hX s 0)&& !xD s&&(List.range s.size).all fun i=>ni (hX s i)||jh (hX s i)
theorem TR (s:ByteArray):(s==(⟨#[]⟩:ByteArray))=decide (s.size=0):=by
 obtain⟨d⟩:=s
 show(d==#[])=_
 rw[Bool.eq_iff_iff]
 show(d==#[])=true↔decide (d.size=0)=true
 simp
theorem JR (s:ByteArray) (hs:s.size<=140737488351232):Pure Tryz.prog 97 [st s] (fun r=>r=bl (mO s)):=by
 refine aD O5 rfl ?_
 have e0:=TR s
 by_cases hz:s.size=0
 ·have e1:(s==(⟨#[]⟩:ByteArray))=true:=by rw[e0,decide_eq_true hz]
  have hb:mO s=false:=by unfold mO;rw[decide_eq_false (by omega)];simp
  rw[hb]
  repeat' (first|refine aQ ?_|exact dR|with_reducible refine aB ?_ ?_|((with_reducible refine Ask.mk ?_);first|exact cW|((refine Ask.mk ?_);intro h;simp_all)|exact cJ)|(apply aA;(·exact bz))|((with_reducible refine aO (ew _) ?_ ?_);(·exact cH))|((with_reducible refine aN (fun _=>ew _) ?_ ?_);(·exact cH))|((with_reducible refine aL (ew _) ?_ ?_);(·exact cH))|((with_reducible refine aM (fun _=>ew _) ?_ ?_);(·exact cH))|((with_reducible refine aO (iH _) ?_ ?_);(·exact cH))|((with_reducible refine aN (fun _=>iH _) ?_ ?_);(·exact cH))|((with_reducible refine aL (iH _) ?_ ?_);(·exact cH))|((with_reducible refine aM (fun _=>iH _) ?_ ?_);(·exact cH))|((with_reducible refine aO (eX _) ?_ ?_);(·exact cH))|((with_reducible refine aN (fun _=>eX _) ?_ ?_);(·exact cH))|((with_reducible refine aL (eX _) ?_ ?_);(·exact cH))|((with_reducible refine aM (fun _=>eX _) ?_ ?_);(·exact cH))|(simp only[e1])|refine aH ?_|((with_reducible refine aE ?_ ?_)<;>intro hc<;>try(exfalso;omega)))
  all_goals first|exact rfl|(exfalso;simp_all)
 ·have e1:(s==(⟨#[]⟩:ByteArray))=false:=by rw[e0,decide_eq_false hz]
  repeat' (first|refine aQ ?_|exact dR|with_reducible refine aB ?_ ?_|((with_reducible refine Ask.mk ?_);first|exact cW|((refine Ask.mk ?_);intro h;exact⟨by omega,by omega⟩)|exact cJ)|(apply aA;(·exact bz))|((with_reducible refine aO (ew _) ?_ ?_);(·exact cH))|((with_reducible refine aN (fun _=>ew _) ?_ ?_);(·exact cH))|((with_reducible refine aL (ew _) ?_ ?_);(·exact cH))|((with_reducible refine aM (fun _=>ew _) ?_ ?_);(·exact cH))|((with_reducible refine aO (iH _) ?_ ?_);(·exact cH))|((with_reducible refine aN (fun _=>iH _) ?_ ?_);(·exact cH))|((with_reducible refine aL (iH _) ?_ ?_);(·exact cH))|((with_reducible refine aM (fun _=>iH _) ?_ ?_);(·exact cH))|((with_reducible refine aO (eX _) ?_ ?_);(·exact cH))|((with_reducible refine aN (fun _=>eX _) ?_ ?_);(·exact cH))|((with_reducible refine aL (eX _) ?_ ?_);(·exact cH))|((with_reducible refine aM (fun _=>eX _) ?_ ?_);(·exact cH))|(simp only[e1])|refine aH ?_|((with_reducible refine aE ?_ ?_)<;>intro hc<;>try(exfalso;omega)))
  ·refine dZ (Eq.symm ?_)
   unfold mO
   have hp:(decide (1<=s.size)&&decide (s.size<=32)&& !jh (hX s 0)&& !xD s)=false:=by
    rcases hc with((h|h)|h)|h
    ·exact absurd h (by decide)
    ·simp[show ¬s.size<=32 by omega]
    ·have h:48<=hX s 0/\hX s 0<=57:=h
     simp[jh,h.1,h.2]
    ·simp[h]
   rw[hp,Bool.false_and]
  ·have hp:(decide (1<=s.size)&&decide (s.size<=32)&& !jh (hX s 0)&& !xD s)=true:=by
    obtain⟨h1,h2⟩:=hc
    have h3:¬(48<=hX s 0/\hX s 0<=57):=fun h=>h1 (.inr h)
    have h4:s.size<=32:=by
     have:¬(32:Int)<s.size:=fun h=>h1 (.inl (.inr h))
     omega
    have h5:jh (hX s 0)=false:=by
     unfold jh
     by_cases h:48<=hX s 0
     ·rw[decide_eq_true h,decide_eq_false (fun h'=>h3 ⟨h,h'⟩)];rfl
     ·rw[decide_eq_false h];rfl
    rw[decide_eq_true (by omega:1<=s.size),decide_eq_true h4,h5,h2];rfl
   have hb:∀R,(decide (1<=s.size)&&decide (s.size<=32)&& !jh (hX s 0)&& !xD s&&R)=R:=fun R=>by rw[hp,Bool.true_and]
   unfold mO
   rw[hb]
   clear hc hp hb e1 e0
   refine aI (fun i:Nat=>[(0,st s),(21,i64 s.size),(22,i64 i)]) (fun i H n=>i<=s.size/\∀j,j<i->(ni (hX s j)||jh (hX s j))=true) (fun i=>s.size - i) 0 cG ⟨Nat.zero_le _,fun _ h=>by omega⟩ ?_
   rintro i H n ⟨hi,hall⟩
   by_cases his:i<s.size
   ·repeat' (first|refine aQ ?_|exact dR|with_reducible refine aB ?_ ?_|((with_reducible refine Ask.mk ?_);first|exact cW|((refine Ask.mk ?_);intro h;exact⟨by omega,by omega⟩)|exact cJ)|(apply aA;(·exact bz))|((with_reducible refine aO (ew _) ?_ ?_);(·exact cH))|((with_reducible refine aN (fun _=>ew _) ?_ ?_);(·exact cH))|((with_reducible refine aL (ew _) ?_ ?_);(·exact cH))|((with_reducible refine aM (fun _=>ew _) ?_ ?_);(·exact cH))|((with_reducible refine aO (eX _) ?_ ?_);(·exact cH))|((with_reducible refine aN (fun _=>eX _) ?_ ?_);(·exact cH))|((with_reducible refine aL (eX _) ?_ ?_);(·exact cH))|((with_reducible refine aM (fun _=>eX _) ?_ ?_);(·exact cH))|refine aH ?_|((with_reducible refine aE ?_ ?_)<;>intro hc<;>try(exfalso;omega)))
    ·refine dZ (Eq.symm ?_)
     rw[Bool.eq_false_iff,ne_eq,List.all_eq_true]
     intro hA
     have h1:=hA i (List.mem_range.2 his)
     have hc:ni (hX s i)=false/\(hX s i<48\/57<hX s i):=hc
     rw[hc.1,Bool.false_or] at h1
     simp only[jh,Bool.and_eq_true,decide_eq_true_eq] at h1
     omega
    ·refine⟨i+1,by omega,cG,by omega,fun j hj=> ?_⟩
     by_cases hji:j=i
     ·have hc:¬ni (hX s i)=false\/(48<=hX s i/\hX s i<=57):=hc
      rw[hji]
      rcases hc with h|h
      ·rw[Bool.not_eq_false] at h
       rw[h,Bool.true_or]
      ·simp[jh,h.1,h.2]
     ·exact hall j (by omega)
   ·have:i=s.size:=by omega
    subst this
    repeat' (first|refine aQ ?_|exact aC|with_reducible refine aB ?_ ?_|(apply aA;(·exact bz))|refine aH ?_|((with_reducible refine aE ?_ ?_)<;>intro hc<;>try(exfalso;omega)))
    refine dZ (Eq.symm ?_)
    rw[List.all_eq_true]
    intro j hj
    exact hall j (List.mem_range.1 hj)
abbrev BG (E:List (ByteArray×Bool)):List AV:=lu (fun s:ByteArray=>Value.string s) bl E
theorem ZC (E:List (ByteArray×Bool)) (t:ByteArray):qB true (.string t) (BG E) (bl false)=some (bl ((cm E t).getD false),(cm E t).isSome):=(uU xo bl t E (bl false)).trans (by cases cm E t<;>rfl)
theorem ZJ (E:List (ByteArray×Bool)) (t:ByteArray) (v:Bool):sO true (.string t) (BG E) (bl v)=some (BG (gA E t v)):=uV xo bl t v E
def nL (l:List ByteArray):List (ByteArray×Bool):=l.map fun s=>(s,true)
def jx:List ByteArray->ByteArray->Bool
 |[],_=>false
 |a::l,s=>if s=a then true else jx l s
theorem J9 (l:List ByteArray) (s:ByteArray):(cm (nL l) s).getD false=jx l s:=by
 induction l with
 |nil=>rfl
 |cons a l ih=>
  show((if s=a then some true else cm (nL l) s)).getD false=(if s=a then true else jx l s)
  by_cases h:s=a
  ·rw[if_pos h,if_pos h];rfl
  ·rw[if_neg h,if_neg h,ih]
theorem QA (l:List ByteArray) (s:ByteArray) (h:jx l s=false):gA (nL l) s true=nL (l++[s]):=by
 induction l with
 |nil=>rfl
 |cons a l ih=>
  rw[jx] at h
  by_cases e:s=a
  ·rw[if_pos e] at h;cases h
  ·rw[if_neg e] at h
   show(if s=a then(s,true)::nL l else(a,true)::gA (nL l) s true)=_
   rw[if_neg e,ih h];rfl
theorem tB (s:ByteArray) (hs:s.size<=140737488351232) (l:List ByteArray) (b m:Nat) (H:Hp) (nx:Nat) (e em:TypeId) (d dm:AV) (hb:bo H b=some (.row e 1 d [.mp m])) (hm:bo H m=some (.row em 0 dm (mapA (BG (nL l))))) (hbn:b<nx) (hmn:m<nx) (hbm:b≠m):
 cQ Tryz.prog 96 [st s, .pt b 1 0 0] H nx (fun r H' n=>r=bl (mO s&& !jx l s)/\nx<=n/\(jx l s=false->bo H' m=some (.row em 0 dm (mapA (BG (nL (l++[s]))))))/\∀y,y<nx->y≠m->bo H' y=bo H y):=by
 refine aJ O4 rfl ?_
 repeat' (first|refine aQ ?_|exact aC|with_reducible refine aB ?_ ?_|(apply aA;(·exact bz))|refine aK (JR s hs) ?_|(apply aF (g:=some _);(·exact fun _=>ZC _ _))|(apply aF (g:=none);(·exact fun _=>ZJ _ _ _))|refine aH ?_|((with_reducible refine aE ?_ ?_)<;>intro hc<;>try(exfalso;omega)))
 refine⟨⟨?_,cU,fun h=> ?_,fun y hy hym=> ?_⟩⟩
 ·rw[J9]
  refine dZ ?_
  cases mO s<;>cases jx l s<;>rfl
 ·rw[<-QA l s h]
  exact bt
 ·exact bx
def iK:List ByteArray->List ByteArray->Bool
 |_,[]=>true
 |acc,s::r=>if(mO s&& !jx acc s)=true then iK (acc++[s]) r else false
def ch (u:bq):List ByteArray:=u.shared.map Decl.name++(u.cE.map Decl.name++u.br.map bu.name)
def fw (u:bq):Bool:=decide (u.shared.length<=64)&&decide (u.cE.length<=16)&&decide (u.br.length<=8)&&iK [] (ch u)&&u.cE.all (fun d=>decide (d.word=0))
theorem mZ (u:bq) {k:Nat} (hk:k<(ch u).length) (h:iK ((ch u).take k) ((ch u).drop k)=iK [] (ch u)) {s:ByteArray} (hs:(ch u).getD k default=s):
 (iK [] (ch u)=if(mO s&& !jx ((ch u).take k) s)=true then iK ((ch u).take (k+1)) ((ch u).drop (k+1)) else false)/\(ch u).take (k+1)=(ch u).take k++[s]:=by
 have e:(ch u)[k]=s:=by rw[<-hs];simp[List.getD,hk]
 have e2:(ch u).take (k+1)=(ch u).take k++[s]:=by rw[List.take_succ_eq_append_getElem hk,e]
 refine⟨?_,e2⟩
 rw[<-h,List.drop_eq_getElem_cons hk,iK,e,e2]
theorem SY (u:bq) {i:Nat} (h:i<u.shared.length):(ch u).getD i default=(u.shared.getD i default).name:=by
 simp[ch,List.getD,List.getElem?_append,h]
theorem SX (u:bq) {i:Nat} (h:i<u.cE.length):(ch u).getD (u.shared.length+i) default=(u.cE.getD i default).name:=by
 unfold ch
 rw[List.getD,List.getElem?_append_right (by simp),List.length_map,Nat.add_sub_cancel_left,List.getElem?_append_left (by simpa using h)]
 simp[List.getD,h]
theorem SV (u:bq) {i:Nat} (h:i<u.br.length):(ch u).getD (u.shared.length+u.cE.length+i) default=(u.br.getD i default).name:=by
 unfold ch
 rw[List.getD,List.getElem?_append_right (by simp;omega),List.getElem?_append_right (by simp;omega)]
 simp only[List.length_map]
 rw[show u.shared.length+u.cE.length+i - u.shared.length - u.cE.length=i by omega]
 simp[List.getD,h]
set_option maxHeartbeats 4000000 in
theorem EB (u:bq) (hu:u.Wf):Pure Tryz.prog 59 [u.av] (fun r=>r=bl (fw u)):=by
 refine aD OJ rfl ?_
 have h1:=hu.jb
 have h2:=hu.lL
 have h3:=hu.nf
 by_cases hl:u.shared.length<=64/\u.cE.length<=16/\u.br.length<=8
 ·repeat' (first|refine aQ ?_|exact dR|with_reducible refine aB ?_ ?_|((with_reducible refine Ask.mk ?_);first|exact cW|exact cJ|(intro h;simp_all[bq.cells]<;>fail)|(simp_all[bq.cells]<;>fail))|(apply aA;(·exact bz))|refine aH ?_|((with_reducible refine aE ?_ ?_)<;>intro hc<;>try(exfalso;omega)))
  clear hc
  simp only[List.length_map]
  refine aI (fun i:Nat=>[(1, .pt 0 1 0 0),(4, .fn (.func 96) [] [.pt 19 1 0 0]),(30,cg u.shared),(31,i64 u.shared.length),(32,i64 i)]) (fun i H n=>i<=u.shared.length/\20<=n/\(∃d,bo H 0=some (.row 25 3 d [u.av]))/\(∃d,bo H 19=some (.row 182 1 d [.mp 18]))/\(∃d,bo H 18=some (.row 9 0 d (mapA (BG (nL ((ch u).take (i)))))))/\iK ((ch u).take (i)) ((ch u).drop (i))=iK [] (ch u)) (fun i=>u.shared.length - i) 0 cG ⟨Nat.zero_le _,cU,⟨_,bt⟩,⟨_,bt⟩,⟨_,bt⟩,rfl⟩ ?_
  rintro i H n ⟨hi,hn,⟨d0,r0⟩,⟨d19,r19⟩,⟨d18,r18⟩,hq⟩
  by_cases hil:i<u.shared.length
  ·have hk:i<(ch u).length:=by simp only[ch,List.length_append,List.length_map];omega
   have hs:(ch u).getD (i) default=(u.shared.getD i default).name:=SY u hil
   obtain⟨ha,ht⟩:=mZ u hk hq hs
   have hsz:=(hu.shared _ (cR default hil)).name
   repeat' (first|refine aQ ?_|exact dR|with_reducible refine aB ?_ ?_|((with_reducible refine Ask.mk ?_);first|exact cW|exact cJ|(intro h;simp_all[bq.cells,Decl.cells]<;>fail)|(simp_all[bq.cells,Decl.cells]<;>fail))|(apply aA;(·(first|exact LX|exact bz)))|refine aH ?_|((with_reducible refine aE ?_ ?_)<;>intro hc<;>try(exfalso;omega)))
   refine aG (tB _ hsz ((ch u).take (i)) 19 18 _ _ _ _ _ _ bt bt cU cU (by decide)) ?_
   rintro _ H2 n2 ⟨rfl,hn2,hput,hf⟩
   have hn12:n<=n2:=Nat.le_trans cU hn2
   have r02:bo H2 0=some (.row 25 3 d0 [u.av]):=(hf 0 (Nat.lt_of_lt_of_le (by omega:0<n) cU) (by decide)).trans bt
   have r192:bo H2 19=some (.row 182 1 d19 [.mp 18]):=(hf 19 (Nat.lt_of_lt_of_le (by omega:19<n) cU) (by decide)).trans bt
   cases hg:(mO (u.shared.getD i default).name&& !jx ((ch u).take (i)) (u.shared.getD i default).name) with
   |false=>
    rw[hg,if_neg (by decide)] at ha
    have hb:fw u=false:=by unfold fw;rw[ha];simp
    rw[hb]
    repeat' (first|refine aQ ?_|exact dR|with_reducible refine aB ?_ ?_|((with_reducible refine Ask.mk ?_);first|exact cW|exact cJ|(intro h;simp_all[bq.cells,Decl.cells]<;>fail)|(simp_all[bq.cells,Decl.cells]<;>fail))|(apply aA;(·exact bz))|refine aH ?_|((with_reducible refine aE ?_ ?_)<;>intro hc<;>try(exfalso;omega)))
    exact rfl
   |true=>
    rw[hg,if_pos rfl] at ha
    have hnm:jx ((ch u).take (i)) (u.shared.getD i default).name=false:=by revert hg;cases jx ((ch u).take (i)) (u.shared.getD i default).name<;>simp
    have r182:=hput hnm
    rw[<-ht] at r182
    clear hf hput
    repeat' (first|refine aQ ?_|exact dR|with_reducible refine aB ?_ ?_|((with_reducible refine Ask.mk ?_);first|exact cW|exact cJ|(intro h;simp_all[bq.cells,Decl.cells]<;>fail)|(simp_all[bq.cells,Decl.cells]<;>fail))|(apply aA;(·exact bz))|refine aH ?_|((with_reducible refine aE ?_ ?_)<;>intro hc<;>try(exfalso;omega)))
    exact⟨i+1,by omega,cG,by omega,by omega,⟨_,bt⟩,⟨_,bt⟩,⟨_,bt⟩,ha.symm⟩
  ·have hie:i=u.shared.length:=by omega
   subst hie
   repeat' (first|refine aQ ?_|exact dR|with_reducible refine aB ?_ ?_|((with_reducible refine Ask.mk ?_);first|exact cW|exact cJ|(intro h;simp_all[bq.cells]<;>fail)|(simp_all[bq.cells]<;>fail))|(apply aA;(·exact bz))|refine aH ?_|((with_reducible refine aE ?_ ?_)<;>intro hc<;>try(exfalso;omega)))
   refine aI (fun i:Nat=>[(1, .pt 0 1 0 0),(4, .fn (.func 96) [] [.pt 19 1 0 0]),(43,cg u.cE),(44,i64 u.cE.length),(45,i64 i)]) (fun i H n=>i<=u.cE.length/\20<=n/\(∃d,bo H 0=some (.row 25 3 d [u.av]))/\(∃d,bo H 19=some (.row 182 1 d [.mp 18]))/\(∃d,bo H 18=some (.row 9 0 d (mapA (BG (nL ((ch u).take (u.shared.length+i)))))))/\iK ((ch u).take (u.shared.length+i)) ((ch u).drop (u.shared.length+i))=iK [] (ch u)/\∀j,j<i->(u.cE.getD j default).word=0) (fun i=>u.cE.length - i) 0 cG ⟨Nat.zero_le _,cU,⟨_,bt⟩,⟨_,bt⟩,⟨_,by rw[Nat.add_zero];exact bt⟩,by rw[Nat.add_zero];exact hq,fun _ h=>by omega⟩ ?_
   clear r0 r19 r18 hq hc
   rintro i H n ⟨hi,hn,⟨d0,r0⟩,⟨d19,r19⟩,⟨d18,r18⟩,hq,hw⟩
   by_cases hil:i<u.cE.length
   ·have hk:u.shared.length+i<(ch u).length:=by simp only[ch,List.length_append,List.length_map];omega
    have hs:(ch u).getD (u.shared.length+i) default=(u.cE.getD i default).name:=SX u hil
    obtain⟨ha,ht⟩:=mZ u hk hq hs
    have hsz:=(hu.cE _ (cR default hil)).name
    repeat' (first|refine aQ ?_|exact dR|with_reducible refine aB ?_ ?_|((with_reducible refine Ask.mk ?_);first|exact cW|exact cJ|(intro h;simp_all[bq.cells,Decl.cells]<;>fail)|(simp_all[bq.cells,Decl.cells]<;>fail))|(apply aA;(·(first|exact LX|exact bz)))|refine aH ?_|((with_reducible refine aE ?_ ?_)<;>intro hc<;>try(exfalso;omega)))
    refine aG (tB _ hsz ((ch u).take (u.shared.length+i)) 19 18 _ _ _ _ _ _ bt bt cU cU (by decide)) ?_
    rintro _ H2 n2 ⟨rfl,hn2,hput,hf⟩
    have hn12:n<=n2:=Nat.le_trans cU hn2
    have r02:bo H2 0=some (.row 25 3 d0 [u.av]):=(hf 0 (Nat.lt_of_lt_of_le (by omega:0<n) cU) (by decide)).trans bt
    have r192:bo H2 19=some (.row 182 1 d19 [.mp 18]):=(hf 19 (Nat.lt_of_lt_of_le (by omega:19<n) cU) (by decide)).trans bt
    cases hg:(mO (u.cE.getD i default).name&& !jx ((ch u).take (u.shared.length+i)) (u.cE.getD i default).name) with
    |false=>
     rw[hg,if_neg (by decide)] at ha
     have hb:fw u=false:=by unfold fw;rw[ha];simp
     rw[hb]
     clear hf hput
     repeat' (first|refine aQ ?_|exact dR|with_reducible refine aB ?_ ?_|((with_reducible refine Ask.mk ?_);first|exact cW|exact cJ|(intro h;simp_all[bq.cells,Decl.cells]<;>fail)|(simp_all[bq.cells,Decl.cells]<;>fail))|(apply aA;(·exact bz))|refine aH ?_|((with_reducible refine aE ?_ ?_)<;>intro hc<;>try(exfalso;omega)))
     exact rfl
    |true=>
     rw[hg,if_pos rfl] at ha
     have hnm:jx ((ch u).take (u.shared.length+i)) (u.cE.getD i default).name=false:=by revert hg;cases jx ((ch u).take (u.shared.length+i)) (u.cE.getD i default).name<;>simp
     have r182:=hput hnm
     rw[<-ht] at r182
     obtain⟨d4,r4⟩:∃d,bo H2 (n+3)=some (.row 79 3 d [(u.cE.getD i default).av]):=⟨_,(hf (n+3) cU (by omega)).trans bt⟩
     clear hf hput
     repeat' (first|refine aQ ?_|exact dR|with_reducible refine aB ?_ ?_|((with_reducible refine Ask.mk ?_);first|exact cW|exact cJ|(intro h;simp_all[bq.cells,Decl.cells]<;>fail)|(simp_all[bq.cells,Decl.cells]<;>fail))|(apply aA;(·exact bz))|refine aH ?_|((with_reducible refine aE ?_ ?_)<;>intro hc<;>try(exfalso;omega)))
     ·have hb:fw u=false:=by
       unfold fw
       rw[Bool.and_eq_false_iff]
       right
       rw[Bool.eq_false_iff,ne_eq,List.all_eq_true]
       exact fun h=>(hc.resolve_left (by decide)) (of_decide_eq_true (h _ (cR default hil)))
      rw[hb]
     ·exact⟨i+1,by omega,cG,by omega,by omega,⟨_,bt⟩,⟨_,bt⟩,⟨_,bt⟩,ha.symm,fun j hj=>by
       by_cases hji:j=i
       ·rw[hji];exact hc.2
       ·exact hw j (by omega)⟩
   ·have hie:i=u.cE.length:=by omega
    subst hie
    repeat' (first|refine aQ ?_|exact dR|with_reducible refine aB ?_ ?_|((with_reducible refine Ask.mk ?_);first|exact cW|exact cJ|(intro h;simp_all[bq.cells]<;>fail)|(simp_all[bq.cells]<;>fail))|(apply aA;(·exact bz))|refine aH ?_|((with_reducible refine aE ?_ ?_)<;>intro hc<;>try(exfalso;omega)))
    refine aI (fun i:Nat=>[(1, .pt 0 1 0 0),(4, .fn (.func 96) [] [.pt 19 1 0 0]),(61,dS u.br),(62,i64 u.br.length),(63,i64 i)]) (fun i H n=>i<=u.br.length/\20<=n/\(∃d,bo H 0=some (.row 25 3 d [u.av]))/\(∃d,bo H 19=some (.row 182 1 d [.mp 18]))/\(∃d,bo H 18=some (.row 9 0 d (mapA (BG (nL ((ch u).take (u.shared.length+u.cE.length+i)))))))/\iK ((ch u).take (u.shared.length+u.cE.length+i)) ((ch u).drop (u.shared.length+u.cE.length+i))=iK [] (ch u)/\∀j,j<u.cE.length->(u.cE.getD j default).word=0) (fun i=>u.br.length - i) 0 cG ⟨Nat.zero_le _,cU,⟨_,bt⟩,⟨_,bt⟩,⟨_,by rw[Nat.add_zero];exact bt⟩,by rw[Nat.add_zero];exact hq,hw⟩ ?_
    clear r0 r19 r18 hq hc hw
    rintro i H n ⟨hi,hn,⟨d0,r0⟩,⟨d19,r19⟩,⟨d18,r18⟩,hq,hw⟩
    by_cases hil:i<u.br.length
    ·have hk:u.shared.length+u.cE.length+i<(ch u).length:=by simp only[ch,List.length_append,List.length_map];omega
     have hs:(ch u).getD (u.shared.length+u.cE.length+i) default=(u.br.getD i default).name:=SV u hil
     obtain⟨ha,ht⟩:=mZ u hk hq hs
     have hsz:=(hu.br _ (cR default hil)).name
     repeat' (first|refine aQ ?_|exact dR|with_reducible refine aB ?_ ?_|((with_reducible refine Ask.mk ?_);first|exact cW|exact cJ|(intro h;simp_all[bq.cells,bu.cells]<;>fail)|(simp_all[bq.cells,bu.cells]<;>fail))|(apply aA;(·(first|exact VN|exact bz)))|refine aH ?_|((with_reducible refine aE ?_ ?_)<;>intro hc<;>try(exfalso;omega)))
     refine aG (tB _ hsz ((ch u).take (u.shared.length+u.cE.length+i)) 19 18 _ _ _ _ _ _ bt bt cU cU (by decide)) ?_
     rintro _ H2 n2 ⟨rfl,hn2,hput,hf⟩
     have hn12:n<=n2:=Nat.le_trans cU hn2
     have r02:bo H2 0=some (.row 25 3 d0 [u.av]):=(hf 0 (Nat.lt_of_lt_of_le (by omega:0<n) cU) (by decide)).trans bt
     have r192:bo H2 19=some (.row 182 1 d19 [.mp 18]):=(hf 19 (Nat.lt_of_lt_of_le (by omega:19<n) cU) (by decide)).trans bt
     cases hg:(mO (u.br.getD i default).name&& !jx ((ch u).take (u.shared.length+u.cE.length+i)) (u.br.getD i default).name) with
     |false=>
      rw[hg,if_neg (by decide)] at ha
      have hb:fw u=false:=by unfold fw;rw[ha];simp
      rw[hb]
      repeat' (first|refine aQ ?_|exact dR|with_reducible refine aB ?_ ?_|((with_reducible refine Ask.mk ?_);first|exact cW|exact cJ|(intro h;simp_all[bq.cells,bu.cells]<;>fail)|(simp_all[bq.cells,bu.cells]<;>fail))|(apply aA;(·exact bz))|refine aH ?_|((with_reducible refine aE ?_ ?_)<;>intro hc<;>try(exfalso;omega)))
      exact rfl
     |true=>
      rw[hg,if_pos rfl] at ha
      have hnm:jx ((ch u).take (u.shared.length+u.cE.length+i)) (u.br.getD i default).name=false:=by revert hg;cases jx ((ch u).take (u.shared.length+u.cE.length+i)) (u.br.getD i default).name<;>simp
      have r182:=hput hnm
      rw[<-ht] at r182
      clear hf hput
      repeat' (first|refine aQ ?_|exact dR|with_reducible refine aB ?_ ?_|((with_reducible refine Ask.mk ?_);first|exact cW|exact cJ|(intro h;simp_all[bq.cells,bu.cells]<;>fail)|(simp_all[bq.cells,bu.cells]<;>fail))|(apply aA;(·exact bz))|refine aH ?_|((with_reducible refine aE ?_ ?_)<;>intro hc<;>try(exfalso;omega)))
      exact⟨i+1,by omega,cG,by omega,by omega,⟨_,bt⟩,⟨_,bt⟩,⟨_,bt⟩,ha.symm,hw⟩
    ·have hie:i=u.br.length:=by omega
     subst hie
     repeat' (first|refine aQ ?_|exact dR|with_reducible refine aB ?_ ?_|((with_reducible refine Ask.mk ?_);first|exact cW|exact cJ|(intro h;simp_all[bq.cells]<;>fail)|(simp_all[bq.cells]<;>fail))|(apply aA;(·exact bz))|refine aH ?_|((with_reducible refine aE ?_ ?_)<;>intro hc<;>try(exfalso;omega)))
     refine dZ (Eq.symm ?_)
     have e:u.shared.length+u.cE.length+u.br.length=(ch u).length:=by simp only[ch,List.length_append,List.length_map];omega
     have hall:iK [] (ch u)=true:=by
      rw[<-hq,e,List.drop_eq_nil_of_le (Nat.le_refl _)]
      cases(ch u).take (ch u).length<;>rfl
     unfold fw
     rw[decide_eq_true hl.1,decide_eq_true hl.2.1,decide_eq_true hl.2.2,hall]
     simp only[Bool.true_and]
     rw[List.all_eq_true]
     intro d hd
     obtain⟨j,hj,rfl⟩:=List.getElem_of_mem hd
     have:=hw j hj
     rw[show u.cE.getD j default=u.cE[j] by simp[List.getD,hj]] at this
     exact decide_eq_true this
 ·have hb:fw u=false:=by
   unfold fw
   by_cases a1:u.shared.length<=64
   ·by_cases a2:u.cE.length<=16
    ·rw[decide_eq_false (fun a3=>hl ⟨a1,a2,a3⟩:¬u.br.length<=8)];simp
    ·rw[decide_eq_false a2];simp
   ·rw[decide_eq_false a1];simp
  rw[hb]
  repeat' (first|refine aQ ?_|exact dR|with_reducible refine aB ?_ ?_|((with_reducible refine Ask.mk ?_);first|exact cW|exact cJ|(intro h;simp_all[bq.cells]<;>fail)|(simp_all[bq.cells]<;>fail))|(apply aA;(·exact bz))|refine aH ?_|((with_reducible refine aE ?_ ?_)<;>intro hc<;>try(exfalso;omega)))
  exact rfl
section
def jP (u:bq):Int×Int×Int:=if fw u=true then ft u u.br 0 else(60,0,0)
structure mW (u:bq) (g:bu) (n:Node):Prop where
 kind:1<=n.kind/\n.kind<10
 origin:0<=n.origin/\n.origin<4096
 op:(n.kind=1->n.op<19)/\(n.kind≠1->n.op=0)
 slot:(gQ n.kind=true->0<=n.slot/\n.slot<g.bw)/\(gQ n.kind=false->n.slot=0)
 cB:(fD n.kind=true->0<=n.cB/\n.cB<(if n.kind=5\/n.kind=6 then u.cE.length else u.shared.length:Nat))/\(fD n.kind=false->n.cB=0)
 a:sU n.a (oT n.kind) g.bw=true
 b:sU n.b (decide (n.kind=1)&&dY n.op) g.bw=true
 next:(fK n.kind=true->0<=n.next/\n.next<g.nodes.length)/\(fK n.kind=false->n.next=0)
 iu:(n.kind=8->0<=n.iu/\n.iu<g.nodes.length)/\(n.kind≠8->n.iu=0)
theorem PM {n most:Int} {b:Bool}:rC n b most=true↔(b=true->0<=n/\n<most)/\(b=false->n=0):=by
 unfold rC
 cases b<;>simp
theorem qz {u:bq} {g:bu} {n:Node}:nB u g n=true↔mW u g n:=by
 unfold nB
 simp only[Bool.and_eq_true,decide_eq_true_eq,PM,Bool.ite_eq_true_distrib]
 constructor
 ·rintro⟨⟨⟨⟨⟨⟨⟨⟨h1,h2,h3,h4⟩,h5⟩,h6⟩,h7⟩,h8⟩,h9⟩,h10⟩,h11⟩
  refine⟨⟨h1,h2⟩,⟨h3,h4⟩, ?_,h6, ?_,h8,h9,h10, ?_⟩
  ·by_cases h:n.kind=1
   ·rw[if_pos h] at h5;exact⟨fun _=>h5,fun e=>absurd h e⟩
   ·rw[if_neg h] at h5;exact⟨fun e=>absurd e h,fun _=>h5⟩
  ·refine⟨fun e=> ?_,h7.2⟩
   have:=h7.1 e
   split at this<;>rename_i hh
   ·rw[if_pos hh];exact this
   ·rw[if_neg hh];exact this
  ·exact⟨fun e=>h11.1 (by simp[e]),fun e=>h11.2 (by simp[e])⟩
 ·intro h
  refine⟨⟨⟨⟨⟨⟨⟨⟨h.kind.1,h.kind.2,h.origin.1,h.origin.2⟩, ?_⟩,h.slot⟩,⟨fun e=> ?_,h.cB.2⟩⟩,h.a⟩,h.b⟩,h.next⟩, ?_⟩
  ·by_cases e:n.kind=1
   ·rw[if_pos e];exact h.op.1 e
   ·rw[if_neg e];exact h.op.2 e
  ·have:=h.cB.1 e
   split at this<;>rename_i hh
   ·rw[if_pos hh];exact this
   ·rw[if_neg hh];exact this
  ·exact⟨fun e=>h.iu.1 (by simpa using e),fun e=>h.iu.2 (by simpa using e)⟩
theorem kE {α:Type} {p:α->Bool}:∀{l:List α} {i:Nat},gJ p l i=none↔∀x∈l,p x=true
 |[],i=>by simp[gJ]
 |x::l,i=>by
  rw[gJ]
  by_cases h:p x=true
  ·rw[if_pos h,kE];simp[h]
  ·rw[if_neg h];simp[h]
structure eJ (u:bq) (g:bu):Prop where
 locals:0<=g.locals/\g.locals<=64
 bw:g.locals<=g.bw/\g.bw<=4160
 len:1<=g.nodes.length/\g.nodes.length<=4096
 nodes:∀n∈g.nodes,mW u g n
 held:(eP g).2<0
theorem MG {u:bq} {g:bu} {n:Node} (h:mW u g n) {k:Int} (hk:k∈n.iA):0<=k/\k<g.nodes.length:=by
 unfold Node.iA at hk
 have hkd:=h.kind
 split at hk
 ·simp at hk
 ·rename_i h9
  have hn:=h.next.1 (by unfold fK;exact decide_eq_true (by omega))
  split at hk
  ·rename_i h8
   have he:=h.iu.1 h8
   simp only[List.mem_cons,List.not_mem_nil,or_false] at hk
   rcases hk with rfl|rfl
   ·exact hn
   ·exact he
  ·simp only[List.mem_cons,List.not_mem_nil,or_false] at hk
   subst hk;exact hn
theorem vE {u:bq} {g:bu} (hl:1<=g.nodes.length/\g.nodes.length<=4096) (h:∀n∈g.nodes,mW u g n):Whole g:=
 ⟨hl.1,hl.2,fun i hi=>by
  have hn:=h _ (cR default hi)
  exact⟨hn.kind.1,hn.kind.2,fun k hk=>by have:=MG hn hk;omega⟩⟩
theorem eJ.whole {u:bq} {g:bu} (h:eJ u g):Whole g:=vE h.len h.nodes
theorem eJ.node {u:bq} {g:bu} (h:eJ u g) {i:Nat} (hi:i<g.nodes.length):mW u g (g.nd i):=h.nodes _ (cR default hi)
theorem kF {u:bq} {g:bu}:oi u g=none↔eJ u g:=by
 unfold oi
 constructor
 ·intro h
  split at h
  ·cases h
  ·rename_i h1
   cases hf:gJ (nB u g) g.nodes 0 with
   |some i=>rw[hf] at h;cases h
   |none=>
    rw[hf] at h
    simp only at h
    split at h
    ·cases h
    ·rename_i h2
     exact⟨by omega,by omega,by omega,fun n hn=>qz.1 (kE.1 hf n hn),by omega⟩
 ·intro h
  have h1:=h.locals
  have h2:=h.bw
  have h3:=h.len
  have h4:=h.held
  rw[if_neg (by omega),kE.2 fun n hn=>qz.2 (h.nodes n hn)]
  simp only
  rw[if_neg (by omega)]
theorem oj {u:bq}:∀{l:List bu} {t:Nat},ft u l t=(0,0,0)↔∀g∈l,eJ u g
 |[],t=>by simp[ft]
 |g::r,t=>by
  rw[ft]
  cases h:oi u g with
  |some k=>
   have:¬eJ u g:=fun e=>by rw[kF.2 e] at h;cases h
   simp[this]
  |none=>
   have:=kF.1 h
   simp[oj,this]
theorem rk {u:bq}:∀{l:List bu} {t:Nat},ft u l t≠(0,0,0)->(ft u l t).1=60
 |[],t,h=>absurd rfl h
 |g::r,t,h=>by
  rw[ft] at h ⊢
  cases hg:oi u g with
  |some k=>rfl
  |none=>rw[hg] at h;exact rk h
structure cN (u:bq):Prop where
 named:fw u=true
 br:∀g∈u.br,eJ u g
theorem nX {u:bq}:jP u=(0,0,0)↔cN u:=by
 unfold jP
 constructor
 ·intro h
  split at h
  ·rename_i hn;exact⟨hn,oj.1 h⟩
  ·cases h
 ·intro h;rw[if_pos h.named,oj.2 h.br]
theorem o6 {u:bq} (h:¬cN u):(jP u).1=60:=by
 have h2:=mt nX.1 h
 unfold jP at h2 ⊢
 split
 ·rename_i hn;rw[if_pos hn] at h2;exact rk h2
 ·rfl
open Classical in
noncomputable def nI (u:bq):Bool:=decide (cN u)
open Classical in
theorem dB {u:bq}:nI u=true↔cN u:=by unfold nI;rw[decide_eq_true_eq]
theorem cN.yu {u:bq} (h:cN u):u.shared.length<=64/\u.cE.length<=16/\u.br.length<=8:=by
 have:=h.named
 unfold fw at this
 simp only[Bool.and_eq_true,decide_eq_true_eq] at this
 exact⟨this.1.1.1.1,this.1.1.1.2,this.1.1.2⟩
theorem cN.gr {u:bq} (h:cN u) {t:Nat} (ht:t<u.br.length):eJ u (u.gr t):=h.br _ (cR default ht)
theorem X5 {u:bq} {g:bu} (hg:eJ u g) {lk:Nat->List Int} (hlk:q9 g lk):∀i:Int,e8 g (-1) i->∀k∈lk i.toNat,0<=k/\k<u.cE.length:=by
 have hw:=hg.whole
 have hin:∀i:Int,e8 g (-1) i->0<=i/\i.toNat<g.nodes.length:=fun i hi=>by
  induction hi with
  |zero=>exact⟨by omega,by have:=hw.1;simp;omega⟩
  |@step i k _ _ hk ih=>
   exact(hw.2.2 i.toNat ih.2).2.2 k hk
 intro i hi
 induction hi with
 |zero=>intro k hk;rw[show(0:Int).toNat=0 by rfl,hlk.zero] at hk;simp at hk
 |@step i j hi hc hj ih=>
  obtain⟨now,h1,h2⟩:=hlk.on i hi
  have hn:=hg.node (hin i hi).2
  rw[h2 j hj]
  intro k hk
  unfold eK at h1
  split at h1
  ·rename_i h5
   cases h1
   rcases List.mem_append.1 hk with hk|hk
   ·exact ih k hk
   ·simp only[List.mem_cons,List.not_mem_nil,or_false] at hk
    subst hk
    have:=hn.cB.1 (by unfold fD;exact decide_eq_true (by omega))
    rw[if_pos (.inl h5)] at this
    exact this
  ·split at h1
   ·split at h1
    ·cases h1
     exact ih k (List.dropLast_subset _ hk)
    ·cases h1
   ·split at h1
    ·split at h1
     ·cases h1;exact ih k hk
     ·cases h1
    ·cases h1;exact ih k hk
theorem xl {u:bq} {g:bu} (hg:eJ u g) (i:Nat):∀k∈(eP g).1.getD i [],0<=k/\k<u.cE.length:=by
 obtain⟨h1,h2,h3,h4⟩:=lI hg.whole hg.held
 by_cases hi:i<g.nodes.length
 ·by_cases hc:e8 g (-1) i
  ·exact X5 hg h3 i hc
  ·rw[h4 i hi hc];intro k hk;simp at hk
 ·rw[List.getD,List.getElem?_eq_none (by omega)];intro k hk;simp at hk
theorem U7 {u:bq} (hu:cN u) {m:Nat} (hm:m<=u.br.length):∀x∈gu u m,x.1<m/\(∃i,i<(u.gr x.1).nodes.length/\x.2.1=(u.gr x.1).nd i)/\∀k∈x.2.2,0<=k/\k<u.cE.length:=by
 intro x hx
 unfold gu at hx
 rw[List.mem_flatMap] at hx
 obtain⟨t,ht,hx⟩:=hx
 have htl:=List.mem_range.1 ht
 unfold oY at hx
 rw[List.mem_filterMap] at hx
 obtain⟨i,hi,hx⟩:=hx
 unfold sx at hx
 split at hx
 ·cases hx
  exact⟨htl,⟨i,List.mem_range.1 hi,rfl⟩,xl (hu.gr (by omega)) i⟩
 ·cases hx
theorem QR {u:bq} (hu:cN u) (v:Int):∀x∈gP (gu u u.br.length) v,x.1<8/\∀k∈x.2,0<=k/\k<u.cE.length:=by
 intro x hx
 unfold gP at hx
 rw[List.mem_map] at hx
 obtain⟨y,hy,rfl⟩:=hx
 have:=U7 hu (Nat.le_refl _) y (List.mem_filter.1 hy).1
 have hf:=hu.yu
 exact⟨by dsimp only;omega,this.2.2⟩
theorem LN {u:bq} (hu:cN u) (v:Int):tQ ((cm (jM (gu u u.br.length)) v).getD (0,0))=gv u.cE.length (gP (gu u u.br.length) v):=by
 rw[<-HY hu.yu.2.1 (QR hu v),vB]
 split<;>rfl
end
end Go.Proofs.YtekfmjjmihomlaaGreatDoor
