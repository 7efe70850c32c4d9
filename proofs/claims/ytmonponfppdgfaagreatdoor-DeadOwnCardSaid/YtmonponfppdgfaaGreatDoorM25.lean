import Derived.Test.YtmonponfppdgfaaGreatDoorM23
import Derived.Test.YtmonponfppdgfaaGreatDoorM24
namespace Go.Proofs.YtmonponfppdgfaaGreatDoor
open Go Go.dD Go.Proofs
set_option linter.unusedSimpArgs false
set_option linter.unusedVariables false
theorem u7 {f:FuncId} {args:List AV} {u:AV} (hu:cJ 0 u) (h:(uf TT 30 f args [] 0).map (fun q=>de q.2.1 6 q.1)=some u):Pure Tryz.prog f args (fun r=>r=u):=by
 simp only[Option.map_eq_some_iff] at h
 obtain⟨⟨r,H',nx'⟩,h1,h2⟩:=h
 simp only at h2
 have h0:=oC PU 30 _ _ _ _ _ _ _ h1
 have h3:=cM.pure (H':=H') (h0.mono fun r H n ⟨h1,h2,_⟩=>⟨h1,h2⟩) (by rw[h2];exact hu)
 exact h3.mono fun r hr=>by rw[hr,h2]
theorem ox (op:Int) (h0:0<=op):Pure Tryz.prog 98 [u8 op] (fun r=>r=bl (eB op)):=by
 refine aG H7 rfl ?_
 repeat' (first|refine aQ ?_|exact aC|with_reducible refine aB ?_ ?_|(apply aA;(·exact bp))|((with_reducible refine aM (lS _) ?_ ?_);(·exact cS))|((with_reducible refine aL (fun _=>lS _) ?_ ?_);(·exact cS))|((with_reducible refine aN (lS _) ?_ ?_);(·exact cS))|((with_reducible refine aO (fun _=>lS _) ?_ ?_);(·exact cS))|refine aH ?_|((with_reducible refine aE ?_ ?_)<;>intro hc<;>try(exfalso;omega)))
 refine cn ?_
 unfold eB
 by_cases h1:0<op<;>by_cases h2:op<19<;>by_cases h3:op=17<;>by_cases h4:op=18<;>simp[h1,h2,h3,h4]<;>omega
def mask (k op:Int):Int:=if k=1 then(if eB op=true then 59 else 43) else if k=2 then 38 else if k=3 then 44 else if k=4 then 46 else if k=5 then 36 else if k=6 then 36 else if k=7 then 40 else if k=8 then 104 else 0
set_option maxRecDepth 100000 in
theorem zY (n:Node) (hn:n.Wf) (h:1<=n.kind/\n.kind<10):Pure Tryz.prog 86 [n.av] (fun r=>r=u8 (mask n.kind n.op)):=by
 obtain⟨h0,h1⟩:=h
 have ho:=hn.op.1
 obtain⟨kind,op,slot,cT,a,b,next,jc,origin⟩:=n
 simp only at h0 h1 ho
 have hk:kind=1\/kind=2\/kind=3\/kind=4\/kind=5\/kind=6\/kind=7\/kind=8\/kind=9:=by omega
 rcases hk with rfl|rfl|rfl|rfl|rfl|rfl|rfl|rfl|rfl
 ·refine aG CV rfl ?_
  repeat' (first|refine aQ ?_|exact aC|with_reducible refine aB ?_ ?_|(apply aA;(·exact bp))|((with_reducible refine aM (ox _ ho) ?_ ?_);(·exact cS))|((with_reducible refine aL (fun _=>ox _ ho) ?_ ?_);(·exact cS))|((with_reducible refine aN (ox _ ho) ?_ ?_);(·exact cS))|((with_reducible refine aO (fun _=>ox _ ho) ?_ ?_);(·exact cS))|refine aH ?_|((with_reducible refine aE ?_ ?_)<;>intro hc<;>try(exfalso;omega)))
  all_goals
   cases ht:eB op with
   |true=>
    rw[ht] at hc
    first|(exact absurd rfl hc)|(exact absurd hc (by decide))|(simp only[show mask 1 op=59 by simp[mask,ht]];try kernel_rfl)
   |false=>
    rw[ht] at hc
    first|(exact absurd rfl hc)|(exact absurd hc (by decide))|(simp only[show mask 1 op=43 by simp[mask,ht]];try kernel_rfl)
 iterate 8
  refine cV ?_ (by simp[cJ])
  refine aI CV rfl ?_
  refine gG ?_
  exact⟨rfl⟩
theorem l7.default_eq:(default:l7)=⟨false,0,0⟩:=rfl
def j1 (m u:Int):Int:=IntKind.u8.wrap (BitVec.ofInt IntKind.u8.bits m&&& BitVec.ofInt IntKind.u8.bits u).toNat
theorem qW (k u most m:Int) (b:Nat) (H:Hp) (nx:Nat) (e:TypeId) (d:AV) (hb:bk H b=some (.row e 1 d [u8 m])):kW Tryz.prog 87 [i64 k,u8 u,i64 most, .pt b 1 0 0] H nx (bl (nq k (decide (j1 m u≠0)) most)):=by
 refine aT HO rfl ?_
 repeat' (first|refine aQ ?_|exact aC|with_reducible refine aB ?_ ?_|(apply aA;(·exact bp))|refine aH ?_|((with_reducible refine aE ?_ ?_)<;>intro hc<;>try(exfalso;omega)))
 refine qY.look ?_ kE
 simp only[show IntKind.u8.wrap (BitVec.ofInt IntKind.u8.bits m&&& BitVec.ofInt IntKind.u8.bits u).toNat=j1 m u from rfl,nq]
 by_cases h1:j1 m u=0<;>by_cases h2:k=0<;>by_cases h3:0<=k<;>by_cases h4:k<most<;>simp[h1,h2,h3,h4]
theorem sn (v:l7) (u m:Int) (g:br) (b c:Nat) (H:Hp) (nx:Nat) (e e2:TypeId) (d d2:AV) (hb:bk H b=some (.row e 1 d [u8 m])) (hc:bk H c=some (.row e2 4 d2 [g.av])) (hbn:b<nx) (hcn:c<nx):kW Tryz.prog 88 [v.av,u8 u, .pt b 1 0 0, .pt c 1 0 0] H nx (bl (pf v (decide (j1 m u≠0)) g.cZ)):=by
 refine aT HQ rfl ?_
 repeat' (first|refine aQ ?_|exact cP|with_reducible refine aB ?_ ?_|((with_reducible refine Ask.mk ?_);first|exact bx|exact bt|(intro h;simp_all[l7.cells,br.cells]<;>fail)|(simp_all[l7.cells,br.cells]<;>fail))|(apply aA;(·exact bp))|refine aH ?_|((with_reducible refine aE ?_ ?_)<;>intro hc<;>try(exfalso;omega)))
 all_goals refine qY.look ?_ kE
 all_goals simp only[show IntKind.u8.wrap (BitVec.ofInt IntKind.u8.bits m&&& BitVec.ofInt IntKind.u8.bits u).toNat=j1 m u from rfl] at *
 all_goals unfold pf
 ·rw[if_neg (show ¬decide (j1 m u≠0)=true by simp[hc])]
  obtain⟨is,sl,wo⟩:=v
  refine cn ?_
  rw[Bool.eq_iff_iff]
  simp[l7.default_eq,and_assoc]
 ·rename_i h0
  rw[decide_eq_true hc,if_pos rfl,if_pos h0]
  refine cn ?_
  by_cases h1:0<=v.slot<;>by_cases h2:v.slot<g.cZ<;>simp[h1,h2]
 ·rename_i h0
  rw[decide_eq_true hc,if_pos rfl,if_neg (by rw[h0];decide)]
theorem CY (k op:Int) (h:1<=k/\k<10):(j1 (mask k op) 1=0↔¬k=1)/\(decide (j1 (mask k op) 2≠0)=gb k)/\(decide (j1 (mask k op) 4≠0)=fp k)/\(decide (j1 (mask k op) 8≠0)=lj k)/\(decide (j1 (mask k op) 16≠0)=(decide (k=1)&&eB op))/\(decide (j1 (mask k op) 32≠0)=eQ k)/\(decide (j1 (mask k op) 64≠0)=decide (k=8)):=by
 have hk:k=1\/k=2\/k=3\/k=4\/k=5\/k=6\/k=7\/k=8\/k=9:=by omega
 rcases hk with rfl|rfl|rfl|rfl|rfl|rfl|rfl|rfl|rfl
 ·cases ht:eB op with
  |false=>rw[show mask 1 op=43 by simp[mask,ht]];decide
  |true=>rw[show mask 1 op=59 by simp[mask,ht]];decide
 ·rw[show mask 2 op=38 by rfl,show(decide ((2:Int)=1)&&eB op)=false by rfl];decide
 ·rw[show mask 3 op=44 by rfl,show(decide ((3:Int)=1)&&eB op)=false by rfl];decide
 ·rw[show mask 4 op=46 by rfl,show(decide ((4:Int)=1)&&eB op)=false by rfl];decide
 ·rw[show mask 5 op=36 by rfl,show(decide ((5:Int)=1)&&eB op)=false by rfl];decide
 ·rw[show mask 6 op=36 by rfl,show(decide ((6:Int)=1)&&eB op)=false by rfl];decide
 ·rw[show mask 7 op=40 by rfl,show(decide ((7:Int)=1)&&eB op)=false by rfl];decide
 ·rw[show mask 8 op=104 by rfl,show(decide ((8:Int)=1)&&eB op)=false by rfl];decide
 ·rw[show mask 9 op=0 by rfl,show(decide ((9:Int)=1)&&eB op)=false by rfl];decide
set_option maxRecDepth 4000 in
set_option maxHeartbeats 2000000 in
theorem zj (u:bq) (g:br) (n:Node) (hn:n.Wf):Pure Tryz.prog 52 [u.av,g.av,n.av] (fun r=>r=bl (iW u g n)):=by
 refine aG GQ rfl ?_
 have h0:=hn.kind.1
 have ho:=hn.op.1
 by_cases hk:1<=n.kind/\n.kind<10/\0<=n.origin/\n.origin<4096
 ·have hp:=zY n hn ⟨hk.1,hk.2.1⟩
  obtain⟨m1,m2,m3,m4,m5,m6,m7⟩:=CY n.kind n.op ⟨hk.1,hk.2.1⟩
  repeat' (first|refine aQ ?_|exact cP|with_reducible refine aB ?_ ?_|((with_reducible refine Ask.mk ?_);first|exact bx|exact bt|(intro h;simp_all[bq.cells,br.cells,Node.cells]<;>fail)|(simp_all[bq.cells,br.cells,Node.cells]<;>fail))|(apply aA;(·exact bp))|refine aK (hp) ?_|((refine aS (qW _ _ _ _ _ _ _ _ _ (by exact rfl)) ?_ ?_);(·exact True.intro))|((refine aR (fun _=>qW _ _ _ _ _ _ _ _ _ (by exact rfl)) ?_ ?_);(·exact True.intro))|((refine aS (sn ⟨_,_,_⟩ _ _ _ _ _ _ _ _ _ _ _ (by exact rfl) (by exact rfl) cI cI) ?_ ?_);(·exact True.intro))|((refine aR (fun _=>sn ⟨_,_,_⟩ _ _ _ _ _ _ _ _ _ _ _ (by exact rfl) (by exact rfl) cI cI) ?_ ?_);(·exact True.intro))|refine aH ?_|((with_reducible refine aE ?_ ?_)<;>intro hc<;>try(exfalso;omega)))
  all_goals
   have hop:nq (IntKind.i64.wrap n.op) (decide (j1 (mask n.kind n.op) 1≠0)) 19=(if n.kind=1 then decide (n.op<19) else decide (n.op=0)):=by
    have h2:=hn.op.2
    rw[wrap64 (by omega) (by omega)]
    unfold nq
    by_cases h1:n.kind=1
    ·rw[if_pos h1,if_pos (show decide (j1 (mask n.kind n.op) 1≠0)=true by rw[decide_eq_true_eq];exact fun h=>m1.1 h h1),decide_eq_true ho,Bool.true_and]
    ·rw[if_neg h1,if_neg (show ¬decide (j1 (mask n.kind n.op) 1≠0)=true by rw[decide_eq_true_eq];exact fun h=>h (m1.2 h1))]
   refine cn ?_
   rw[hop,m2,m3,m4,m5,m6,m7]
   unfold iW
   rw[decide_eq_true hk,Bool.true_and]
   simp only[hc,if_true,if_false,or_self,Bool.if_false_right,Bool.decide_eq_true,Bool.and_assoc]
   simp only[List.length_map]
   generalize nq n.slot (gb n.kind) g.cZ=x1
   have ea:(⟨n.a.eA,n.a.slot,n.a.word⟩:l7)=n.a:=rfl
   have eb:(⟨n.b.eA,n.b.slot,n.b.word⟩:l7)=n.b:=rfl
   rw[ea,eb]
   generalize pf n.a (lj n.kind) g.cZ=x2
   generalize pf n.b (decide (n.kind=1)&&eB n.op) g.cZ=x3
   generalize nq n.next (eQ n.kind) g.nodes.length=x4
   generalize nq n.jc (decide (n.kind=8)) g.nodes.length=x5
   revert x1 x2 x3 x4 x5
   intro x1 x2 x3 x4 x5
   cases x1<;>cases x2<;>cases x3<;>cases x4<;>cases x5<;>simp
 ·have hb:iW u g n=false:=by unfold iW;rw[decide_eq_false hk];simp
  rw[hb]
  repeat' (first|refine aQ ?_|exact cP|with_reducible refine aB ?_ ?_|((with_reducible refine Ask.mk ?_);first|exact bx|exact bt|(intro h;simp_all[bq.cells,br.cells,Node.cells]<;>fail)|(simp_all[bq.cells,br.cells,Node.cells]<;>fail))|(apply aA;(·exact bp))|refine aH ?_|((with_reducible refine aE ?_ ?_)<;>intro hc<;>try(exfalso;omega)))
  exact rfl
def fM (c:Int):Bool:=decide (48<=c)&&decide (c<=57)
def iN (c:Int):Bool:=decide (97<=c)&&decide (c<=122)||decide (65<=c)&&decide (c<=90)||decide (c=95)
def AH:List ByteArray:=[⟨(List.toArray [115,104,97,114,101,100])⟩,⟨(List.toArray [108,111,99,107])⟩,⟨(List.toArray [116,104,114,101,97,100])⟩,⟨(List.toArray [108,111,99,97,108])⟩,⟨(List.toArray [105,102])⟩,⟨(List.toArray [101,108,115,101])⟩,⟨(List.toArray [119,104,105,108,101])⟩,⟨(List.toArray [112,114,105,110,116])⟩,⟨(List.toArray [115,107,105,112])⟩,⟨(List.toArray [115,119,97,112])⟩]
def ll (s:ByteArray):Bool:=AH.any (s==·)
theorem eF (c:Int):Pure Tryz.prog 106 [u8 c] (fun r=>r=bl (iN c)):=by
 refine aG xD rfl ?_
 repeat' (first|refine aQ ?_|exact aC|with_reducible refine aB ?_ ?_|(apply aA;(·exact bp))|refine aH ?_|((with_reducible refine aE ?_ ?_)<;>intro hc<;>try(exfalso;omega)))
 refine cn ?_
 unfold iN
 by_cases h1:97<=c<;>by_cases h2:c<=122<;>by_cases h3:65<=c<;>by_cases h4:c<=90<;>by_cases h5:c=95<;>simp[h1,h2,h3,h4,h5]
theorem iE (s:ByteArray):Pure Tryz.prog 105 [st s] (fun r=>r=bl (ll s)):=by
 refine aG xC rfl ?_
 repeat' (first|refine aQ ?_|exact aC|with_reducible refine aB ?_ ?_|(apply aA;(·exact bp))|refine aH ?_|((with_reducible refine aE ?_ ?_)<;>intro hc<;>try(exfalso;omega)))
 all_goals refine cn ?_
 all_goals simp_all[ll,AH]
def eu (s:ByteArray) (i:Nat):Int:=(s.data.toList.getD i 0).toNat
def fg (s:ByteArray):Bool:=decide (1<=s.size)&&decide (s.size<=32)&& !fM (eu s 0)&& !ll s&&(List.range s.size).all fun i=>iN (eu s i)||fM (eu s i)
theorem K1 (s:ByteArray):(s==(⟨#[]⟩:ByteArray))=decide (s.size=0):=by
 obtain⟨d⟩:=s
 show(d==#[])=_
 rw[Bool.eq_iff_iff]
 show(d==#[])=true↔decide (d.size=0)=true
 simp
theorem C1 (s:ByteArray) (hs:s.size<=140737488351232):Pure Tryz.prog 85 [st s] (fun r=>r=bl (fg s)):=by
 refine aG HN rfl ?_
 have e0:=K1 s
 by_cases hz:s.size=0
 ·have e1:(s==(⟨#[]⟩:ByteArray))=true:=by rw[e0,decide_eq_true hz]
  have hb:fg s=false:=by unfold fg;rw[decide_eq_false (by omega)];simp
  rw[hb]
  repeat' (first|refine aQ ?_|exact cP|with_reducible refine aB ?_ ?_|((with_reducible refine Ask.mk ?_);first|exact bx|((refine Ask.mk ?_);intro h;simp_all)|exact bt)|(apply aA;(·exact bp))|((with_reducible refine aM (eU _) ?_ ?_);(·exact cS))|((with_reducible refine aL (fun _=>eU _) ?_ ?_);(·exact cS))|((with_reducible refine aN (eU _) ?_ ?_);(·exact cS))|((with_reducible refine aO (fun _=>eU _) ?_ ?_);(·exact cS))|((with_reducible refine aM (iE _) ?_ ?_);(·exact cS))|((with_reducible refine aL (fun _=>iE _) ?_ ?_);(·exact cS))|((with_reducible refine aN (iE _) ?_ ?_);(·exact cS))|((with_reducible refine aO (fun _=>iE _) ?_ ?_);(·exact cS))|((with_reducible refine aM (eF _) ?_ ?_);(·exact cS))|((with_reducible refine aL (fun _=>eF _) ?_ ?_);(·exact cS))|((with_reducible refine aN (eF _) ?_ ?_);(·exact cS))|((with_reducible refine aO (fun _=>eF _) ?_ ?_);(·exact cS))|(simp only[e1])|refine aH ?_|((with_reducible refine aE ?_ ?_)<;>intro hc<;>try(exfalso;omega)))
  all_goals first|exact rfl|(exfalso;simp_all)
 ·have e1:(s==(⟨#[]⟩:ByteArray))=false:=by rw[e0,decide_eq_false hz]
  repeat' (first|refine aQ ?_|exact cP|with_reducible refine aB ?_ ?_|((with_reducible refine Ask.mk ?_);first|exact bx|((refine Ask.mk ?_);intro h;exact⟨by omega,by omega⟩)|exact bt)|(apply aA;(·exact bp))|((with_reducible refine aM (eU _) ?_ ?_);(·exact cS))|((with_reducible refine aL (fun _=>eU _) ?_ ?_);(·exact cS))|((with_reducible refine aN (eU _) ?_ ?_);(·exact cS))|((with_reducible refine aO (fun _=>eU _) ?_ ?_);(·exact cS))|((with_reducible refine aM (iE _) ?_ ?_);(·exact cS))|((with_reducible refine aL (fun _=>iE _) ?_ ?_);(·exact cS))|((with_reducible refine aN (iE _) ?_ ?_);(·exact cS))|((with_reducible refine aO (fun _=>iE _) ?_ ?_);(·exact cS))|((with_reducible refine aM (eF _) ?_ ?_);(·exact cS))|((with_reducible refine aL (fun _=>eF _) ?_ ?_);(·exact cS))|((with_reducible refine aN (eF _) ?_ ?_);(·exact cS))|((with_reducible refine aO (fun _=>eF _) ?_ ?_);(·exact cS))|(simp only[e1])|refine aH ?_|((with_reducible refine aE ?_ ?_)<;>intro hc<;>try(exfalso;omega)))
  ·refine cn (Eq.symm ?_)
   unfold fg
   have hp:(decide (1<=s.size)&&decide (s.size<=32)&& !fM (eu s 0)&& !ll s)=false:=by
    rcases hc with((h|h)|h)|h
    ·exact absurd h (by decide)
    ·simp[show ¬s.size<=32 by omega]
    ·have h:48<=eu s 0/\eu s 0<=57:=h
     simp[fM,h.1,h.2]
    ·simp[h]
   rw[hp,Bool.false_and]
  ·have hp:(decide (1<=s.size)&&decide (s.size<=32)&& !fM (eu s 0)&& !ll s)=true:=by
    obtain⟨h1,h2⟩:=hc
    have h3:¬(48<=eu s 0/\eu s 0<=57):=fun h=>h1 (.inr h)
    have h4:s.size<=32:=by
     have:¬(32:Int)<s.size:=fun h=>h1 (.inl (.inr h))
     omega
    have h5:fM (eu s 0)=false:=by
     unfold fM
     by_cases h:48<=eu s 0
     ·rw[decide_eq_true h,decide_eq_false (fun h'=>h3 ⟨h,h'⟩)];rfl
     ·rw[decide_eq_false h];rfl
    rw[decide_eq_true (by omega:1<=s.size),decide_eq_true h4,h5,h2];rfl
   have hb:∀R,(decide (1<=s.size)&&decide (s.size<=32)&& !fM (eu s 0)&& !ll s&&R)=R:=fun R=>by rw[hp,Bool.true_and]
   unfold fg
   rw[hb]
   clear hc hp hb e1 e0
   refine aF (fun i:Nat=>[(0,st s),(21,i64 s.size),(22,i64 i)]) (fun i H n=>i<=s.size/\∀j,j<i->(iN (eu s j)||fM (eu s j))=true) (fun i=>s.size - i) 0 bu ⟨Nat.zero_le _,fun _ h=>by omega⟩ ?_
   rintro i H n ⟨hi,hall⟩
   by_cases his:i<s.size
   ·repeat' (first|refine aQ ?_|exact cP|with_reducible refine aB ?_ ?_|((with_reducible refine Ask.mk ?_);first|exact bx|((refine Ask.mk ?_);intro h;exact⟨by omega,by omega⟩)|exact bt)|(apply aA;(·exact bp))|((with_reducible refine aM (eU _) ?_ ?_);(·exact cS))|((with_reducible refine aL (fun _=>eU _) ?_ ?_);(·exact cS))|((with_reducible refine aN (eU _) ?_ ?_);(·exact cS))|((with_reducible refine aO (fun _=>eU _) ?_ ?_);(·exact cS))|((with_reducible refine aM (eF _) ?_ ?_);(·exact cS))|((with_reducible refine aL (fun _=>eF _) ?_ ?_);(·exact cS))|((with_reducible refine aN (eF _) ?_ ?_);(·exact cS))|((with_reducible refine aO (fun _=>eF _) ?_ ?_);(·exact cS))|refine aH ?_|((with_reducible refine aE ?_ ?_)<;>intro hc<;>try(exfalso;omega)))
    ·refine cn (Eq.symm ?_)
     rw[Bool.eq_false_iff,ne_eq,List.all_eq_true]
     intro hA
     have h1:=hA i (List.mem_range.2 his)
     have hc:iN (eu s i)=false/\(eu s i<48\/57<eu s i):=hc
     rw[hc.1,Bool.false_or] at h1
     simp only[fM,Bool.and_eq_true,decide_eq_true_eq] at h1
     omega
    ·refine⟨i+1,by omega,bu,by omega,fun j hj=> ?_⟩
     by_cases hji:j=i
     ·have hc:¬iN (eu s i)=false\/(48<=eu s i/\eu s i<=57):=hc
      rw[hji]
      rcases hc with h|h
      ·rw[Bool.not_eq_false] at h
       rw[h,Bool.true_or]
      ·simp[fM,h.1,h.2]
     ·exact hall j (by omega)
   ·have:i=s.size:=by omega
    subst this
    repeat' (first|refine aQ ?_|exact aC|with_reducible refine aB ?_ ?_|(apply aA;(·exact bp))|refine aH ?_|((with_reducible refine aE ?_ ?_)<;>intro hc<;>try(exfalso;omega)))
    refine cn (Eq.symm ?_)
    rw[List.all_eq_true]
    intro j hj
    exact hall j (List.mem_range.1 hj)
abbrev xZ (E:List (ByteArray×Bool)):List AV:=lu (fun s:ByteArray=>Value.string s) bl E
theorem O9 (E:List (ByteArray×Bool)) (t:ByteArray):q6 true (.string t) (xZ E) (bl false)=some (bl ((cd E t).getD false),(cd E t).isSome):=(vN FP bl t E (bl false)).trans (by cases cd E t<;>rfl)
theorem PG (E:List (ByteArray×Bool)) (t:ByteArray) (v:Bool):tG true (.string t) (xZ E) (bl v)=some (xZ (gW E t v)):=vO FP bl t v E
def mb (l:List ByteArray):List (ByteArray×Bool):=l.map fun s=>(s,true)
def gv:List ByteArray->ByteArray->Bool
 |[],_=>false
 |a::l,s=>if s=a then true else gv l s
theorem x7 (l:List ByteArray) (s:ByteArray):gv l s=true↔s∈l:=by
 induction l with
 |nil=>simp[gv]
 |cons a l ih=>
  rw[gv]
  by_cases h:s=a
  ·simp[h]
  ·simp[h,ih]
theorem DH (l:List ByteArray) (s:ByteArray):(cd (mb l) s).getD false=gv l s:=by
 induction l with
 |nil=>rfl
 |cons a l ih=>
  show((if s=a then some true else cd (mb l) s)).getD false=(if s=a then true else gv l s)
  by_cases h:s=a
  ·rw[if_pos h,if_pos h];rfl
  ·rw[if_neg h,if_neg h,ih]
theorem I3 (l:List ByteArray) (s:ByteArray) (h:gv l s=false):gW (mb l) s true=mb (l++[s]):=by
 induction l with
 |nil=>rfl
 |cons a l ih=>
  rw[gv] at h
  by_cases e:s=a
  ·rw[if_pos e] at h;cases h
  ·rw[if_neg e] at h
   show(if s=a then(s,true)::mb l else(a,true)::gW (mb l) s true)=_
   rw[if_neg e,ih h];rfl
theorem rD (s:ByteArray) (hs:s.size<=140737488351232) (l:List ByteArray) (b m:Nat) (H:Hp) (nx:Nat) (e em:TypeId) (d dm:AV) (hb:bk H b=some (.row e 1 d [.mp m])) (hm:bk H m=some (.row em 0 dm (mapA (xZ (mb l))))) (hbn:b<nx) (hmn:m<nx) (hbm:b≠m):
 cM Tryz.prog 84 [st s, .pt b 1 0 0] H nx (fun r H' n=>r=bl (fg s&& !gv l s)/\nx<=n/\(gv l s=false->bk H' m=some (.row em 0 dm (mapA (xZ (mb (l++[s]))))))/\∀y,y<nx->y≠m->bk H' y=bk H y):=by
 refine aI HM rfl ?_
 repeat' (first|refine aQ ?_|exact aC|with_reducible refine aB ?_ ?_|(apply aA;(·exact bp))|refine aK (C1 s hs) ?_|(apply aD (g:=some _);(·exact fun _=>O9 _ _))|(apply aD (g:=none);(·exact fun _=>PG _ _ _))|refine aH ?_|((with_reducible refine aE ?_ ?_)<;>intro hc<;>try(exfalso;omega)))
 refine⟨⟨?_,cI,fun h=> ?_,fun y hy hym=> ?_⟩⟩
 ·rw[DH]
  refine cn ?_
  cases fg s<;>cases gv l s<;>rfl
 ·rw[<-I3 l s h]
  exact bm
 ·exact bw
def eP:List ByteArray->List ByteArray->Bool
 |_,[]=>true
 |acc,s::r=>if(fg s&& !gv acc s)=true then eP (acc++[s]) r else false
def cY (u:bq):List ByteArray:=u.shared.map Decl.name++(u.bz.map Decl.name++u.bo.map br.name)
def eV (u:bq):Bool:=decide (u.shared.length<=64)&&decide (u.bz.length<=16)&&decide (u.bo.length<=8)&&eP [] (cY u)&&u.bz.all (fun d=>decide (d.word=0))
theorem mD (u:bq) {k:Nat} (hk:k<(cY u).length) (h:eP ((cY u).take k) ((cY u).drop k)=eP [] (cY u)) {s:ByteArray} (hs:(cY u).getD k default=s):
 (eP [] (cY u)=if(fg s&& !gv ((cY u).take k) s)=true then eP ((cY u).take (k+1)) ((cY u).drop (k+1)) else false)/\(cY u).take (k+1)=(cY u).take k++[s]:=by
 have e:(cY u)[k]=s:=by rw[<-hs];simp[List.getD,hk]
 have e2:(cY u).take (k+1)=(cY u).take k++[s]:=by rw[List.take_succ_eq_append_getElem hk,e]
 refine⟨?_,e2⟩
 rw[<-h,List.drop_eq_getElem_cons hk,eP,e,e2]
theorem KM (u:bq) {i:Nat} (h:i<u.shared.length):(cY u).getD i default=(u.shared.getD i default).name:=by
 simp[cY,List.getD,List.getElem?_append,h]
theorem KL (u:bq) {i:Nat} (h:i<u.bz.length):(cY u).getD (u.shared.length+i) default=(u.bz.getD i default).name:=by
 unfold cY
 rw[List.getD,List.getElem?_append_right (by simp),List.length_map,Nat.add_sub_cancel_left,List.getElem?_append_left (by simpa using h)]
 simp[List.getD,h]
theorem KK (u:bq) {i:Nat} (h:i<u.bo.length):(cY u).getD (u.shared.length+u.bz.length+i) default=(u.bo.getD i default).name:=by
 unfold cY
 rw[List.getD,List.getElem?_append_right (by simp;omega),List.getElem?_append_right (by simp;omega)]
 simp only[List.length_map]
 rw[show u.shared.length+u.bz.length+i - u.shared.length - u.bz.length=i by omega]
 simp[List.getD,h]
set_option maxHeartbeats 4000000 in
theorem zJ (u:bq) (hu:u.Wf):Pure Tryz.prog 51 [u.av] (fun r=>r=bl (eV u)):=by
 refine aG GP rfl ?_
 have h1:=hu.gJ
 have h2:=hu.gz
 have h3:=hu.gp
 by_cases hl:u.shared.length<=64/\u.bz.length<=16/\u.bo.length<=8
 ·repeat' (first|refine aQ ?_|exact cP|with_reducible refine aB ?_ ?_|((with_reducible refine Ask.mk ?_);first|exact bx|exact bt|(intro h;simp_all[bq.cells]<;>fail)|(simp_all[bq.cells]<;>fail))|(apply aA;(·exact bp))|refine aH ?_|((with_reducible refine aE ?_ ?_)<;>intro hc<;>try(exfalso;omega)))
  clear hc
  simp only[List.length_map]
  refine aF (fun i:Nat=>[(1, .pt 0 1 0 0),(4, .fn (.func 84) [] [.pt 19 1 0 0]),(30,dN u.shared),(31,i64 u.shared.length),(32,i64 i)]) (fun i H n=>i<=u.shared.length/\20<=n/\(∃d,bk H 0=some (.row 25 3 d [u.av]))/\(∃d,bk H 19=some (.row 122 1 d [.mp 18]))/\(∃d,bk H 18=some (.row 9 0 d (mapA (xZ (mb ((cY u).take (i)))))))/\eP ((cY u).take (i)) ((cY u).drop (i))=eP [] (cY u)) (fun i=>u.shared.length - i) 0 bu ⟨Nat.zero_le _,cI,⟨_,bm⟩,⟨_,bm⟩,⟨_,bm⟩,rfl⟩ ?_
  rintro i H n ⟨hi,hn,⟨d0,r0⟩,⟨d19,r19⟩,⟨d18,r18⟩,hq⟩
  by_cases hil:i<u.shared.length
  ·have hk:i<(cY u).length:=by simp only[cY,List.length_append,List.length_map];omega
   have hs:(cY u).getD (i) default=(u.shared.getD i default).name:=KM u hil
   obtain⟨ha,ht⟩:=mD u hk hq hs
   have hsz:=(hu.shared _ (cE default hil)).name
   repeat' (first|refine aQ ?_|exact cP|with_reducible refine aB ?_ ?_|((with_reducible refine Ask.mk ?_);first|exact bx|exact bt|(intro h;simp_all[bq.cells,Decl.cells]<;>fail)|(simp_all[bq.cells,Decl.cells]<;>fail))|(apply aA;(·(first|exact EC|exact bp)))|refine aH ?_|((with_reducible refine aE ?_ ?_)<;>intro hc<;>try(exfalso;omega)))
   refine aJ (rD _ hsz ((cY u).take (i)) 19 18 _ _ _ _ _ _ bm bm cI cI (by decide)) ?_
   rintro _ H2 n2 ⟨rfl,hn2,hput,hf⟩
   have hn12:n<=n2:=Nat.le_trans cI hn2
   have r02:bk H2 0=some (.row 25 3 d0 [u.av]):=(hf 0 (Nat.lt_of_lt_of_le (by omega:0<n) cI) (by decide)).trans bm
   have r192:bk H2 19=some (.row 122 1 d19 [.mp 18]):=(hf 19 (Nat.lt_of_lt_of_le (by omega:19<n) cI) (by decide)).trans bm
   cases hg:(fg (u.shared.getD i default).name&& !gv ((cY u).take (i)) (u.shared.getD i default).name) with
   |false=>
    rw[hg,if_neg (by decide)] at ha
    have hb:eV u=false:=by unfold eV;rw[ha];simp
    rw[hb]
    repeat' (first|refine aQ ?_|exact cP|with_reducible refine aB ?_ ?_|((with_reducible refine Ask.mk ?_);first|exact bx|exact bt|(intro h;simp_all[bq.cells,Decl.cells]<;>fail)|(simp_all[bq.cells,Decl.cells]<;>fail))|(apply aA;(·exact bp))|refine aH ?_|((with_reducible refine aE ?_ ?_)<;>intro hc<;>try(exfalso;omega)))
    exact rfl
   |true=>
    rw[hg,if_pos rfl] at ha
    have hnm:gv ((cY u).take (i)) (u.shared.getD i default).name=false:=by revert hg;cases gv ((cY u).take (i)) (u.shared.getD i default).name<;>simp
    have r182:=hput hnm
    rw[<-ht] at r182
    clear hf hput
    repeat' (first|refine aQ ?_|exact cP|with_reducible refine aB ?_ ?_|((with_reducible refine Ask.mk ?_);first|exact bx|exact bt|(intro h;simp_all[bq.cells,Decl.cells]<;>fail)|(simp_all[bq.cells,Decl.cells]<;>fail))|(apply aA;(·exact bp))|refine aH ?_|((with_reducible refine aE ?_ ?_)<;>intro hc<;>try(exfalso;omega)))
    exact⟨i+1,by omega,bu,by omega,by omega,⟨_,bm⟩,⟨_,bm⟩,⟨_,bm⟩,ha.symm⟩
  ·have hie:i=u.shared.length:=by omega
   subst hie
   repeat' (first|refine aQ ?_|exact cP|with_reducible refine aB ?_ ?_|((with_reducible refine Ask.mk ?_);first|exact bx|exact bt|(intro h;simp_all[bq.cells]<;>fail)|(simp_all[bq.cells]<;>fail))|(apply aA;(·exact bp))|refine aH ?_|((with_reducible refine aE ?_ ?_)<;>intro hc<;>try(exfalso;omega)))
   refine aF (fun i:Nat=>[(1, .pt 0 1 0 0),(4, .fn (.func 84) [] [.pt 19 1 0 0]),(43,dN u.bz),(44,i64 u.bz.length),(45,i64 i)]) (fun i H n=>i<=u.bz.length/\20<=n/\(∃d,bk H 0=some (.row 25 3 d [u.av]))/\(∃d,bk H 19=some (.row 122 1 d [.mp 18]))/\(∃d,bk H 18=some (.row 9 0 d (mapA (xZ (mb ((cY u).take (u.shared.length+i)))))))/\eP ((cY u).take (u.shared.length+i)) ((cY u).drop (u.shared.length+i))=eP [] (cY u)/\∀j,j<i->(u.bz.getD j default).word=0) (fun i=>u.bz.length - i) 0 bu ⟨Nat.zero_le _,cI,⟨_,bm⟩,⟨_,bm⟩,⟨_,by rw[Nat.add_zero];exact bm⟩,by rw[Nat.add_zero];exact hq,fun _ h=>by omega⟩ ?_
   clear r0 r19 r18 hq hc
   rintro i H n ⟨hi,hn,⟨d0,r0⟩,⟨d19,r19⟩,⟨d18,r18⟩,hq,hw⟩
   by_cases hil:i<u.bz.length
   ·have hk:u.shared.length+i<(cY u).length:=by simp only[cY,List.length_append,List.length_map];omega
    have hs:(cY u).getD (u.shared.length+i) default=(u.bz.getD i default).name:=KL u hil
    obtain⟨ha,ht⟩:=mD u hk hq hs
    have hsz:=(hu.bz _ (cE default hil)).name
    repeat' (first|refine aQ ?_|exact cP|with_reducible refine aB ?_ ?_|((with_reducible refine Ask.mk ?_);first|exact bx|exact bt|(intro h;simp_all[bq.cells,Decl.cells]<;>fail)|(simp_all[bq.cells,Decl.cells]<;>fail))|(apply aA;(·(first|exact EC|exact bp)))|refine aH ?_|((with_reducible refine aE ?_ ?_)<;>intro hc<;>try(exfalso;omega)))
    refine aJ (rD _ hsz ((cY u).take (u.shared.length+i)) 19 18 _ _ _ _ _ _ bm bm cI cI (by decide)) ?_
    rintro _ H2 n2 ⟨rfl,hn2,hput,hf⟩
    have hn12:n<=n2:=Nat.le_trans cI hn2
    have r02:bk H2 0=some (.row 25 3 d0 [u.av]):=(hf 0 (Nat.lt_of_lt_of_le (by omega:0<n) cI) (by decide)).trans bm
    have r192:bk H2 19=some (.row 122 1 d19 [.mp 18]):=(hf 19 (Nat.lt_of_lt_of_le (by omega:19<n) cI) (by decide)).trans bm
    cases hg:(fg (u.bz.getD i default).name&& !gv ((cY u).take (u.shared.length+i)) (u.bz.getD i default).name) with
    |false=>
     rw[hg,if_neg (by decide)] at ha
     have hb:eV u=false:=by unfold eV;rw[ha];simp
     rw[hb]
     clear hf hput
     repeat' (first|refine aQ ?_|exact cP|with_reducible refine aB ?_ ?_|((with_reducible refine Ask.mk ?_);first|exact bx|exact bt|(intro h;simp_all[bq.cells,Decl.cells]<;>fail)|(simp_all[bq.cells,Decl.cells]<;>fail))|(apply aA;(·exact bp))|refine aH ?_|((with_reducible refine aE ?_ ?_)<;>intro hc<;>try(exfalso;omega)))
     exact rfl
    |true=>
     rw[hg,if_pos rfl] at ha
     have hnm:gv ((cY u).take (u.shared.length+i)) (u.bz.getD i default).name=false:=by revert hg;cases gv ((cY u).take (u.shared.length+i)) (u.bz.getD i default).name<;>simp
     have r182:=hput hnm
     rw[<-ht] at r182
     obtain⟨d4,r4⟩:∃d,bk H2 (n+3)=some (.row 48 3 d [(u.bz.getD i default).av]):=⟨_,(hf (n+3) cI (by omega)).trans bm⟩
     clear hf hput
     repeat' (first|refine aQ ?_|exact cP|with_reducible refine aB ?_ ?_|((with_reducible refine Ask.mk ?_);first|exact bx|exact bt|(intro h;simp_all[bq.cells,Decl.cells]<;>fail)|(simp_all[bq.cells,Decl.cells]<;>fail))|(apply aA;(·exact bp))|refine aH ?_|((with_reducible refine aE ?_ ?_)<;>intro hc<;>try(exfalso;omega)))
     ·have hb:eV u=false:=by
       unfold eV
       rw[Bool.and_eq_false_iff]
       right
       rw[Bool.eq_false_iff,ne_eq,List.all_eq_true]
       exact fun h=>(hc.resolve_left (by decide)) (of_decide_eq_true (h _ (cE default hil)))
      rw[hb]
     ·exact⟨i+1,by omega,bu,by omega,by omega,⟨_,bm⟩,⟨_,bm⟩,⟨_,bm⟩,ha.symm,fun j hj=>by
       by_cases hji:j=i
       ·rw[hji];exact hc.2
       ·exact hw j (by omega)⟩
   ·have hie:i=u.bz.length:=by omega
    subst hie
    repeat' (first|refine aQ ?_|exact cP|with_reducible refine aB ?_ ?_|((with_reducible refine Ask.mk ?_);first|exact bx|exact bt|(intro h;simp_all[bq.cells]<;>fail)|(simp_all[bq.cells]<;>fail))|(apply aA;(·exact bp))|refine aH ?_|((with_reducible refine aE ?_ ?_)<;>intro hc<;>try(exfalso;omega)))
    refine aF (fun i:Nat=>[(1, .pt 0 1 0 0),(4, .fn (.func 84) [] [.pt 19 1 0 0]),(61,fR u.bo),(62,i64 u.bo.length),(63,i64 i)]) (fun i H n=>i<=u.bo.length/\20<=n/\(∃d,bk H 0=some (.row 25 3 d [u.av]))/\(∃d,bk H 19=some (.row 122 1 d [.mp 18]))/\(∃d,bk H 18=some (.row 9 0 d (mapA (xZ (mb ((cY u).take (u.shared.length+u.bz.length+i)))))))/\eP ((cY u).take (u.shared.length+u.bz.length+i)) ((cY u).drop (u.shared.length+u.bz.length+i))=eP [] (cY u)/\∀j,j<u.bz.length->(u.bz.getD j default).word=0) (fun i=>u.bo.length - i) 0 bu ⟨Nat.zero_le _,cI,⟨_,bm⟩,⟨_,bm⟩,⟨_,by rw[Nat.add_zero];exact bm⟩,by rw[Nat.add_zero];exact hq,hw⟩ ?_
    clear r0 r19 r18 hq hc hw
    rintro i H n ⟨hi,hn,⟨d0,r0⟩,⟨d19,r19⟩,⟨d18,r18⟩,hq,hw⟩
    by_cases hil:i<u.bo.length
    ·have hk:u.shared.length+u.bz.length+i<(cY u).length:=by simp only[cY,List.length_append,List.length_map];omega
     have hs:(cY u).getD (u.shared.length+u.bz.length+i) default=(u.bo.getD i default).name:=KK u hil
     obtain⟨ha,ht⟩:=mD u hk hq hs
     have hsz:=(hu.bo _ (cE default hil)).name
     repeat' (first|refine aQ ?_|exact cP|with_reducible refine aB ?_ ?_|((with_reducible refine Ask.mk ?_);first|exact bx|exact bt|(intro h;simp_all[bq.cells,br.cells]<;>fail)|(simp_all[bq.cells,br.cells]<;>fail))|(apply aA;(·(first|exact ME|exact bp)))|refine aH ?_|((with_reducible refine aE ?_ ?_)<;>intro hc<;>try(exfalso;omega)))
     refine aJ (rD _ hsz ((cY u).take (u.shared.length+u.bz.length+i)) 19 18 _ _ _ _ _ _ bm bm cI cI (by decide)) ?_
     rintro _ H2 n2 ⟨rfl,hn2,hput,hf⟩
     have hn12:n<=n2:=Nat.le_trans cI hn2
     have r02:bk H2 0=some (.row 25 3 d0 [u.av]):=(hf 0 (Nat.lt_of_lt_of_le (by omega:0<n) cI) (by decide)).trans bm
     have r192:bk H2 19=some (.row 122 1 d19 [.mp 18]):=(hf 19 (Nat.lt_of_lt_of_le (by omega:19<n) cI) (by decide)).trans bm
     cases hg:(fg (u.bo.getD i default).name&& !gv ((cY u).take (u.shared.length+u.bz.length+i)) (u.bo.getD i default).name) with
     |false=>
      rw[hg,if_neg (by decide)] at ha
      have hb:eV u=false:=by unfold eV;rw[ha];simp
      rw[hb]
      repeat' (first|refine aQ ?_|exact cP|with_reducible refine aB ?_ ?_|((with_reducible refine Ask.mk ?_);first|exact bx|exact bt|(intro h;simp_all[bq.cells,br.cells]<;>fail)|(simp_all[bq.cells,br.cells]<;>fail))|(apply aA;(·exact bp))|refine aH ?_|((with_reducible refine aE ?_ ?_)<;>intro hc<;>try(exfalso;omega)))
      exact rfl
     |true=>
      rw[hg,if_pos rfl] at ha
      have hnm:gv ((cY u).take (u.shared.length+u.bz.length+i)) (u.bo.getD i default).name=false:=by revert hg;cases gv ((cY u).take (u.shared.length+u.bz.length+i)) (u.bo.getD i default).name<;>simp
      have r182:=hput hnm
      rw[<-ht] at r182
      clear hf hput
      repeat' (first|refine aQ ?_|exact cP|with_reducible refine aB ?_ ?_|((with_reducible refine Ask.mk ?_);first|exact bx|exact bt|(intro h;simp_all[bq.cells,br.cells]<;>fail)|(simp_all[bq.cells,br.cells]<;>fail))|(apply aA;(·exact bp))|refine aH ?_|((with_reducible refine aE ?_ ?_)<;>intro hc<;>try(exfalso;omega)))
      exact⟨i+1,by omega,bu,by omega,by omega,⟨_,bm⟩,⟨_,bm⟩,⟨_,bm⟩,ha.symm,hw⟩
    ·have hie:i=u.bo.length:=by omega
     subst hie
     repeat' (first|refine aQ ?_|exact cP|with_reducible refine aB ?_ ?_|((with_reducible refine Ask.mk ?_);first|exact bx|exact bt|(intro h;simp_all[bq.cells]<;>fail)|(simp_all[bq.cells]<;>fail))|(apply aA;(·exact bp))|refine aH ?_|((with_reducible refine aE ?_ ?_)<;>intro hc<;>try(exfalso;omega)))
     refine cn (Eq.symm ?_)
     have e:u.shared.length+u.bz.length+u.bo.length=(cY u).length:=by simp only[cY,List.length_append,List.length_map];omega
     have hall:eP [] (cY u)=true:=by
      rw[<-hq,e,List.drop_eq_nil_of_le (Nat.le_refl _)]
      cases(cY u).take (cY u).length<;>rfl
     unfold eV
     rw[decide_eq_true hl.1,decide_eq_true hl.2.1,decide_eq_true hl.2.2,hall]
     simp only[Bool.true_and]
     rw[List.all_eq_true]
     intro d hd
     obtain⟨j,hj,rfl⟩:=List.getElem_of_mem hd
     have:=hw j hj
     rw[show u.bz.getD j default=u.bz[j] by simp[List.getD,hj]] at this
     exact decide_eq_true this
 ·have hb:eV u=false:=by
   unfold eV
   by_cases a1:u.shared.length<=64
   ·by_cases a2:u.bz.length<=16
    ·rw[decide_eq_false (fun a3=>hl ⟨a1,a2,a3⟩:¬u.bo.length<=8)];simp
    ·rw[decide_eq_false a2];simp
   ·rw[decide_eq_false a1];simp
  rw[hb]
  repeat' (first|refine aQ ?_|exact cP|with_reducible refine aB ?_ ?_|((with_reducible refine Ask.mk ?_);first|exact bx|exact bt|(intro h;simp_all[bq.cells]<;>fail)|(simp_all[bq.cells]<;>fail))|(apply aA;(·exact bp))|refine aH ?_|((with_reducible refine aE ?_ ?_)<;>intro hc<;>try(exfalso;omega)))
  exact rfl
section
def gT (u:bq):Int×Int×Int:=if eV u=true then e8 u u.bo 0 else(60,0,0)
structure nX (u:bq) (g:br) (n:Node):Prop where
 kind:1<=n.kind/\n.kind<10
 origin:0<=n.origin/\n.origin<4096
 op:(n.kind=1->n.op<19)/\(n.kind≠1->n.op=0)
 slot:(gb n.kind=true->0<=n.slot/\n.slot<g.cZ)/\(gb n.kind=false->n.slot=0)
 cT:(fp n.kind=true->0<=n.cT/\n.cT<(if n.kind=5\/n.kind=6 then u.bz.length else u.shared.length:Nat))/\(fp n.kind=false->n.cT=0)
 a:pf n.a (lj n.kind) g.cZ=true
 b:pf n.b (decide (n.kind=1)&&eB n.op) g.cZ=true
 next:(eQ n.kind=true->0<=n.next/\n.next<g.nodes.length)/\(eQ n.kind=false->n.next=0)
 jc:(n.kind=8->0<=n.jc/\n.jc<g.nodes.length)/\(n.kind≠8->n.jc=0)
theorem IK {n most:Int} {b:Bool}:nq n b most=true↔(b=true->0<=n/\n<most)/\(b=false->n=0):=by
 unfold nq
 cases b<;>simp
theorem mr {u:bq} {g:br} {n:Node}:iW u g n=true↔nX u g n:=by
 unfold iW
 simp only[Bool.and_eq_true,decide_eq_true_eq,IK,Bool.ite_eq_true_distrib]
 constructor
 ·rintro⟨⟨⟨⟨⟨⟨⟨⟨h1,h2,h3,h4⟩,h5⟩,h6⟩,h7⟩,h8⟩,h9⟩,h10⟩,h11⟩
  refine⟨⟨h1,h2⟩,⟨h3,h4⟩, ?_,h6, ?_,h8,h9,h10, ?_⟩
  ·by_cases h:n.kind=1
   ·rw[if_pos h] at h5;exact⟨fun _=>h5,fun e=>absurd h e⟩
   ·rw[if_neg h] at h5;exact⟨fun e=>absurd e h,fun _=>h5⟩
  ·refine⟨fun e=> ?_,h7.2⟩
   have:=h7.1 e
   split at this<;>rename_i hh
   ·rw[if_pos hh];exact this
   ·rw[if_neg hh];exact this
  ·exact⟨fun e=>h11.1 (by simp[e]),fun e=>h11.2 (by simp[e])⟩
 ·intro h
  refine⟨⟨⟨⟨⟨⟨⟨⟨h.kind.1,h.kind.2,h.origin.1,h.origin.2⟩, ?_⟩,h.slot⟩,⟨fun e=> ?_,h.cT.2⟩⟩,h.a⟩,h.b⟩,h.next⟩, ?_⟩
  ·by_cases e:n.kind=1
   ·rw[if_pos e];exact h.op.1 e
   ·rw[if_neg e];exact h.op.2 e
  ·have:=h.cT.1 e
   split at this<;>rename_i hh
   ·rw[if_pos hh];exact this
   ·rw[if_neg hh];exact this
  ·exact⟨fun e=>h.jc.1 (by simpa using e),fun e=>h.jc.2 (by simpa using e)⟩
theorem jK {α:Type} {p:α->Bool}:∀{l:List α} {i:Nat},gB p l i=none↔∀x∈l,p x=true
 |[],i=>by simp[gB]
 |x::l,i=>by
  rw[gB]
  by_cases h:p x=true
  ·rw[if_pos h,jK];simp[h]
  ·rw[if_neg h];simp[h]
structure dR (u:bq) (g:br):Prop where
 locals:0<=g.locals/\g.locals<=64
 cZ:g.locals<=g.cZ/\g.cZ<=4160
 len:1<=g.nodes.length/\g.nodes.length<=4096
 nodes:∀n∈g.nodes,nX u g n
 held:(cx g).2<0
theorem EN {u:bq} {g:br} {n:Node} (h:nX u g n) {k:Int} (hk:k∈n.dQ):0<=k/\k<g.nodes.length:=by
 unfold Node.dQ at hk
 have hkd:=h.kind
 split at hk
 ·simp at hk
 ·rename_i h9
  have hn:=h.next.1 (by unfold eQ;exact decide_eq_true (by omega))
  split at hk
  ·rename_i h8
   have he:=h.jc.1 h8
   simp only[List.mem_cons,List.not_mem_nil,or_false] at hk
   rcases hk with rfl|rfl
   ·exact hn
   ·exact he
  ·simp only[List.mem_cons,List.not_mem_nil,or_false] at hk
   subst hk;exact hn
theorem oz {u:bq} {g:br} (hl:1<=g.nodes.length/\g.nodes.length<=4096) (h:∀n∈g.nodes,nX u g n):Whole g:=
 ⟨hl.1,hl.2,fun i hi=>by
  have hn:=h _ (cE default hi)
  exact⟨hn.kind.1,hn.kind.2,fun k hk=>by have:=EN hn hk;omega⟩⟩
theorem dR.whole {u:bq} {g:br} (h:dR u g):Whole g:=oz h.len h.nodes
theorem dR.node {u:bq} {g:br} (h:dR u g) {i:Nat} (hi:i<g.nodes.length):nX u g (g.nd i):=h.nodes _ (cE default hi)
theorem kI {u:bq} {g:br}:mN u g=none↔dR u g:=by
 unfold mN
 constructor
 ·intro h
  split at h
  ·cases h
  ·rename_i h1
   cases hf:gB (iW u g) g.nodes 0 with
   |some i=>rw[hf] at h;cases h
   |none=>
    rw[hf] at h
    simp only at h
    split at h
    ·cases h
    ·rename_i h2
     exact⟨by omega,by omega,by omega,fun n hn=>mr.1 (jK.1 hf n hn),by omega⟩
 ·intro h
  have h1:=h.locals
  have h2:=h.cZ
  have h3:=h.len
  have h4:=h.held
  rw[if_neg (by omega),jK.2 fun n hn=>mr.2 (h.nodes n hn)]
  simp only
  rw[if_neg (by omega)]
theorem ng {u:bq}:∀{l:List br} {t:Nat},e8 u l t=(0,0,0)↔∀g∈l,dR u g
 |[],t=>by simp[e8]
 |g::r,t=>by
  rw[e8]
  cases h:mN u g with
  |some k=>
   have:¬dR u g:=fun e=>by rw[kI.2 e] at h;cases h
   simp[this]
  |none=>
   have:=kI.1 h
   simp[ng,this]
theorem qC {u:bq}:∀{l:List br} {t:Nat},e8 u l t≠(0,0,0)->(e8 u l t).1=60
 |[],t,h=>absurd rfl h
 |g::r,t,h=>by
  rw[e8] at h ⊢
  cases hg:mN u g with
  |some k=>rfl
  |none=>rw[hg] at h;exact qC h
structure cX (u:bq):Prop where
 named:eV u=true
 bo:∀g∈u.bo,dR u g
theorem iu {u:bq}:gT u=(0,0,0)↔cX u:=by
 unfold gT
 constructor
 ·intro h
  split at h
  ·rename_i hn;exact⟨hn,ng.1 h⟩
  ·cases h
 ·intro h;rw[if_pos h.named,ng.2 h.bo]
theorem jl {u:bq} (h:¬cX u):(gT u).1=60:=by
 have h2:=mt iu.1 h
 unfold gT at h2 ⊢
 split
 ·rename_i hn;rw[if_pos hn] at h2;exact qC h2
 ·rfl
open Classical in
noncomputable def k8 (u:bq):Bool:=decide (cX u)
open Classical in
theorem cR {u:bq}:k8 u=true↔cX u:=by unfold k8;rw[decide_eq_true_eq]
theorem cX.wI {u:bq} (h:cX u):u.shared.length<=64/\u.bz.length<=16/\u.bo.length<=8:=by
 have:=h.named
 unfold eV at this
 simp only[Bool.and_eq_true,decide_eq_true_eq] at this
 exact⟨this.1.1.1.1,this.1.1.1.2,this.1.1.2⟩
theorem cX.gr {u:bq} (h:cX u) {t:Nat} (ht:t<u.bo.length):dR u (u.gr t):=h.bo _ (cE default ht)
theorem OD {u:bq} {g:br} (hg:dR u g) {lk:Nat->List Int} (hlk:yQ g lk):∀i:Int,fw g (-1) i->∀k∈lk i.toNat,0<=k/\k<u.bz.length:=by
 have hw:=hg.whole
 have hin:∀i:Int,fw g (-1) i->0<=i/\i.toNat<g.nodes.length:=fun i hi=>by
  induction hi with
  |zero=>exact⟨by omega,by have:=hw.1;simp;omega⟩
  |@step i k _ _ hk ih=>
   exact(hw.2.2 i.toNat ih.2).2.2 k hk
 intro i hi
 induction hi with
 |zero=>intro k hk;rw[show(0:Int).toNat=0 by rfl,hlk.zero] at hk;simp at hk
 |@step i j hi hc hj ih=>
  obtain⟨now,h1,h2⟩:=hlk.on i hi
  have hn:=hg.node (hin i hi).2
  rw[h2 j hj]
  intro k hk
  unfold ct at h1
  split at h1
  ·rename_i h5
   cases h1
   rcases List.mem_append.1 hk with hk|hk
   ·exact ih k hk
   ·simp only[List.mem_cons,List.not_mem_nil,or_false] at hk
    subst hk
    have:=hn.cT.1 (by unfold fp;exact decide_eq_true (by omega))
    rw[if_pos (.inl h5)] at this
    exact this
  ·split at h1
   ·split at h1
    ·cases h1
     exact ih k (List.dropLast_subset _ hk)
    ·cases h1
   ·split at h1
    ·split at h1
     ·cases h1;exact ih k hk
     ·cases h1
    ·cases h1;exact ih k hk
theorem vI {u:bq} {g:br} (hg:dR u g) (i:Nat):∀k∈(cx g).1.getD i [],0<=k/\k<u.bz.length:=by
 obtain⟨h1,h2,h3,h4⟩:=ko hg.whole hg.held
 by_cases hi:i<g.nodes.length
 ·by_cases hc:fw g (-1) i
  ·exact OD hg h3 i hc
  ·rw[h4 i hi hc];intro k hk;simp at hk
 ·rw[List.getD,List.getElem?_eq_none (by omega)];intro k hk;simp at hk
theorem L0 {u:bq} (hu:cX u) {m:Nat} (hm:m<=u.bo.length):∀x∈iJ u m,x.1<m/\(∃i,i<(u.gr x.1).nodes.length/\x.2.1=(u.gr x.1).nd i)/\∀k∈x.2.2,0<=k/\k<u.bz.length:=by
 intro x hx
 unfold iJ at hx
 rw[List.mem_flatMap] at hx
 obtain⟨t,ht,hx⟩:=hx
 have htl:=List.mem_range.1 ht
 unfold n0 at hx
 rw[List.mem_filterMap] at hx
 obtain⟨i,hi,hx⟩:=hx
 unfold sy at hx
 split at hx
 ·cases hx
  exact⟨htl,⟨i,List.mem_range.1 hi,rfl⟩,vI (hu.gr (by omega)) i⟩
 ·cases hx
theorem JF {u:bq} (hu:cX u) (v:Int):∀x∈fH (iJ u u.bo.length) v,x.1<8/\∀k∈x.2,0<=k/\k<u.bz.length:=by
 intro x hx
 unfold fH at hx
 rw[List.mem_map] at hx
 obtain⟨y,hy,rfl⟩:=hx
 have:=L0 hu (Nat.le_refl _) y (List.mem_filter.1 hy).1
 have hf:=hu.wI
 exact⟨by dsimp only;omega,this.2.2⟩
theorem EA {u:bq} (hu:cX u) (v:Int):rL ((cd (jP (iJ u u.bo.length)) v).getD (0,0))=mH u.bz.length (fH (iJ u u.bo.length) v):=by
 rw[<-BQ hu.wI.2.1 (JF hu v),sm]
 split<;>rfl
end
end Go.Proofs.YtmonponfppdgfaaGreatDoor
