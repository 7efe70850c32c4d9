import Derived.Test.YtjopoheligmmoaaGreatDoorM23
import Derived.Test.YtjopoheligmmoaaGreatDoorM24
namespace Go.Proofs.YtjopoheligmmoaaGreatDoor
open Go Go.dA Go.Proofs
set_option linter.unusedSimpArgs false
set_option linter.unusedVariables false
theorem fp (op:Int) (h0:0<=op):Pure Tryz.prog 159 [u8 op] (fun r=>r=bl (eG op)):=by
 refine aG XD rfl ?_
 repeat' (first|refine aQ ?_|exact aC|with_reducible refine aB ?_ ?_|(apply aA;(·exact cK))|((with_reducible refine aP (gW _) ?_ ?_);(·exact cN))|((with_reducible refine aL (fun _=>gW _) ?_ ?_);(·exact cN))|((with_reducible refine aN (gW _) ?_ ?_);(·exact cN))|((with_reducible refine aO (fun _=>gW _) ?_ ?_);(·exact cN))|refine aH ?_|((with_reducible refine aE ?_ ?_)<;>intro hc<;>try(exfalso;omega)))
 refine dw ?_
 unfold eG
 by_cases h1:0<op<;>by_cases h2:op<19<;>by_cases h3:op=17<;>by_cases h4:op=18<;>simp[h1,h2,h3,h4]<;>omega
def mask (k op:Int):Int:=if k=1 then(if eG op=true then 59 else 43) else if k=2 then 38 else if k=3 then 44 else if k=4 then 46 else if k=5 then 36 else if k=6 then 36 else if k=7 then 40 else if k=8 then 104 else 0
set_option maxRecDepth 100000 in
theorem DV (n:Node) (hn:n.Wf) (h:1<=n.kind/\n.kind<10):Pure Tryz.prog 116 [n.av] (fun r=>r=u8 (mask n.kind n.op)):=by
 obtain⟨h0,h1⟩:=h
 have ho:=hn.op.1
 obtain⟨kind,op,slot,cV,a,b,next,sY,origin⟩:=n
 simp only at h0 h1 ho
 have hk:kind=1\/kind=2\/kind=3\/kind=4\/kind=5\/kind=6\/kind=7\/kind=8\/kind=9:=by omega
 rcases hk with rfl|rfl|rfl|rfl|rfl|rfl|rfl|rfl|rfl
 ·refine aG R9 rfl ?_
  repeat' (first|refine aQ ?_|exact aC|with_reducible refine aB ?_ ?_|(apply aA;(·exact cK))|((with_reducible refine aP (fp _ ho) ?_ ?_);(·exact cN))|((with_reducible refine aL (fun _=>fp _ ho) ?_ ?_);(·exact cN))|((with_reducible refine aN (fp _ ho) ?_ ?_);(·exact cN))|((with_reducible refine aO (fun _=>fp _ ho) ?_ ?_);(·exact cN))|refine aH ?_|((with_reducible refine aE ?_ ?_)<;>intro hc<;>try(exfalso;omega)))
  all_goals
   cases ht:eG op with
   |true=>
    rw[ht] at hc
    first|(exact absurd rfl hc)|(exact absurd hc (by decide))|(simp only[show mask 1 op=59 by simp[mask,ht]];try kernel_rfl)
   |false=>
    rw[ht] at hc
    first|(exact absurd rfl hc)|(exact absurd hc (by decide))|(simp only[show mask 1 op=43 by simp[mask,ht]];try kernel_rfl)
 iterate 8
  refine cz ?_ (by simp[cP])
  refine aM R9 rfl ?_
  refine ca ?_
  exact⟨rfl⟩
theorem jd.default_eq:(default:jd)=⟨false,0,0⟩:=rfl
def j9 (m u:Int):Int:=IntKind.u8.wrap (BitVec.ofInt IntKind.u8.bits m&&& BitVec.ofInt IntKind.u8.bits u).toNat
theorem sW (k u most m:Int) (b:Nat) (H:Hp) (nx:Nat) (e:TypeId) (d:AV) (hb:cC H b=some (.row e 1 d [u8 m])):xD Tryz.prog 117 [i64 k,u8 u,i64 most, .pt b 1 0 0] H nx (bl (pZ k (decide (j9 m u≠0)) most)):=by
 refine ai WN rfl ?_
 repeat' (first|refine aQ ?_|exact aC|with_reducible refine aB ?_ ?_|(apply aA;(·exact cK))|refine aH ?_|((with_reducible refine aE ?_ ?_)<;>intro hc<;>try(exfalso;omega)))
 refine KT.look ?_ y9
 simp only[show IntKind.u8.wrap (BitVec.ofInt IntKind.u8.bits m&&& BitVec.ofInt IntKind.u8.bits u).toNat=j9 m u from rfl,pZ]
 by_cases h1:j9 m u=0<;>by_cases h2:k=0<;>by_cases h3:0<=k<;>by_cases h4:k<most<;>simp[h1,h2,h3,h4]
theorem uu (v:jd) (u m:Int) (g:cG) (b c:Nat) (H:Hp) (nx:Nat) (e e2:TypeId) (d d2:AV) (hb:cC H b=some (.row e 1 d [u8 m])) (hc:cC H c=some (.row e2 4 d2 [g.av])) (hbn:b<nx) (hcn:c<nx):xD Tryz.prog 118 [v.av,u8 u, .pt b 1 0 0, .pt c 1 0 0] H nx (bl (pb v (decide (j9 m u≠0)) g.cH)):=by
 refine ai WO rfl ?_
 repeat' (first|refine aQ ?_|exact eE|with_reducible refine aB ?_ ?_|((with_reducible refine Ask.mk ?_);first|exact cw|exact cX|(intro h;simp_all[jd.cells,cG.cells]<;>fail)|(simp_all[jd.cells,cG.cells]<;>fail))|(apply aA;(·exact cK))|refine aH ?_|((with_reducible refine aE ?_ ?_)<;>intro hc<;>try(exfalso;omega)))
 all_goals refine KT.look ?_ y9
 all_goals simp only[show IntKind.u8.wrap (BitVec.ofInt IntKind.u8.bits m&&& BitVec.ofInt IntKind.u8.bits u).toNat=j9 m u from rfl] at *
 all_goals unfold pb
 ·rw[if_neg (show ¬decide (j9 m u≠0)=true by simp[hc])]
  obtain⟨is,sl,wo⟩:=v
  refine dw ?_
  rw[Bool.eq_iff_iff]
  simp[jd.default_eq,and_assoc]
 ·rename_i h0
  rw[decide_eq_true hc,if_pos rfl,if_pos h0]
  refine dw ?_
  by_cases h1:0<=v.slot<;>by_cases h2:v.slot<g.cH<;>simp[h1,h2]
 ·rename_i h0
  rw[decide_eq_true hc,if_pos rfl,if_neg (by rw[h0];decide)]
theorem I5 (k op:Int) (h:1<=k/\k<10):(j9 (mask k op) 1=0↔¬k=1)/\(decide (j9 (mask k op) 2≠0)=jV k)/\(decide (j9 (mask k op) 4≠0)=fq k)/\(decide (j9 (mask k op) 8≠0)=nr k)/\(decide (j9 (mask k op) 16≠0)=(decide (k=1)&&eG op))/\(decide (j9 (mask k op) 32≠0)=iY k)/\(decide (j9 (mask k op) 64≠0)=decide (k=8)):=by
 have hk:k=1\/k=2\/k=3\/k=4\/k=5\/k=6\/k=7\/k=8\/k=9:=by omega
 rcases hk with rfl|rfl|rfl|rfl|rfl|rfl|rfl|rfl|rfl
 ·cases ht:eG op with
  |false=>rw[show mask 1 op=43 by simp[mask,ht]];decide
  |true=>rw[show mask 1 op=59 by simp[mask,ht]];decide
 ·rw[show mask 2 op=38 by rfl,show(decide ((2:Int)=1)&&eG op)=false by rfl];decide
 ·rw[show mask 3 op=44 by rfl,show(decide ((3:Int)=1)&&eG op)=false by rfl];decide
 ·rw[show mask 4 op=46 by rfl,show(decide ((4:Int)=1)&&eG op)=false by rfl];decide
 ·rw[show mask 5 op=36 by rfl,show(decide ((5:Int)=1)&&eG op)=false by rfl];decide
 ·rw[show mask 6 op=36 by rfl,show(decide ((6:Int)=1)&&eG op)=false by rfl];decide
 ·rw[show mask 7 op=40 by rfl,show(decide ((7:Int)=1)&&eG op)=false by rfl];decide
 ·rw[show mask 8 op=104 by rfl,show(decide ((8:Int)=1)&&eG op)=false by rfl];decide
 ·rw[show mask 9 op=0 by rfl,show(decide ((9:Int)=1)&&eG op)=false by rfl];decide
set_option maxRecDepth 4000 in
set_option maxHeartbeats 2000000 in
theorem EA (u:cF) (g:cG) (n:Node) (hn:n.Wf):Pure Tryz.prog 72 [u.av,g.av,n.av] (fun r=>r=bl (iw u g n)):=by
 refine aG aA6 rfl ?_
 have h0:=hn.kind.1
 have ho:=hn.op.1
 by_cases hk:1<=n.kind/\n.kind<10/\0<=n.origin/\n.origin<4096
 ·have hp:=DV n hn ⟨hk.1,hk.2.1⟩
  obtain⟨m1,m2,m3,m4,m5,m6,m7⟩:=I5 n.kind n.op ⟨hk.1,hk.2.1⟩
  repeat' (first|refine aQ ?_|exact eE|with_reducible refine aB ?_ ?_|((with_reducible refine Ask.mk ?_);first|exact cw|exact cX|(intro h;simp_all[cF.cells,cG.cells,Node.cells]<;>fail)|(simp_all[cF.cells,cG.cells,Node.cells]<;>fail))|(apply aA;(·exact cK))|refine aK (hp) ?_|((refine af (sW _ _ _ _ _ _ _ _ _ (by exact rfl)) ?_ ?_);(·exact True.intro))|((refine aa (fun _=>sW _ _ _ _ _ _ _ _ _ (by exact rfl)) ?_ ?_);(·exact True.intro))|((refine af (uu ⟨_,_,_⟩ _ _ _ _ _ _ _ _ _ _ _ (by exact rfl) (by exact rfl) cZ cZ) ?_ ?_);(·exact True.intro))|((refine aa (fun _=>uu ⟨_,_,_⟩ _ _ _ _ _ _ _ _ _ _ _ (by exact rfl) (by exact rfl) cZ cZ) ?_ ?_);(·exact True.intro))|refine aH ?_|((with_reducible refine aE ?_ ?_)<;>intro hc<;>try(exfalso;omega)))
  all_goals
   have hop:pZ (IntKind.i64.wrap n.op) (decide (j9 (mask n.kind n.op) 1≠0)) 19=(if n.kind=1 then decide (n.op<19) else decide (n.op=0)):=by
    have h2:=hn.op.2
    rw[wrap64 (by omega) (by omega)]
    unfold pZ
    by_cases h1:n.kind=1
    ·rw[if_pos h1,if_pos (show decide (j9 (mask n.kind n.op) 1≠0)=true by rw[decide_eq_true_eq];exact fun h=>m1.1 h h1),decide_eq_true ho,Bool.true_and]
    ·rw[if_neg h1,if_neg (show ¬decide (j9 (mask n.kind n.op) 1≠0)=true by rw[decide_eq_true_eq];exact fun h=>h (m1.2 h1))]
   refine dw ?_
   rw[hop,m2,m3,m4,m5,m6,m7]
   unfold iw
   rw[decide_eq_true hk,Bool.true_and]
   simp only[hc,if_true,if_false,or_self,Bool.if_false_right,Bool.decide_eq_true,Bool.and_assoc]
   simp only[List.length_map]
   generalize pZ n.slot (jV n.kind) g.cH=x1
   have ea:(⟨n.a.iC,n.a.slot,n.a.word⟩:jd)=n.a:=rfl
   have eb:(⟨n.b.iC,n.b.slot,n.b.word⟩:jd)=n.b:=rfl
   rw[ea,eb]
   generalize pb n.a (nr n.kind) g.cH=x2
   generalize pb n.b (decide (n.kind=1)&&eG n.op) g.cH=x3
   generalize pZ n.next (iY n.kind) g.nodes.length=x4
   generalize pZ n.sY (decide (n.kind=8)) g.nodes.length=x5
   revert x1 x2 x3 x4 x5
   intro x1 x2 x3 x4 x5
   cases x1<;>cases x2<;>cases x3<;>cases x4<;>cases x5<;>simp
 ·have hb:iw u g n=false:=by unfold iw;rw[decide_eq_false hk];simp
  rw[hb]
  repeat' (first|refine aQ ?_|exact eE|with_reducible refine aB ?_ ?_|((with_reducible refine Ask.mk ?_);first|exact cw|exact cX|(intro h;simp_all[cF.cells,cG.cells,Node.cells]<;>fail)|(simp_all[cF.cells,cG.cells,Node.cells]<;>fail))|(apply aA;(·exact cK))|refine aH ?_|((with_reducible refine aE ?_ ?_)<;>intro hc<;>try(exfalso;omega)))
  exact rfl
def fT (c:Int):Bool:=decide (48<=c)&&decide (c<=57)
def iT (c:Int):Bool:=decide (97<=c)&&decide (c<=122)||decide (65<=c)&&decide (c<=90)||decide (c=95)
def E8:List ByteArray:=[⟨(List.toArray [115,104,97,114,101,100])⟩,⟨(List.toArray [108,111,99,107])⟩,⟨(List.toArray [116,104,114,101,97,100])⟩,⟨(List.toArray [108,111,99,97,108])⟩,⟨(List.toArray [105,102])⟩,⟨(List.toArray [101,108,115,101])⟩,⟨(List.toArray [119,104,105,108,101])⟩,⟨(List.toArray [112,114,105,110,116])⟩,⟨(List.toArray [115,107,105,112])⟩,⟨(List.toArray [115,119,97,112])⟩]
def nA (s:ByteArray):Bool:=E8.any (s==·)
theorem eZ (c:Int):Pure Tryz.prog 165 [u8 c] (fun r=>r=bl (iT c)):=by
 refine aG XK rfl ?_
 repeat' (first|refine aQ ?_|exact aC|with_reducible refine aB ?_ ?_|(apply aA;(·exact cK))|refine aH ?_|((with_reducible refine aE ?_ ?_)<;>intro hc<;>try(exfalso;omega)))
 refine dw ?_
 unfold iT
 by_cases h1:97<=c<;>by_cases h2:c<=122<;>by_cases h3:65<=c<;>by_cases h4:c<=90<;>by_cases h5:c=95<;>simp[h1,h2,h3,h4,h5]
theorem iI (s:ByteArray):Pure Tryz.prog 164 [st s] (fun r=>r=bl (nA s)):=by
 refine aG XJ rfl ?_
 repeat' (first|refine aQ ?_|exact aC|with_reducible refine aB ?_ ?_|(apply aA;(·exact cK))|refine aH ?_|((with_reducible refine aE ?_ ?_)<;>intro hc<;>try(exfalso;omega)))
 all_goals refine dw ?_
 all_goals simp_all[nA,E8]
def fO (s:ByteArray) (i:Nat):Int:=(s.data.toList.getD i 0).toNat
def fe (s:ByteArray):Bool:=decide (1<=s.size)&&decide (s.size<=32)&& !fT (fO s 0)&& !nA s&&(List.range s.size).all fun i=>iT (fO s i)||fT (fO s i)
theorem RF (s:ByteArray):(s==(⟨#[]⟩:ByteArray))=decide (s.size=0):=by
 obtain⟨d⟩:=s
 show(d==#[])=_
 rw[Bool.eq_iff_iff]
 show(d==#[])=true↔decide (d.size=0)=true
 simp
theorem JA (s:ByteArray) (hs:s.size<=140737488351232):Pure Tryz.prog 115 [st s] (fun r=>r=bl (fe s)):=by
 refine aG WM rfl ?_
 have e0:=RF s
 by_cases hz:s.size=0
 ·have e1:(s==(⟨#[]⟩:ByteArray))=true:=by rw[e0,decide_eq_true hz]
  have hb:fe s=false:=by unfold fe;rw[decide_eq_false (by omega)];simp
  rw[hb]
  repeat' (first|refine aQ ?_|exact eE|with_reducible refine aB ?_ ?_|((with_reducible refine Ask.mk ?_);first|exact cw|((refine Ask.mk ?_);intro h;simp_all)|exact cX)|(apply aA;(·exact cK))|((with_reducible refine aP (fG _) ?_ ?_);(·exact cN))|((with_reducible refine aL (fun _=>fG _) ?_ ?_);(·exact cN))|((with_reducible refine aN (fG _) ?_ ?_);(·exact cN))|((with_reducible refine aO (fun _=>fG _) ?_ ?_);(·exact cN))|((with_reducible refine aP (iI _) ?_ ?_);(·exact cN))|((with_reducible refine aL (fun _=>iI _) ?_ ?_);(·exact cN))|((with_reducible refine aN (iI _) ?_ ?_);(·exact cN))|((with_reducible refine aO (fun _=>iI _) ?_ ?_);(·exact cN))|((with_reducible refine aP (eZ _) ?_ ?_);(·exact cN))|((with_reducible refine aL (fun _=>eZ _) ?_ ?_);(·exact cN))|((with_reducible refine aN (eZ _) ?_ ?_);(·exact cN))|((with_reducible refine aO (fun _=>eZ _) ?_ ?_);(·exact cN))|(simp only[e1])|refine aH ?_|((with_reducible refine aE ?_ ?_)<;>intro hc<;>try(exfalso;omega)))
  all_goals first|exact rfl|(exfalso;simp_all)
 ·have e1:(s==(⟨#[]⟩:ByteArray))=false:=by rw[e0,decide_eq_false hz]
  repeat' (first|refine aQ ?_|exact eE|with_reducible refine aB ?_ ?_|((with_reducible refine Ask.mk ?_);first|exact cw|((refine Ask.mk ?_);intro h;exact⟨by omega,by omega⟩)|exact cX)|(apply aA;(·exact cK))|((with_reducible refine aP (fG _) ?_ ?_);(·exact cN))|((with_reducible refine aL (fun _=>fG _) ?_ ?_);(·exact cN))|((with_reducible refine aN (fG _) ?_ ?_);(·exact cN))|((with_reducible refine aO (fun _=>fG _) ?_ ?_);(·exact cN))|((with_reducible refine aP (iI _) ?_ ?_);(·exact cN))|((with_reducible refine aL (fun _=>iI _) ?_ ?_);(·exact cN))|((with_reducible refine aN (iI _) ?_ ?_);(·exact cN))|((with_reducible refine aO (fun _=>iI _) ?_ ?_);(·exact cN))|((with_reducible refine aP (eZ _) ?_ ?_);(·exact cN))|((with_reducible refine aL (fun _=>eZ _) ?_ ?_);(·exact cN))|((with_reducible refine aN (eZ _) ?_ ?_);(·exact cN))|((with_reducible refine aO (fun _=>eZ _) ?_ ?_);(·exact cN))|(simp only[e1])|refine aH ?_|((with_reducible refine aE ?_ ?_)<;>intro hc<;>try(exfalso;omega)))
  ·refine dw (Eq.symm ?_)
   unfold fe
   have hp:(decide (1<=s.size)&&decide (s.size<=32)&& !fT (fO s 0)&& !nA s)=false:=by
    rcases hc with((h|h)|h)|h
    ·exact absurd h (by decide)
    ·simp[show ¬s.size<=32 by omega]
    ·have h:48<=fO s 0/\fO s 0<=57:=h
     simp[fT,h.1,h.2]
    ·simp[h]
   rw[hp,Bool.false_and]
  ·have hp:(decide (1<=s.size)&&decide (s.size<=32)&& !fT (fO s 0)&& !nA s)=true:=by
    obtain⟨h1,h2⟩:=hc
    have h3:¬(48<=fO s 0/\fO s 0<=57):=fun h=>h1 (.inr h)
    have h4:s.size<=32:=by
     have:¬(32:Int)<s.size:=fun h=>h1 (.inl (.inr h))
     omega
    have h5:fT (fO s 0)=false:=by
     unfold fT
     by_cases h:48<=fO s 0
     ·rw[decide_eq_true h,decide_eq_false (fun h'=>h3 ⟨h,h'⟩)];rfl
     ·rw[decide_eq_false h];rfl
    rw[decide_eq_true (by omega:1<=s.size),decide_eq_true h4,h5,h2];rfl
   have hb:∀R,(decide (1<=s.size)&&decide (s.size<=32)&& !fT (fO s 0)&& !nA s&&R)=R:=fun R=>by rw[hp,Bool.true_and]
   unfold fe
   rw[hb]
   clear hc hp hb e1 e0
   refine aI (fun i:Nat=>[(0,st s),(21,i64 s.size),(22,i64 i)]) (fun i H n=>i<=s.size/\∀j,j<i->(iT (fO s j)||fT (fO s j))=true) (fun i=>s.size - i) 0 cJ ⟨Nat.zero_le _,fun _ h=>by omega⟩ ?_
   rintro i H n ⟨hi,hall⟩
   by_cases his:i<s.size
   ·repeat' (first|refine aQ ?_|exact eE|with_reducible refine aB ?_ ?_|((with_reducible refine Ask.mk ?_);first|exact cw|((refine Ask.mk ?_);intro h;exact⟨by omega,by omega⟩)|exact cX)|(apply aA;(·exact cK))|((with_reducible refine aP (fG _) ?_ ?_);(·exact cN))|((with_reducible refine aL (fun _=>fG _) ?_ ?_);(·exact cN))|((with_reducible refine aN (fG _) ?_ ?_);(·exact cN))|((with_reducible refine aO (fun _=>fG _) ?_ ?_);(·exact cN))|((with_reducible refine aP (eZ _) ?_ ?_);(·exact cN))|((with_reducible refine aL (fun _=>eZ _) ?_ ?_);(·exact cN))|((with_reducible refine aN (eZ _) ?_ ?_);(·exact cN))|((with_reducible refine aO (fun _=>eZ _) ?_ ?_);(·exact cN))|refine aH ?_|((with_reducible refine aE ?_ ?_)<;>intro hc<;>try(exfalso;omega)))
    ·refine dw (Eq.symm ?_)
     rw[Bool.eq_false_iff,ne_eq,List.all_eq_true]
     intro hA
     have h1:=hA i (List.mem_range.2 his)
     have hc:iT (fO s i)=false/\(fO s i<48\/57<fO s i):=hc
     rw[hc.1,Bool.false_or] at h1
     simp only[fT,Bool.and_eq_true,decide_eq_true_eq] at h1
     omega
    ·refine⟨i+1,by omega,cJ,by omega,fun j hj=> ?_⟩
     by_cases hji:j=i
     ·have hc:¬iT (fO s i)=false\/(48<=fO s i/\fO s i<=57):=hc
      rw[hji]
      rcases hc with h|h
      ·rw[Bool.not_eq_false] at h
       rw[h,Bool.true_or]
      ·simp[fT,h.1,h.2]
     ·exact hall j (by omega)
   ·have:i=s.size:=by omega
    subst this
    repeat' (first|refine aQ ?_|exact aC|with_reducible refine aB ?_ ?_|(apply aA;(·exact cK))|refine aH ?_|((with_reducible refine aE ?_ ?_)<;>intro hc<;>try(exfalso;omega)))
    refine dw (Eq.symm ?_)
    rw[List.all_eq_true]
    intro j hj
    exact hall j (List.mem_range.1 hj)
abbrev AH (E:List (ByteArray×Bool)):List AV:=rn (fun s:ByteArray=>Value.string s) bl E
theorem Z5 (E:List (ByteArray×Bool)) (t:ByteArray):nY true (.string t) (AH E) (bl false)=some (bl ((fQ E t).getD false),(fQ E t).isSome):=(DK xc bl t E (bl false)).trans (by cases fQ E t<;>rfl)
theorem aAq (E:List (ByteArray×Bool)) (t:ByteArray) (v:Bool):qW true (.string t) (AH E) (bl v)=some (AH (jl E t v)):=DL xc bl t v E
def ni (l:List ByteArray):List (ByteArray×Bool):=l.map fun s=>(s,true)
def gJ:List ByteArray->ByteArray->Bool
 |[],_=>false
 |a::l,s=>if s=a then true else gJ l s
theorem AJ (l:List ByteArray) (s:ByteArray):gJ l s=true↔s∈l:=by
 induction l with
 |nil=>simp[gJ]
 |cons a l ih=>
  rw[gJ]
  by_cases h:s=a
  ·simp[h]
  ·simp[h,ih]
theorem JY (l:List ByteArray) (s:ByteArray):(fQ (ni l) s).getD false=gJ l s:=by
 induction l with
 |nil=>rfl
 |cons a l ih=>
  show((if s=a then some true else fQ (ni l) s)).getD false=(if s=a then true else gJ l s)
  by_cases h:s=a
  ·rw[if_pos h,if_pos h];rfl
  ·rw[if_neg h,if_neg h,ih]
theorem OL (l:List ByteArray) (s:ByteArray) (h:gJ l s=false):jl (ni l) s true=ni (l++[s]):=by
 induction l with
 |nil=>rfl
 |cons a l ih=>
  rw[gJ] at h
  by_cases e:s=a
  ·rw[if_pos e] at h;cases h
  ·rw[if_neg e] at h
   show(if s=a then(s,true)::ni l else(a,true)::jl (ni l) s true)=_
   rw[if_neg e,ih h];rfl
theorem tF (s:ByteArray) (hs:s.size<=140737488351232) (l:List ByteArray) (b m:Nat) (H:Hp) (nx:Nat) (e em:TypeId) (d dm:AV) (hb:cC H b=some (.row e 1 d [.mp m])) (hm:cC H m=some (.row em 0 dm (mapA (AH (ni l))))) (hbn:b<nx) (hmn:m<nx) (hbm:b≠m):
 cT Tryz.prog 114 [st s, .pt b 1 0 0] H nx (fun r H' n=>r=bl (fe s&& !gJ l s)/\nx<=n/\(gJ l s=false->cC H' m=some (.row em 0 dm (mapA (AH (ni (l++[s]))))))/\∀y,y<nx->y≠m->cC H' y=cC H y):=by
 refine aM WK rfl ?_
 repeat' (first|refine aQ ?_|exact aC|with_reducible refine aB ?_ ?_|(apply aA;(·exact cK))|refine aK (JA s hs) ?_|(apply aS (g:=some _);(·exact fun _=>Z5 _ _))|(apply aS (g:=none);(·exact fun _=>aAq _ _ _))|refine aH ?_|((with_reducible refine aE ?_ ?_)<;>intro hc<;>try(exfalso;omega)))
 refine⟨⟨?_,cZ,fun h=> ?_,fun y hy hym=> ?_⟩⟩
 ·rw[JY]
  refine dw ?_
  cases fe s<;>cases gJ l s<;>rfl
 ·rw[<-OL l s h]
  exact cE
 ·exact cM
def fA:List ByteArray->List ByteArray->Bool
 |_,[]=>true
 |acc,s::r=>if(fe s&& !gJ acc s)=true then fA (acc++[s]) r else false
def dD (u:cF):List ByteArray:=u.shared.map Decl.name++(u.cI.map Decl.name++u.cD.map cG.name)
def fN (u:cF):Bool:=decide (u.shared.length<=64)&&decide (u.cI.length<=16)&&decide (u.cD.length<=8)&&fA [] (dD u)&&u.cI.all (fun d=>decide (d.word=0))
theorem nI (u:cF) {k:Nat} (hk:k<(dD u).length) (h:fA ((dD u).take k) ((dD u).drop k)=fA [] (dD u)) {s:ByteArray} (hs:(dD u).getD k default=s):
 (fA [] (dD u)=if(fe s&& !gJ ((dD u).take k) s)=true then fA ((dD u).take (k+1)) ((dD u).drop (k+1)) else false)/\(dD u).take (k+1)=(dD u).take k++[s]:=by
 have e:(dD u)[k]=s:=by rw[<-hs];simp[List.getD,hk]
 have e2:(dD u).take (k+1)=(dD u).take k++[s]:=by rw[List.take_succ_eq_append_getElem hk,e]
 refine⟨?_,e2⟩
 rw[<-h,List.drop_eq_getElem_cons hk,fA,e,e2]
theorem QM (u:cF) {i:Nat} (h:i<u.shared.length):(dD u).getD i default=(u.shared.getD i default).name:=by
 simp[dD,List.getD,List.getElem?_append,h]
theorem QL (u:cF) {i:Nat} (h:i<u.cI.length):(dD u).getD (u.shared.length+i) default=(u.cI.getD i default).name:=by
 unfold dD
 rw[List.getD,List.getElem?_append_right (by simp),List.length_map,Nat.add_sub_cancel_left,List.getElem?_append_left (by simpa using h)]
 simp[List.getD,h]
theorem QK (u:cF) {i:Nat} (h:i<u.cD.length):(dD u).getD (u.shared.length+u.cI.length+i) default=(u.cD.getD i default).name:=by
 unfold dD
 rw[List.getD,List.getElem?_append_right (by simp;omega),List.getElem?_append_right (by simp;omega)]
 simp only[List.length_map]
 rw[show u.shared.length+u.cI.length+i - u.shared.length - u.cI.length=i by omega]
 simp[List.getD,h]
set_option maxHeartbeats 4000000 in
theorem DN (u:cF) (hu:u.Wf):Pure Tryz.prog 71 [u.av] (fun r=>r=bl (fN u)):=by
 refine aG aA5 rfl ?_
 have h1:=hu.kC
 have h2:=hu.lj
 have h3:=hu.l7
 by_cases hl:u.shared.length<=64/\u.cI.length<=16/\u.cD.length<=8
 ·repeat' (first|refine aQ ?_|exact eE|with_reducible refine aB ?_ ?_|((with_reducible refine Ask.mk ?_);first|exact cw|exact cX|(intro h;simp_all[cF.cells]<;>fail)|(simp_all[cF.cells]<;>fail))|(apply aA;(·exact cK))|refine aH ?_|((with_reducible refine aE ?_ ?_)<;>intro hc<;>try(exfalso;omega)))
  clear hc
  simp only[List.length_map]
  refine aI (fun i:Nat=>[(1, .pt 0 1 0 0),(4, .fn (.func 114) [] [.pt 19 1 0 0]),(30,cq u.shared),(31,i64 u.shared.length),(32,i64 i)]) (fun i H n=>i<=u.shared.length/\20<=n/\(∃d,cC H 0=some (.row 25 3 d [u.av]))/\(∃d,cC H 19=some (.row 178 1 d [.mp 18]))/\(∃d,cC H 18=some (.row 9 0 d (mapA (AH (ni ((dD u).take (i)))))))/\fA ((dD u).take (i)) ((dD u).drop (i))=fA [] (dD u)) (fun i=>u.shared.length - i) 0 cJ ⟨Nat.zero_le _,cZ,⟨_,cE⟩,⟨_,cE⟩,⟨_,cE⟩,rfl⟩ ?_
  rintro i H n ⟨hi,hn,⟨d0,r0⟩,⟨d19,r19⟩,⟨d18,r18⟩,hq⟩
  by_cases hil:i<u.shared.length
  ·have hk:i<(dD u).length:=by simp only[dD,List.length_append,List.length_map];omega
   have hs:(dD u).getD (i) default=(u.shared.getD i default).name:=QM u hil
   obtain⟨ha,ht⟩:=nI u hk hq hs
   have hsz:=(hu.shared _ (cQ default hil)).name
   repeat' (first|refine aQ ?_|exact eE|with_reducible refine aB ?_ ?_|((with_reducible refine Ask.mk ?_);first|exact cw|exact cX|(intro h;simp_all[cF.cells,Decl.cells]<;>fail)|(simp_all[cF.cells,Decl.cells]<;>fail))|(apply aA;(·(first|exact LR|exact cK)))|refine aH ?_|((with_reducible refine aE ?_ ?_)<;>intro hc<;>try(exfalso;omega)))
   refine aJ (tF _ hsz ((dD u).take (i)) 19 18 _ _ _ _ _ _ cE cE cZ cZ (by decide)) ?_
   rintro _ H2 n2 ⟨rfl,hn2,hput,hf⟩
   have hn12:n<=n2:=Nat.le_trans cZ hn2
   have r02:cC H2 0=some (.row 25 3 d0 [u.av]):=(hf 0 (Nat.lt_of_lt_of_le (by omega:0<n) cZ) (by decide)).trans cE
   have r192:cC H2 19=some (.row 178 1 d19 [.mp 18]):=(hf 19 (Nat.lt_of_lt_of_le (by omega:19<n) cZ) (by decide)).trans cE
   cases hg:(fe (u.shared.getD i default).name&& !gJ ((dD u).take (i)) (u.shared.getD i default).name) with
   |false=>
    rw[hg,if_neg (by decide)] at ha
    have hb:fN u=false:=by unfold fN;rw[ha];simp
    rw[hb]
    repeat' (first|refine aQ ?_|exact eE|with_reducible refine aB ?_ ?_|((with_reducible refine Ask.mk ?_);first|exact cw|exact cX|(intro h;simp_all[cF.cells,Decl.cells]<;>fail)|(simp_all[cF.cells,Decl.cells]<;>fail))|(apply aA;(·exact cK))|refine aH ?_|((with_reducible refine aE ?_ ?_)<;>intro hc<;>try(exfalso;omega)))
    exact rfl
   |true=>
    rw[hg,if_pos rfl] at ha
    have hnm:gJ ((dD u).take (i)) (u.shared.getD i default).name=false:=by revert hg;cases gJ ((dD u).take (i)) (u.shared.getD i default).name<;>simp
    have r182:=hput hnm
    rw[<-ht] at r182
    clear hf hput
    repeat' (first|refine aQ ?_|exact eE|with_reducible refine aB ?_ ?_|((with_reducible refine Ask.mk ?_);first|exact cw|exact cX|(intro h;simp_all[cF.cells,Decl.cells]<;>fail)|(simp_all[cF.cells,Decl.cells]<;>fail))|(apply aA;(·exact cK))|refine aH ?_|((with_reducible refine aE ?_ ?_)<;>intro hc<;>try(exfalso;omega)))
    exact⟨i+1,by omega,cJ,by omega,by omega,⟨_,cE⟩,⟨_,cE⟩,⟨_,cE⟩,ha.symm⟩
  ·have hie:i=u.shared.length:=by omega
   subst hie
   repeat' (first|refine aQ ?_|exact eE|with_reducible refine aB ?_ ?_|((with_reducible refine Ask.mk ?_);first|exact cw|exact cX|(intro h;simp_all[cF.cells]<;>fail)|(simp_all[cF.cells]<;>fail))|(apply aA;(·exact cK))|refine aH ?_|((with_reducible refine aE ?_ ?_)<;>intro hc<;>try(exfalso;omega)))
   refine aI (fun i:Nat=>[(1, .pt 0 1 0 0),(4, .fn (.func 114) [] [.pt 19 1 0 0]),(43,cq u.cI),(44,i64 u.cI.length),(45,i64 i)]) (fun i H n=>i<=u.cI.length/\20<=n/\(∃d,cC H 0=some (.row 25 3 d [u.av]))/\(∃d,cC H 19=some (.row 178 1 d [.mp 18]))/\(∃d,cC H 18=some (.row 9 0 d (mapA (AH (ni ((dD u).take (u.shared.length+i)))))))/\fA ((dD u).take (u.shared.length+i)) ((dD u).drop (u.shared.length+i))=fA [] (dD u)/\∀j,j<i->(u.cI.getD j default).word=0) (fun i=>u.cI.length - i) 0 cJ ⟨Nat.zero_le _,cZ,⟨_,cE⟩,⟨_,cE⟩,⟨_,by rw[Nat.add_zero];exact cE⟩,by rw[Nat.add_zero];exact hq,fun _ h=>by omega⟩ ?_
   clear r0 r19 r18 hq hc
   rintro i H n ⟨hi,hn,⟨d0,r0⟩,⟨d19,r19⟩,⟨d18,r18⟩,hq,hw⟩
   by_cases hil:i<u.cI.length
   ·have hk:u.shared.length+i<(dD u).length:=by simp only[dD,List.length_append,List.length_map];omega
    have hs:(dD u).getD (u.shared.length+i) default=(u.cI.getD i default).name:=QL u hil
    obtain⟨ha,ht⟩:=nI u hk hq hs
    have hsz:=(hu.cI _ (cQ default hil)).name
    repeat' (first|refine aQ ?_|exact eE|with_reducible refine aB ?_ ?_|((with_reducible refine Ask.mk ?_);first|exact cw|exact cX|(intro h;simp_all[cF.cells,Decl.cells]<;>fail)|(simp_all[cF.cells,Decl.cells]<;>fail))|(apply aA;(·(first|exact LR|exact cK)))|refine aH ?_|((with_reducible refine aE ?_ ?_)<;>intro hc<;>try(exfalso;omega)))
    refine aJ (tF _ hsz ((dD u).take (u.shared.length+i)) 19 18 _ _ _ _ _ _ cE cE cZ cZ (by decide)) ?_
    rintro _ H2 n2 ⟨rfl,hn2,hput,hf⟩
    have hn12:n<=n2:=Nat.le_trans cZ hn2
    have r02:cC H2 0=some (.row 25 3 d0 [u.av]):=(hf 0 (Nat.lt_of_lt_of_le (by omega:0<n) cZ) (by decide)).trans cE
    have r192:cC H2 19=some (.row 178 1 d19 [.mp 18]):=(hf 19 (Nat.lt_of_lt_of_le (by omega:19<n) cZ) (by decide)).trans cE
    cases hg:(fe (u.cI.getD i default).name&& !gJ ((dD u).take (u.shared.length+i)) (u.cI.getD i default).name) with
    |false=>
     rw[hg,if_neg (by decide)] at ha
     have hb:fN u=false:=by unfold fN;rw[ha];simp
     rw[hb]
     clear hf hput
     repeat' (first|refine aQ ?_|exact eE|with_reducible refine aB ?_ ?_|((with_reducible refine Ask.mk ?_);first|exact cw|exact cX|(intro h;simp_all[cF.cells,Decl.cells]<;>fail)|(simp_all[cF.cells,Decl.cells]<;>fail))|(apply aA;(·exact cK))|refine aH ?_|((with_reducible refine aE ?_ ?_)<;>intro hc<;>try(exfalso;omega)))
     exact rfl
    |true=>
     rw[hg,if_pos rfl] at ha
     have hnm:gJ ((dD u).take (u.shared.length+i)) (u.cI.getD i default).name=false:=by revert hg;cases gJ ((dD u).take (u.shared.length+i)) (u.cI.getD i default).name<;>simp
     have r182:=hput hnm
     rw[<-ht] at r182
     obtain⟨d4,r4⟩:∃d,cC H2 (n+3)=some (.row 85 3 d [(u.cI.getD i default).av]):=⟨_,(hf (n+3) cZ (by omega)).trans cE⟩
     clear hf hput
     repeat' (first|refine aQ ?_|exact eE|with_reducible refine aB ?_ ?_|((with_reducible refine Ask.mk ?_);first|exact cw|exact cX|(intro h;simp_all[cF.cells,Decl.cells]<;>fail)|(simp_all[cF.cells,Decl.cells]<;>fail))|(apply aA;(·exact cK))|refine aH ?_|((with_reducible refine aE ?_ ?_)<;>intro hc<;>try(exfalso;omega)))
     ·have hb:fN u=false:=by
       unfold fN
       rw[Bool.and_eq_false_iff]
       right
       rw[Bool.eq_false_iff,ne_eq,List.all_eq_true]
       exact fun h=>(hc.resolve_left (by decide)) (of_decide_eq_true (h _ (cQ default hil)))
      rw[hb]
     ·exact⟨i+1,by omega,cJ,by omega,by omega,⟨_,cE⟩,⟨_,cE⟩,⟨_,cE⟩,ha.symm,fun j hj=>by
       by_cases hji:j=i
       ·rw[hji];exact hc.2
       ·exact hw j (by omega)⟩
   ·have hie:i=u.cI.length:=by omega
    subst hie
    repeat' (first|refine aQ ?_|exact eE|with_reducible refine aB ?_ ?_|((with_reducible refine Ask.mk ?_);first|exact cw|exact cX|(intro h;simp_all[cF.cells]<;>fail)|(simp_all[cF.cells]<;>fail))|(apply aA;(·exact cK))|refine aH ?_|((with_reducible refine aE ?_ ?_)<;>intro hc<;>try(exfalso;omega)))
    refine aI (fun i:Nat=>[(1, .pt 0 1 0 0),(4, .fn (.func 114) [] [.pt 19 1 0 0]),(61,dy u.cD),(62,i64 u.cD.length),(63,i64 i)]) (fun i H n=>i<=u.cD.length/\20<=n/\(∃d,cC H 0=some (.row 25 3 d [u.av]))/\(∃d,cC H 19=some (.row 178 1 d [.mp 18]))/\(∃d,cC H 18=some (.row 9 0 d (mapA (AH (ni ((dD u).take (u.shared.length+u.cI.length+i)))))))/\fA ((dD u).take (u.shared.length+u.cI.length+i)) ((dD u).drop (u.shared.length+u.cI.length+i))=fA [] (dD u)/\∀j,j<u.cI.length->(u.cI.getD j default).word=0) (fun i=>u.cD.length - i) 0 cJ ⟨Nat.zero_le _,cZ,⟨_,cE⟩,⟨_,cE⟩,⟨_,by rw[Nat.add_zero];exact cE⟩,by rw[Nat.add_zero];exact hq,hw⟩ ?_
    clear r0 r19 r18 hq hc hw
    rintro i H n ⟨hi,hn,⟨d0,r0⟩,⟨d19,r19⟩,⟨d18,r18⟩,hq,hw⟩
    by_cases hil:i<u.cD.length
    ·have hk:u.shared.length+u.cI.length+i<(dD u).length:=by simp only[dD,List.length_append,List.length_map];omega
     have hs:(dD u).getD (u.shared.length+u.cI.length+i) default=(u.cD.getD i default).name:=QK u hil
     obtain⟨ha,ht⟩:=nI u hk hq hs
     have hsz:=(hu.cD _ (cQ default hil)).name
     repeat' (first|refine aQ ?_|exact eE|with_reducible refine aB ?_ ?_|((with_reducible refine Ask.mk ?_);first|exact cw|exact cX|(intro h;simp_all[cF.cells,cG.cells]<;>fail)|(simp_all[cF.cells,cG.cells]<;>fail))|(apply aA;(·(first|exact TL|exact cK)))|refine aH ?_|((with_reducible refine aE ?_ ?_)<;>intro hc<;>try(exfalso;omega)))
     refine aJ (tF _ hsz ((dD u).take (u.shared.length+u.cI.length+i)) 19 18 _ _ _ _ _ _ cE cE cZ cZ (by decide)) ?_
     rintro _ H2 n2 ⟨rfl,hn2,hput,hf⟩
     have hn12:n<=n2:=Nat.le_trans cZ hn2
     have r02:cC H2 0=some (.row 25 3 d0 [u.av]):=(hf 0 (Nat.lt_of_lt_of_le (by omega:0<n) cZ) (by decide)).trans cE
     have r192:cC H2 19=some (.row 178 1 d19 [.mp 18]):=(hf 19 (Nat.lt_of_lt_of_le (by omega:19<n) cZ) (by decide)).trans cE
     cases hg:(fe (u.cD.getD i default).name&& !gJ ((dD u).take (u.shared.length+u.cI.length+i)) (u.cD.getD i default).name) with
     |false=>
      rw[hg,if_neg (by decide)] at ha
      have hb:fN u=false:=by unfold fN;rw[ha];simp
      rw[hb]
      repeat' (first|refine aQ ?_|exact eE|with_reducible refine aB ?_ ?_|((with_reducible refine Ask.mk ?_);first|exact cw|exact cX|(intro h;simp_all[cF.cells,cG.cells]<;>fail)|(simp_all[cF.cells,cG.cells]<;>fail))|(apply aA;(·exact cK))|refine aH ?_|((with_reducible refine aE ?_ ?_)<;>intro hc<;>try(exfalso;omega)))
      exact rfl
     |true=>
      rw[hg,if_pos rfl] at ha
      have hnm:gJ ((dD u).take (u.shared.length+u.cI.length+i)) (u.cD.getD i default).name=false:=by revert hg;cases gJ ((dD u).take (u.shared.length+u.cI.length+i)) (u.cD.getD i default).name<;>simp
      have r182:=hput hnm
      rw[<-ht] at r182
      clear hf hput
      repeat' (first|refine aQ ?_|exact eE|with_reducible refine aB ?_ ?_|((with_reducible refine Ask.mk ?_);first|exact cw|exact cX|(intro h;simp_all[cF.cells,cG.cells]<;>fail)|(simp_all[cF.cells,cG.cells]<;>fail))|(apply aA;(·exact cK))|refine aH ?_|((with_reducible refine aE ?_ ?_)<;>intro hc<;>try(exfalso;omega)))
      exact⟨i+1,by omega,cJ,by omega,by omega,⟨_,cE⟩,⟨_,cE⟩,⟨_,cE⟩,ha.symm,hw⟩
    ·have hie:i=u.cD.length:=by omega
     subst hie
     repeat' (first|refine aQ ?_|exact eE|with_reducible refine aB ?_ ?_|((with_reducible refine Ask.mk ?_);first|exact cw|exact cX|(intro h;simp_all[cF.cells]<;>fail)|(simp_all[cF.cells]<;>fail))|(apply aA;(·exact cK))|refine aH ?_|((with_reducible refine aE ?_ ?_)<;>intro hc<;>try(exfalso;omega)))
     refine dw (Eq.symm ?_)
     have e:u.shared.length+u.cI.length+u.cD.length=(dD u).length:=by simp only[dD,List.length_append,List.length_map];omega
     have hall:fA [] (dD u)=true:=by
      rw[<-hq,e,List.drop_eq_nil_of_le (Nat.le_refl _)]
      cases(dD u).take (dD u).length<;>rfl
     unfold fN
     rw[decide_eq_true hl.1,decide_eq_true hl.2.1,decide_eq_true hl.2.2,hall]
     simp only[Bool.true_and]
     rw[List.all_eq_true]
     intro d hd
     obtain⟨j,hj,rfl⟩:=List.getElem_of_mem hd
     have:=hw j hj
     rw[show u.cI.getD j default=u.cI[j] by simp[List.getD,hj]] at this
     exact decide_eq_true this
 ·have hb:fN u=false:=by
   unfold fN
   by_cases a1:u.shared.length<=64
   ·by_cases a2:u.cI.length<=16
    ·rw[decide_eq_false (fun a3=>hl ⟨a1,a2,a3⟩:¬u.cD.length<=8)];simp
    ·rw[decide_eq_false a2];simp
   ·rw[decide_eq_false a1];simp
  rw[hb]
  repeat' (first|refine aQ ?_|exact eE|with_reducible refine aB ?_ ?_|((with_reducible refine Ask.mk ?_);first|exact cw|exact cX|(intro h;simp_all[cF.cells]<;>fail)|(simp_all[cF.cells]<;>fail))|(apply aA;(·exact cK))|refine aH ?_|((with_reducible refine aE ?_ ?_)<;>intro hc<;>try(exfalso;omega)))
  exact rfl
end Go.Proofs.YtjopoheligmmoaaGreatDoor
namespace Go.dA
open Go.RowKit
theorem Wk.UO {H:Hp} {nx b:Nat} {e:TypeId} {sz:Nat} {d:AV} {es es2:List AV} (d2:AV) (hb:cC H b=some (.row e sz d es)) (hl:es.length=es2.length) (h:∀c c2:Cx,c.le c2->c2.w=c.w->dZ c c2 es es2):Wk .any H nx .any ((b,some (.row e sz d2 es2))::H) nx:=by
 refine Wk.tell (Nat.le_refl _) (fun x e' sz' d' es' he=> ?_) (fun w0 c c2 hS hU hc hc2 hw hle hnew hM=>⟨dY.any _ _ _,fun x e' sz' d' es' d0 es0 h1 h2=> ?_⟩)
 ·by_cases hx:x=b
  ·subst hx
   rw[cx] at he
   cases he
   exact .inl ⟨d,es,hb,hl⟩
  ·rw[cc hx] at he
   exact .inl ⟨d',es',he,rfl⟩
 ·by_cases hx:x=b
  ·subst hx
   rw[cx] at h1
   rw[hb] at h2
   cases h1;cases h2
   exact h c c2 hle hw
  ·rw[cc hx] at h1
   rw[h1] at h2;cases h2
   exact dZ.cd hle _
theorem dZ.rep {c c2:Cx} {a b:AV} (h:dY c c2 a b):∀n,dZ c c2 (List.replicate n a) (List.replicate n b)
 |0=> .nil
 |n+1=> .cons h (dZ.rep h n)
end Go.dA
namespace Go.Proofs.YtjopoheligmmoaaGreatDoor
open Go Go.dA Go.Proofs
set_option linter.unusedSimpArgs false
set_option linter.unusedVariables false
theorem lg {l:List Int} {i:Nat} (h:i<l.length) (d:AV):(l.map i64).getD i d=i64 (l.getD i 0):=dI i64 l i d h
theorem vG {es:List AV} (hsz:es.length * 8<=140737488355328):cT Tryz.prog 119 [.im 1 .any es] [] 0 (sx [] 0 3 1 es):=by
 refine sx.of (by omega) ?_
 refine aM WQ rfl ?_
 cases hes:es with
 |nil=>
  repeat' (first|refine aQ ?_|exact aC|with_reducible refine aB ?_ ?_|(apply aA;(·exact cK))|refine aH ?_|((with_reducible refine aE ?_ ?_)<;>intro hc<;>try(exfalso;omega)))
  ·exact⟨.inl ⟨rfl,rfl,cZ,y9⟩⟩
  ·exact⟨.inr ⟨_,_,rfl,cZ,cZ,cZ,cE,y9⟩⟩
 |cons x t=>
  rw[hes] at hsz
  simp only[List.length_cons] at hsz
  repeat' (first|refine aQ ?_|exact aC|with_reducible refine aB ?_ ?_|(apply aA;(·exact cK))|refine aH ?_|((with_reducible refine aE ?_ ?_)<;>intro hc<;>try(exfalso;omega)))
  ·exact⟨.inr ⟨3,_,(by simp),cZ,cZ,cZ,cE,y9⟩⟩
theorem oo {es:List AV} (hsz:es.length * 8<=140737488355328):cT Tryz.prog 119 [.im 1 .any es] [] 0 (fun r1 H1 _=>∃b d0,r1= .sl b es.length/\cC H1 b=some (.row 3 1 d0 es)):=
 (vG hsz).mono fun r H n ⟨b,d,h1,_,_,_,h2,_⟩=>⟨b,d,h1,h2⟩
theorem zC (l m:List Int) (hl:l.length * 8<=140737488351232) (hm:m.length * 8<=140737488351232):Pure Tryz.prog 121 [eP l,eP m] (fun r=>r=bl (decide (l=m))):=by
 refine aG WU rfl ?_
 unfold eP
 repeat' (first|refine aQ ?_|exact aC|with_reducible refine aB ?_ ?_|(apply aA;(·exact cK))|refine aH ?_|((with_reducible refine aE ?_ ?_)<;>intro hc<;>try(exfalso;omega)))
 ·refine dw (Eq.symm ?_)
  exact decide_eq_false fun e=>hc (by rw[e])
 ·have hlm:l.length=m.length:=by omega
  refine aI (fun i:Nat=>[(0,eP l),(1,eP m),(12,i64 l.length),(13,i64 i)])
   (fun i H n=>i<=l.length/\∀j,j<i->l.getD j 0=m.getD j 0) (fun i=>l.length - i) 0 cJ ⟨Nat.zero_le _,fun _ h=>by omega⟩ ?_
  unfold eP
  rintro i H n ⟨hi,hall⟩
  by_cases hil:i<l.length
  ·have e1:=lg (l:=l) hil
   have e2:=lg (l:=m) (i:=i) (by omega)
   repeat' (first|refine aQ ?_|exact aC|with_reducible refine aB ?_ ?_|(apply aA;(·(first|exact e1 _|exact e2 _|exact cK)))|refine aH ?_|((with_reducible refine aE ?_ ?_)<;>intro hc<;>try(exfalso;omega)))
   ·refine dw (Eq.symm ?_)
    exact decide_eq_false fun e=>hc (by rw[e])
   ·refine⟨i+1,by omega,cJ,by omega,fun j hj=> ?_⟩
    by_cases hji:j=i
    ·subst hji;exact hc
    ·exact hall j (by omega)
  ·have:i=l.length:=by omega
   subst this
   repeat' (first|refine aQ ?_|exact aC|with_reducible refine aB ?_ ?_|(apply aA;(·exact cK))|refine aH ?_|((with_reducible refine aE ?_ ?_)<;>intro hc<;>try(exfalso;omega)))
   refine dw (Eq.symm ?_)
   refine decide_eq_true (List.ext_getElem hlm fun j h1 h2=> ?_)
   have:=hall j h1
   simpa[List.getD,h1,h2] using this
def Told (nv:AV) (l:List Int) (H:Hp) (nx:Nat):Prop:=nv=eP l\/∃b d,nv= .sl b l.length/\b<nx/\cC H b=some (.row 3 1 d (l.map i64))
theorem Told.df {nv:AV} {l:List Int} {H:Hp} {nx:Nat} (h:Told nv l H nx) (k:Nat):dA.df H (k+1) nv=eP l:=by
 rcases h with rfl|⟨b,d,rfl,_,hb⟩
 ·exact dX _ (by simp[cP,eP,cL])
 ·rw[dN hb (by simp),cr _ ((cL _ _).2 fun _ _=>by simp[cP])];rfl
theorem sq {nv:AV} {l:List Int} {H:Hp} {nx:Nat} (h:Told nv l H nx) (m:List Int) (hl:l.length * 8<=140737488351232) (hm:m.length * 8<=140737488351232):cT Tryz.prog 121 [eP m,nv] H nx (fun r H' n=>r=bl (decide (m=l))/\H'=H/\n=nx):=by
 refine Pure.view (args2:=[eP m,eP l]) (zC m l hm hl) ?_ (by simp[cg,cP,eP,cL]) trivial ⟨rfl,rfl,rfl⟩
 rw[List.map_cons,List.map_cons,List.map_nil,h.df,dX 6 (by simp[cP,eP,cL])]
theorem mg {nv:AV} {l:List Int} {H:Hp} {nx:Nat} (h:Told nv l H nx) (hl:l.length * 8<=140737488351232):cT Tryz.prog 119 [nv] H nx (fun r H' n=>r=eP l/\nx<=n/\∀b,b<nx->cC H' b=cC H b):=by
 refine cT.wk (cT.TI (es:=l.map i64) (args2:=[eP l]) (oo (by rw[List.length_map];omega)) (fun i hi=>by rw[dI i64 _ _ _ (by simpa using hi)];trivial) (by rw[List.map_cons,List.map_nil,h.df]) (by simp[cg,cP,eP,cL])) ?_
 rintro r H' n ⟨rfl,rfl,rfl⟩
 have hw:=Wk.TO (r:= .sl nx (l.map i64).length) (H:=(nx,some (.row 3 1 .any (l.map i64)))::H) (nx:=nx+1) [(nx,some (.row 3 1 .any (l.map i64)))] 1 (fun b q hq=>by
  by_cases hb:b=nx
  ·subst hb;rw[cx] at hq ⊢;exact hq
  ·rw[cc hb] at hq;cases hq)
 refine⟨_,_,_,hw, ?_,by omega,fun b hb=> ?_⟩
 ·rw[pU (cx _ _ _) rfl,qQ];rfl
 ·rw[mR,wQ,cc (by omega),cc (by omega)]
section
abbrev BU:=List (List Bool)
def qp (T:BU) (i k:Nat):Bool:=(T.getD i []).getD k false
def KC (T:BU) (i k:Nat):BU:=T.set i ((T.getD i []).set k true)
structure Shape (T:BU) (m n:Nat):Prop where
 len:T.length=m
 row:∀i,i<m->(T.getD i []).length=n
theorem eO {α:Type} (l:List α) (i j:Nat) (v d:α):(l.set i v).getD j d=if i=j/\i<l.length then v else l.getD j d:=by
 simp only[List.getD,List.getElem?_set]
 by_cases h:i=j
 ·subst h
  by_cases h2:i<l.length
  ·simp[h2]
  ·simp[h2]
 ·simp[h]
theorem OV {T:BU} {m n i k:Nat} (h:Shape T m n) (hi:i<m) (hk:k<n) (i' k':Nat):qp (KC T i k) i' k'=if i=i'/\k=k' then true else qp T i' k':=by
 unfold qp KC
 rw[eO]
 by_cases h1:i=i'
 ·subst h1
  rw[if_pos ⟨rfl,by rw[h.len];exact hi⟩,eO]
  by_cases h2:k=k'
  ·subst h2;rw[if_pos ⟨rfl,by rw[h.row i hi];exact hk⟩,if_pos ⟨rfl,rfl⟩]
  ·rw[if_neg (fun h=>h2 h.1),if_neg (fun h=>h2 h.2)]
 ·rw[if_neg (fun h=>h1 h.1),if_neg (fun h=>h1 h.1)]
theorem Shape.set {T:BU} {m n:Nat} (h:Shape T m n) (i k:Nat):Shape (KC T i k) m n:=by
 refine⟨by simp[KC,h.len],fun j hj=> ?_⟩
 unfold KC
 rw[eO]
 split
 ·rename_i e;rw[List.length_set,e.1];exact h.row j hj
 ·exact h.row j hj
inductive UR (g:cG) (pq cd:Node->Nat->Bool) (k:Nat):Nat->Prop where
 |pq {i:Nat}:pq (g.nd i) k=true->UR g pq cd k i
 |on {i:Nat} {j:Int}:cd (g.nd i) k=true->j∈(g.nd i).gF->UR g pq cd k j.toNat->UR g pq cd k i
def S1 (T:BU) (n:Node) (k:Nat):Bool:=n.gF.any fun j=>qp T j.toNat k
theorem K1 (f:Int->Bool) (n:Node):n.fold.any f=n.gF.any f:=H7 (fun l=>l.any f) n (fun a=>by simp)
def yp (g:cG) (pq cd:Node->Nat->Bool) (T:BU) (i k:Nat):Bool:=pq (g.nd i) k||(cd (g.nd i) k&&S1 T (g.nd i) k)
structure Grow (g:cG) (pq cd:Node->Nat->Bool) (n:Nat) (T:BU):Prop where
 shape:Shape T g.nodes.length n
 sound:∀i k,qp T i k=true->UR g pq cd k i
def xB (m n:Nat):BU:=List.replicate m (List.replicate n false)
theorem E3 (m n i k:Nat):qp (xB m n) i k=false:=by
 unfold qp xB
 simp only[List.getD,List.getElem?_replicate]
 by_cases h:i<m
 ·simp only[h,if_true,Option.getD_some,List.getElem?_replicate];split<;>rfl
 ·simp[h]
theorem A8 (m n:Nat):Shape (xB m n) m n:=⟨by simp[xB],fun i hi=>by simp[xB,List.getD,List.getElem?_replicate,hi]⟩
theorem Grow.start (g:cG) (pq cd:Node->Nat->Bool) (n:Nat):Grow g pq cd n (xB g.nodes.length n):=
 ⟨A8 _ _,fun i k h=>by rw[E3] at h;cases h⟩
theorem yj {T:BU} {n:Node} {k:Nat}:S1 T n k=true↔∃j∈n.gF,qp T j.toNat k=true:=by
 unfold S1;rw[List.any_eq_true]
theorem Grow.step {g:cG} {pq cd:Node->Nat->Bool} {n:Nat} {T:BU} (h:Grow g pq cd n T) {i k:Nat} (hi:i<g.nodes.length) (hk:k<n) (hc:yp g pq cd T i k=true):Grow g pq cd n (KC T i k):=by
 refine⟨h.shape.set i k,fun i' k' ht=> ?_⟩
 rw[OV h.shape hi hk] at ht
 split at ht
 ·rename_i e
  obtain⟨rfl,rfl⟩:=e
  unfold yp at hc
  rw[Bool.or_eq_true,Bool.and_eq_true] at hc
  rcases hc with h1|⟨h1,h2⟩
  ·exact .pq h1
  ·obtain⟨j,hj,h3⟩:=yj.1 h2
   exact .on h1 hj (h.sound _ _ h3)
 ·exact h.sound _ _ ht
open Classical in
noncomputable def G1 (g:cG) (pq cd:Node->Nat->Bool) (n:Nat):BU:=(List.range g.nodes.length).map fun i=>(List.range n).map fun k=>decide (UR g pq cd k i)
theorem EL (g:cG) (pq cd:Node->Nat->Bool) (n:Nat):Shape (G1 g pq cd n) g.nodes.length n:=⟨by simp[G1],fun i hi=>by simp[G1,List.getD,hi]⟩
theorem J9 (g:cG) (pq cd:Node->Nat->Bool) (n:Nat) {i k:Nat} (hi:i<g.nodes.length) (hk:k<n):qp (G1 g pq cd n) i k=true↔UR g pq cd k i:=by
 simp[qp,G1,List.getD,hi,hk]
theorem RG {T S:BU} {m n:Nat} (hT:Shape T m n) (hS:Shape S m n) (h:∀i k,i<m->k<n->qp T i k=qp S i k):T=S:=by
 apply List.ext_getElem (hT.len.trans hS.len.symm)
 intro i h1 h2
 have hi:i<m:=by rw[<-hT.len];exact h1
 have e1:T.getD i []=T[i]:=by simp[List.getD,h1]
 have e2:S.getD i []=S[i]:=by simp[List.getD,h2]
 rw[<-e1,<-e2]
 apply List.ext_getElem ((hT.row i hi).trans (hS.row i hi).symm)
 intro k h3 h4
 have:=h i k hi (by rw[<-hT.row i hi];exact h3)
 unfold qp at this
 have g:∀(l:List Bool) (h:k<l.length),l[k]=l.getD k false:=fun l h=>by simp[List.getD,h]
 rw[g _ h3,g _ h4]
 exact this
theorem Grow.fin {g:cG} {pq cd:Node->Nat->Bool} {n:Nat} {T:BU} (hw:Whole g) (h:Grow g pq cd n T) (hc:∀i k,i<g.nodes.length->k<n->yp g pq cd T i k=true->qp T i k=true):T=G1 g pq cd n:=by
 refine RG h.shape (EL _ _ _ _) fun i k hi hk=> ?_
 rw[Bool.eq_iff_iff,J9 g pq cd n hi hk]
 refine⟨h.sound i k,fun ha=> ?_⟩
 induction ha with
 |pq hb=>exact hc _ _ hi hk (by unfold yp;rw[hb];rfl)
 |@on i j hkp hj _ ih=>
  have hj2:=(hw.2.2 i hi).2.2 j hj
  have:=ih hj2.2
  refine hc _ _ hi hk ?_
  unfold yp
  rw[hkp,yj.2 ⟨j,hj,this⟩]
  simp
structure xC where
 kind:Int
 eA:Int
 lock:Int
 deriving Inhabited,DecidableEq
def xC.cells (c:xC):List AV:=[u8 c.kind,i64 c.eA,i64 c.lock]
abbrev xC.av (c:xC):AV:= .agg c.cells
end
structure HTo (now:List Int) (l:List Int) (s s':HS):Prop where
 lh:s'.cI.length=s.cI.length
 od:s'.found.length=s.found.length
 gx:∀k:Int,s.f k=true->s'.f k=true/\s'.l k=s.l k
 new:∀k:Int,0<=k->s'.f k=true->s.f k=true\/k∈l
 all:∀k∈l,s'.f k=true/\s'.l k=now
 bare:∀k:Int,0<=k->s'.f k=false->s'.l k=s.l k
 more:∃t,s'.todo=s.todo++t/\(∀k∈t,k∈l/\s'.f k=true)/\(∀k:Int,0<=k->s'.f k=true->s.f k=true\/k∈t)/\s'.found.count false+t.length=s.found.count false
theorem HS.wC {s:HS} {i:Nat} {L:List (List Int)} {td:List Int} (h:i<s.found.length) (k:Int):HS.f ⟨L,s.found.set i true,td⟩ k=if k.toNat=i then true else s.f k:=mO h k
theorem HS.R6 {s:HS} {i:Nat} {now:List Int} {F:List Bool} {td:List Int} (h:i<s.cI.length) (k:Int):HS.l ⟨s.cI.set i now,F,td⟩ k=if k.toNat=i then now else s.l k:=by
 unfold HS.l
 simp only
 rw[eO]
 by_cases e:i=k.toNat
 ·rw[if_pos ⟨e,h⟩,if_pos e.symm]
 ·rw[if_neg (fun x=>e x.1),if_neg (fun x=>e x.symm)]
theorem pR (now:List Int):∀(l:List Int) (s s':HS),s.cI.length=s.found.length->(∀k∈l,0<=k/\k.toNat<s.found.length)->dV now l s= .inl s'->HTo now l s s'
 |[],s,s',_,_,h=>by
  rw[dV] at h;cases h
  exact⟨rfl,rfl,fun _ h=>⟨h,rfl⟩,fun _ _ h=> .inl h,fun _ h=>by simp at h,fun _ _ _=>rfl,[],by simp,fun _ h=>by simp at h,fun _ _ h=> .inl h,by simp⟩
 |k::r,s,s',hl,hr,h=>by
  obtain⟨hk0,hk⟩:=hr k (by simp)
  have hr2:=fun x hx=>hr x (List.mem_cons_of_mem _ hx)
  rw[dV] at h
  by_cases hf:s.f k=false
  ·rw[if_pos hf] at h
   have ih:=pR now r _ s' (by simp[hl]) (fun x hx=>by simpa using hr2 x hx) h
   have fs:=fun x=>HS.wC (s:=s) (i:=k.toNat) (L:=s.cI.set k.toNat now) (td:=s.todo++[k]) hk x
   have ls:=fun x=>HS.R6 (s:=s) (i:=k.toNat) (now:=now) (F:=s.found.set k.toNat true) (td:=s.todo++[k]) (by rw[hl];exact hk) x
   obtain⟨t,t1,t2,t3,t4⟩:=ih.more
   have hkk:=ih.gx k (by rw[fs,if_pos rfl])
   refine⟨ih.lh.trans (by simp),ih.od.trans (by simp),fun x hx=> ?_,fun x hx0 hx=> ?_,fun x hx=> ?_,fun x hx0 hx=> ?_,k::t,by rw[t1];simp,fun x hx=> ?_,fun x hx0 hx=> ?_, ?_⟩
   ·have hne:x.toNat≠k.toNat:=fun e=>by unfold HS.f at hx hf;rw[e] at hx;rw[hx] at hf;cases hf
    have:=ih.gx x (by rw[fs,if_neg hne];exact hx)
    rw[ls,if_neg hne] at this
    exact this
   ·rcases ih.new x hx0 hx with h2|h2
    ·rw[fs] at h2
     split at h2
     ·rename_i e;exact .inr (by rw[show x=k by omega];simp)
     ·exact .inl h2
    ·exact .inr (List.mem_cons_of_mem _ h2)
   ·rcases List.mem_cons.1 hx with rfl|hx
    ·rw[ls,if_pos rfl] at hkk;exact hkk
    ·exact ih.all x hx
   ·have hne:x.toNat≠k.toNat:=fun e=>by
     have:=hkk.1
     rw[show k=x by omega,hx] at this;cases this
    have:=ih.bare x hx0 hx
    rw[ls,if_neg hne] at this
    exact this
   ·rcases List.mem_cons.1 hx with rfl|hx
    ·exact⟨by simp,hkk.1⟩
    ·exact⟨List.mem_cons_of_mem _ (t2 x hx).1,(t2 x hx).2⟩
   ·rcases t3 x hx0 hx with h2|h2
    ·rw[fs] at h2
     split at h2
     ·rename_i e;exact .inr (by rw[show x=k by omega];simp)
     ·exact .inl h2
    ·exact .inr (List.mem_cons_of_mem _ h2)
   ·have:=count_set hk hf
    rw[List.length_cons]
    dsimp only at t4
    omega
  ·rw[if_neg hf] at h
   have hkt:s.f k=true:=by simpa using hf
   by_cases hn:s.l k=now
   ·rw[if_pos hn] at h
    have ih:=pR now r s s' hl hr2 h
    obtain⟨t,t1,t2,t3,t4⟩:=ih.more
    refine⟨ih.lh,ih.od,ih.gx,fun x hx0 hx=>(ih.new x hx0 hx).imp id (List.mem_cons_of_mem _),fun x hx=> ?_,ih.bare,t,t1,fun x hx=>⟨List.mem_cons_of_mem _ (t2 x hx).1,(t2 x hx).2⟩,t3,t4⟩
    rcases List.mem_cons.1 hx with rfl|hx
    ·have:=ih.gx _ hkt;rw[hn] at this;exact this
    ·exact ih.all x hx
   ·rw[if_neg hn] at h;cases h
structure HI (g:cG) (s:HS) (k:Nat):Prop where
 lh:s.cI.length=g.nodes.length
 od:s.found.length=g.nodes.length
 zero:s.f 0=true
 first:s.l 0=[]
 pz:∀i:Int,0<=i->s.f i=true->nD g (-1) i
 bare:∀i:Int,0<=i->s.f i=false->s.l i=[]
 inr:∀i∈s.todo,0<=i/\i.toNat<g.nodes.length/\s.f i=true
 all:∀i:Int,0<=i->s.f i=true->i∈s.todo
 done:∀j,j<k->j<s.todo.length->∃now,dM (g.nd (s.todo.getD j 0).toNat) (s.l (s.todo.getD j 0))=some now/\∀to∈(g.nd (s.todo.getD j 0).toNat).gF,s.f to=true/\s.l to=now
 count:s.todo.length+s.found.count false=g.nodes.length
theorem HI.start {g:cG} (h:Whole g):HI g (sM g) 0:=by
 have hl:=h.1
 have hf:∀k,HS.f (sM g) k=decide (k.toNat=0):=fun k=>by
  have:=mO (l:=List.replicate g.nodes.length false) (i:=0) (by simp;omega) k
  unfold HS.f sM
  simp only
  unfold lM at this
  rw[this]
  by_cases e:k.toNat=0
  ·simp[e]
  ·rw[if_neg e,decide_eq_false e]
   simp only[List.getD,List.getElem?_replicate];split<;>rfl
 have hk:∀k,HS.l (sM g) k=[]:=fun k=>by
  unfold HS.l sM;simp only[List.getD,List.getElem?_replicate];split<;>rfl
 refine⟨by simp[sM],by simp[sM],by rw[hf];simp,hk 0,fun i h0 hi=> ?_,fun i _ _=>hk i,fun i hi=> ?_,fun i h0 hi=> ?_,fun j hj=>by omega, ?_⟩
 ·rw[hf] at hi
  rw[show i=0 by have:=of_decide_eq_true hi;omega];exact .zero
 ·simp only[sM,List.mem_cons,List.not_mem_nil,or_false] at hi
  subst hi
  exact⟨by omega,by simp;omega,by rw[hf];simp⟩
 ·rw[hf] at hi
  rw[show i=0 by have:=of_decide_eq_true hi;omega];simp[sM]
 ·have:=count_set (l:=List.replicate g.nodes.length false) (i:=0) (by simp;omega) (by simp[List.getD,List.getElem?_replicate];split<;>rfl)
  simp only[List.count_replicate_self] at this
  simp only[sM,List.length_cons,List.length_nil]
  omega
theorem HI.next {g:cG} (hw:Whole g) {s s':HS} {k:Nat} (h:HI g s k) (hk:k<s.todo.length) {now:List Int} (hn:dM (g.nd (s.todo.getD k 0).toNat) (s.l (s.todo.getD k 0))=some now) (ht:dV now (g.nd (s.todo.getD k 0).toNat).gF s= .inl s'):HI g s' (k+1):=by
 have hm:=cQ (0:Int) hk
 obtain⟨i1,i2,i3⟩:=h.inr _ hm
 have hfol:=(hw.2.2 _ i2).2.2
 have sp:=pR now _ s s' (by rw[h.lh,h.od]) (fun x hx=>by rw[h.od];exact hfol x hx) ht
 obtain⟨t,t1,t2,t3,t4⟩:=sp.more
 have hget:∀j,j<s.todo.length->s'.todo.getD j 0=s.todo.getD j 0:=fun j hj=>by
  rw[t1];simp[List.getD,List.getElem?_append,hj]
 refine⟨sp.lh.trans h.lh,sp.od.trans h.od,(sp.gx 0 h.zero).1,(sp.gx 0 h.zero).2.trans h.first,fun i h0 hi=> ?_,fun i h0 hi=> ?_,fun i hi=> ?_,fun i h0 hi=> ?_,fun j hj hjl=> ?_, ?_⟩
 ·rcases sp.new i h0 hi with h1|h1
  ·exact h.pz i h0 h1
  ·exact .step (h.pz _ i1 i3) (by omega) h1
 ·rw[sp.bare i h0 hi]
  refine h.bare i h0 ?_
  cases hq:s.f i with
  |false=>rfl
  |true=>rw[(sp.gx i hq).1] at hi;cases hi
 ·rw[t1] at hi
  rcases List.mem_append.1 hi with hi|hi
  ·obtain⟨a,b,c⟩:=h.inr i hi
   exact⟨a,b,(sp.gx i c).1⟩
  ·have:=hfol i (t2 i hi).1
   exact⟨this.1,this.2,(t2 i hi).2⟩
 ·rw[t1]
  rcases t3 i h0 hi with h1|h1
  ·exact List.mem_append_left _ (h.all i h0 h1)
  ·exact List.mem_append_right _ h1
 ·by_cases hjk:j=k
  ·subst hjk
   rw[hget _ hk]
   refine⟨now, ?_,sp.all⟩
   rw[(sp.gx _ i3).2]
   exact hn
  ·have hj2:j<s.todo.length:=by omega
   rw[hget _ hj2]
   obtain⟨now2,d1,d2⟩:=h.done j (by omega) hj2
   have hjm:=h.inr _ (cQ (0:Int) hj2)
   refine⟨now2,by rw[(sp.gx _ hjm.2.2).2];exact d1,fun to hto=> ?_⟩
   obtain⟨e1,e2⟩:=d2 to hto
   rw[(sp.gx _ e1).2]
   exact⟨(sp.gx _ e1).1,e2⟩
 ·have:=h.count
  rw[t1,List.length_append]
  omega
structure PB (g:cG) (lk:Nat->List Int):Prop where
 zero:lk 0=[]
 on:∀i:Int,nD g (-1) i->∃now,dM (g.nd i.toNat) (lk i.toNat)=some now/\∀k∈(g.nd i.toNat).gF,lk k.toNat=now
theorem HI.fin {g:cG} {s:HS} {k:Nat} (hw:Whole g) (h:HI g s k) (hk:s.todo.length<=k):PB g (fun i=>s.cI.getD i [])/\∀i,i<g.nodes.length->(s.found.getD i false=true↔nD g (-1) i):=by
 have hall:∀i:Int,nD g (-1) i->0<=i/\s.f i=true:=fun i hi=>by
  induction hi with
  |zero=>exact⟨by omega,h.zero⟩
  |@step i j hi _ hj ih=>
   obtain⟨i0,hif⟩:=ih
   have hm:=h.all i i0 hif
   obtain⟨q,hq,e⟩:=List.getElem_of_mem hm
   have e2:s.todo.getD q 0=i:=by simp[List.getD,hq,e]
   obtain⟨now,_,d⟩:=h.done q (by omega) hq
   rw[e2] at d
   have h2:=(hw.2.2 i.toNat (h.inr i hm).2.1).2.2 j hj
   exact⟨h2.1,(d j hj).1⟩
 refine⟨⟨h.first,fun i hi=> ?_⟩,fun i hi=>⟨fun hf=>h.pz i (by omega) hf,fun hc=>(hall i hc).2⟩⟩
 obtain⟨i0,hif⟩:=hall i hi
 have hm:=h.all i i0 hif
 obtain⟨q,hq,e⟩:=List.getElem_of_mem hm
 have e2:s.todo.getD q 0=i:=by simp[List.getD,hq,e]
 obtain⟨now,d1,d⟩:=h.done q (by omega) hq
 rw[e2] at d1 d
 exact⟨now,d1,fun k hk=>(d k hk).2⟩
theorem uF {g:cG} (hw:Whole g):∀(f:Nat) (s:HS) (k:Nat),HI g s k->k+f=g.nodes.length+1->(ff g f s k).2<0->(ff g f s k).2=-1/\∃s' k',HI g s' k'/\s'.todo.length<=k'/\(ff g f s k).1=s'.cI
 |0,s,k,h,he,_=>by
  have:=h.count
  exact⟨rfl,s,k,h,by omega,rfl⟩
 |f+1,s,k,h,he,hneg=>by
  rw[ff] at hneg ⊢
  by_cases hk:k<s.todo.length
  ·rw[if_pos hk] at hneg ⊢
   have hm:=(h.inr _ (cQ (0:Int) hk))
   cases hn:dM (g.nd (s.todo.getD k 0).toNat) (s.l (s.todo.getD k 0)) with
   |none=>rw[hn] at hneg;simp only at hneg;omega
   |some now=>
    rw[hn] at hneg
    simp only at hneg ⊢
    cases ht:dV now (g.nd (s.todo.getD k 0).toNat).gF s with
    |inl s'=>
     rw[ht] at hneg
     exact uF hw f s' (k+1) (h.next hw hk hn ht) (by omega) hneg
    |inr a=>
     rw[ht] at hneg
     simp only at hneg
     exfalso
     have hfol:=(hw.2.2 _ hm.2.1).2.2
     have:∀(l:List Int) (s:HS),(∀x∈l,0<=x)->dV now l s= .inr a->0<=a:=by
      intro l
      induction l with
      |nil=>intro s _ h;rw[dV] at h;cases h
      |cons x r ih=>
       intro s hx h
       rw[dV] at h
       split at h
       ·exact ih _ (fun y hy=>hx y (List.mem_cons_of_mem _ hy)) h
       ·split at h
        ·exact ih _ (fun y hy=>hx y (List.mem_cons_of_mem _ hy)) h
        ·cases h;exact hx _ (by simp)
     have:=this _ _ (fun x hx=>(hfol x hx).1) ht
     omega
  ·rw[if_neg hk]
   exact⟨rfl,s,k,h,by omega,rfl⟩
theorem jR {g:cG} (hw:Whole g) (h:(dc g).2<0):(dc g).2=-1/\(dc g).1.length=g.nodes.length/\PB g (fun i=>(dc g).1.getD i [])/\∀i,i<g.nodes.length->¬nD g (-1) i->(dc g).1.getD i []=[]:=by
 obtain⟨h1,s,k,hi,hk,e⟩:=uF hw _ _ _ (HI.start hw) (by omega) h
 refine⟨h1, ?_, ?_,fun i hl hc=> ?_⟩
 ·unfold dc;rw[e];exact hi.lh
 ·unfold dc;rw[e];exact(hi.fin hw hk).1
 ·unfold dc;rw[e]
  have hf:=mt ((hi.fin hw hk).2 i hl).1 hc
  have:=hi.bare i (by omega) (by simpa[HS.f] using hf)
  exact this
theorem kM {n:Node} {k:Int}:k∈n.fold↔k∈n.gF:=by
 have:=K1 (fun j=>decide (j=k)) n
 rw[Bool.eq_iff_iff,List.any_eq_true,List.any_eq_true] at this
 constructor
 ·intro h;obtain⟨x,h1,h2⟩:=this.1 ⟨k,h,by simp⟩;rw[<-of_decide_eq_true h2];exact h1
 ·intro h;obtain⟨x,h1,h2⟩:=this.2 ⟨k,h,by simp⟩;rw[<-of_decide_eq_true h2];exact h1
theorem tq (n:Node):n.fold.length<=2:=by unfold Node.fold;split<;>(try split)<;>simp
theorem F2 (n:Node):n.gF.length<=2:=by unfold Node.gF;split<;>(try split)<;>simp
theorem gd {α:Type} {l:List α} {q:Nat} (h:q<l.length) (d:α):l.getD q d=l[q]:=by simp[List.getD,h]
theorem zI (n:Nat) (l:List Int):cg n (l.map i64):=(cL _ _).2 fun _ _=>by simp[cP]
theorem HW (n:Nat) (l:List Bool):cg n (l.map bl):=(cL _ _).2 fun _ _=>by simp[cP]
theorem fx {l:List Node} {i:Nat} (h:i<l.length) (d:AV):(l.map Node.av).getD ((i:Int).toNat) d=(l.getD i default).av:=by
 rw[Int.toNat_natCast];exact dI Node.av l i d h
theorem kZ {l:List cG} {i:Nat} (h:i<l.length) (d:AV):(l.map cG.av).getD ((i:Int).toNat) d=(l.getD i default).av:=by
 rw[Int.toNat_natCast];exact dI cG.av l i d h
theorem gw {l:List Int} {i:Nat} (h:i<l.length) (d:AV):(l.map i64).getD ((i:Int).toNat) d=i64 (l.getD i 0):=by
 rw[Int.toNat_natCast];exact dI i64 l i d h
theorem uy (g:cG) (hg:g.Wf):Pure Tryz.prog 198 [g.av] (fun r=>r=bl (mh g)):=by
 have hl:=hg.len
 refine aG XY rfl ?_
 repeat' (first|refine aQ ?_|exact eE|with_reducible refine aB ?_ ?_|((with_reducible refine Ask.mk ?_);first|exact cw|exact cX|(intro h;simp_all[cG.cells]<;>fail)|(simp_all[cG.cells]<;>fail))|(apply aA;(·exact cK))|refine aH ?_|((with_reducible refine aE ?_ ?_)<;>intro hc<;>try(exfalso;omega)))
 ·refine dw (Eq.symm ?_)
  unfold mh
  by_cases h1:1<=g.nodes.length
  ·rw[decide_eq_false (show ¬g.nodes.length<=4096 by omega)];simp
  ·rw[decide_eq_false h1];simp
 ·simp only[List.length_map]
  refine aI (fun i:Nat=>[(1, .pt 0 1 0 0),(18,jk g.nodes),(19,i64 g.nodes.length),(20,i64 i)])
   (fun i H n=>i<=g.nodes.length/\16<=n/\(∃d,cC H 0=some (.row 60 4 d [g.av]))/\∀j,j<i->uk g.nodes.length (g.nd j)=true) (fun i=>g.nodes.length - i) 0 cJ ⟨Nat.zero_le _,cZ,⟨_,cE⟩,fun _ h=>by omega⟩ ?_
  rintro i H n ⟨hi,hn,⟨d0,r0⟩,hall⟩
  by_cases hil:i<g.nodes.length
  ·have hbad:uk g.nodes.length (g.nd i)=false->mh g=false:=fun h=>by
    unfold mh
    rw[Bool.and_eq_false_iff]
    right
    rw[Bool.eq_false_iff,ne_eq,List.all_eq_true]
    intro hA
    have:=hA _ (cQ default hil)
    rw[show g.nodes.getD i default=g.nd i from rfl,h] at this;cases this
   have hf:=mP (g.nd i)
   have h2:=tq (g.nd i)
   unfold eP at hf
   repeat' (first|refine aQ ?_|exact eE|with_reducible refine aB ?_ ?_|((with_reducible refine Ask.mk ?_);first|exact cw|exact cX|(intro h;simp_all[cG.cells,Node.cells]<;>fail)|(simp_all[cG.cells,Node.cells]<;>fail))|(apply aA;(·(first|exact fx hil _|exact cK)))|refine aK (hf) ?_|refine aH ?_|((with_reducible refine aE ?_ ?_)<;>intro hc<;>try(exfalso;omega)))
   ·refine dw (Eq.symm (hbad ?_))
    unfold uk
    have hc:(g.nd i).kind=0\/10<=(g.nd i).kind:=hc
    by_cases h1:(g.nd i).kind<10
    ·rw[decide_eq_false (show ¬1<=(g.nd i).kind by omega)];simp
    ·rw[decide_eq_false h1];simp
   ·have hk0:0<=(g.nd i).kind:=(hg.nodes _ (cQ default hil)).kind.1
    have hkk:¬(g.nd i).kind=0/\(g.nd i).kind<10:=hc
    clear hf
    simp only[List.length_map]
    refine aI (fun j:Nat=>[(1, .pt 0 1 0 0),(4, .pt (n+3) 1 0 0),(18,jk g.nodes),(19,i64 g.nodes.length),(20,i64 i),(33,eP (g.nd i).fold),(34,i64 (g.nd i).fold.length),(35,i64 j)])
     (fun j H2 n2=>j<=(g.nd i).fold.length/\n+4<=n2/\(∃d,cC H2 0=some (.row 60 4 d [g.av]))/\∀q,q<j->0<=(g.nd i).fold.getD q 0/\(g.nd i).fold.getD q 0<g.nodes.length) (fun j=>(g.nd i).fold.length - j) 0 cJ ⟨Nat.zero_le _,cZ,⟨_,cE⟩,fun _ h=>by omega⟩ ?_
    clear r0
    rintro j H2 n2 ⟨hj,hn2,⟨d02,r02⟩,hq⟩
    unfold eP
    by_cases hjl:j<(g.nd i).fold.length
    ·repeat' (first|refine aQ ?_|exact eE|with_reducible refine aB ?_ ?_|((with_reducible refine Ask.mk ?_);first|exact cw|exact cX|(intro h;simp_all[cG.cells]<;>fail)|(simp_all[cG.cells]<;>fail))|(apply aA;(·(first|exact gw hjl _|exact cK)))|refine aH ?_|((with_reducible refine aE ?_ ?_)<;>intro hc<;>try(exfalso;omega)))
     ·refine dw (Eq.symm (hbad ?_))
      unfold uk
      rw[Bool.and_eq_false_iff]
      right
      rw[Bool.eq_false_iff,ne_eq,List.all_eq_true]
      intro hA
      have:=hA _ (kM.1 (cQ 0 hjl))
      simp only[Bool.and_eq_true,decide_eq_true_eq] at this
      omega
     ·refine⟨j+1,by omega,cJ,by omega,by omega,⟨_,cE⟩,fun q hq2=> ?_⟩
      by_cases e:q=j
      ·rw[e];omega
      ·exact hq q (by omega)
    ·have:j=(g.nd i).fold.length:=by omega
     subst this
     repeat' (first|refine aQ ?_|exact aC|with_reducible refine aB ?_ ?_|(apply aA;(·exact cK))|refine aH ?_|((with_reducible refine aE ?_ ?_)<;>intro hc<;>try(exfalso;omega)))
     refine⟨i+1,by omega,cJ,by omega,by omega,⟨_,cE⟩,fun j hj=> ?_⟩
     by_cases e:j=i
     ·rw[e]
      unfold uk
      rw[decide_eq_true (show 1<=(g.nd i).kind by omega),decide_eq_true hkk.2]
      simp only[Bool.true_and]
      rw[List.all_eq_true]
      intro k hk
      obtain⟨q,hq1,e⟩:=List.getElem_of_mem (kM.2 hk)
      have:=hq q hq1
      rw[gd hq1,e] at this
      simp[this.1,this.2]
     ·exact hall j (by omega)
  ·have:i=g.nodes.length:=by omega
   subst this
   repeat' (first|refine aQ ?_|exact aC|with_reducible refine aB ?_ ?_|(apply aA;(·exact cK))|refine aH ?_|((with_reducible refine aE ?_ ?_)<;>intro hc<;>try(exfalso;omega)))
   refine dw (Eq.symm ?_)
   unfold mh
   rw[decide_eq_true (show 1<=g.nodes.length by omega),decide_eq_true (show g.nodes.length<=4096 by omega)]
   simp only[Bool.true_and]
   rw[List.all_eq_true]
   intro m hm
   obtain⟨q,hq1,rfl⟩:=List.getElem_of_mem hm
   have:=hall q hq1
   rw[show g.nd q=g.nodes[q] by simp[List.getD,hq1]] at this
   exact this
theorem xz (g:cG) (hg:g.Wf) (hw:mh g=true) (hs:Pure Tryz.prog 199 [g.av,i64 (-1)] (fun r=>r=F7 (gL g (-1)))):Pure Tryz.prog 166 [g.av] (fun r=>r=F7 (gL g (-1))):=by
 refine aG XL rfl ?_
 have h1:=uy g hg
 rw[hw] at h1
 repeat' (first|refine aQ ?_|exact eE|with_reducible refine aB ?_ ?_|((with_reducible refine Ask.mk ?_);first|exact cw|exact cX|(intro h;simp_all[cG.cells]<;>fail)|(simp_all[cG.cells]<;>fail))|(apply aA;(·exact cK))|refine aK (h1) ?_|refine aK (hs) ?_|refine aH ?_|((with_reducible refine aE ?_ ?_)<;>intro hc<;>try(exfalso;omega)))
 exact KS.eq (by simp[cP,F7,cL]) rfl
end Go.Proofs.YtjopoheligmmoaaGreatDoor
