import Derived.Test.YtekfmjjmihomlaaGreatM31
import Derived.Test.YtekfmjjmihomlaaGreatM33
import Derived.Test.YtekfmjjmihomlaaGreatM38
section
/- The key tells the situation. -/
namespace Go.Proofs.YtekfmjjmihomlaaGreat
open Go Go.cQ Go.Proofs
open Go.Lib (decDigits itoa)
set_option linter.unusedSimpArgs false
set_option linter.unusedVariables false
theorem rj (n:Nat):∀d∈decDigits n,48≤d.toNat∧d.toNat≤57:=by
 induction n using Nat.strongRecOn with
 |_ n ih=>
  intro d hd
  by_cases h:n<10
  ·rw[decDigits,dif_pos h] at hd
   simp only[List.mem_cons,List.not_mem_nil,or_false] at hd
   subst hd
   rw[UInt8.toNat_ofNat']
   omega
  ·rw[decDigits.eq_def n,dif_neg h] at hd
   rcases List.mem_append.1 hd with hd|hd
   ·exact ih (n /10) (by omega) d hd
   ·simp only[List.mem_cons,List.not_mem_nil,or_false] at hd
    subst hd
    rw[UInt8.toNat_ofNat']
    omega
def AY (l:List UInt8):Nat:=l.foldl (fun a d=>a * 10+(d.toNat - 48)) 0
theorem mY (n:Nat):AY (decDigits n)=n:=by
 induction n using Nat.strongRecOn with
 |_ n ih=>
  by_cases h:n<10
  ·rw[decDigits,dif_pos h]
   simp only[AY,List.foldl_cons,List.foldl_nil,UInt8.toNat_ofNat']
   omega
  ·rw[decDigits.eq_def n,dif_neg h]
   unfold AY
   rw[List.foldl_append]
   have:=ih (n /10) (by omega)
   unfold AY at this
   rw[this]
   simp only[List.foldl_cons,List.foldl_nil,UInt8.toNat_ofNat']
   omega
theorem JQ (n:Nat):decDigits n≠[]:=by
 by_cases h:n<10
 ·rw[decDigits,dif_pos h];simp
 ·rw[decDigits.eq_def n,dif_neg h];simp
theorem qf (x:Int):∀d∈itoa x,d.toNat=45∨48≤d.toNat∧d.toNat≤57:=by
 intro d hd
 unfold itoa at hd
 split at hd
 ·rcases List.mem_cons.1 hd with rfl|hd
  ·exact .inl rfl
  ·exact .inr (rj _ d hd)
 ·exact .inr (rj _ d hd)
theorem ry (x:Int):itoa x≠[]:=by
 unfold itoa
 split
 ·simp
 ·exact JQ _
theorem CQ {x y:Int} (h:itoa x=itoa y):x=y:=by
 have h45:∀n:Nat,∀l:List UInt8,decDigits n≠45::l:=fun n l e=>by
  have:=rj n 45 (by rw[e];simp)
  have:(45:UInt8).toNat=45:=rfl
  omega
 unfold itoa at h
 split at h<;>split at h
 ·have e:=congrArg AY (List.cons.inj h).2
  rw[mY,mY] at e
  omega
 ·exact absurd h.symm (h45 _ _)
 ·exact absurd h (h45 _ _)
 ·have e:=congrArg AY h
  rw[mY,mY] at e
  omega
theorem BT {c:UInt8}:∀{a b r s:List UInt8},c∉a→c∉b→a++c::r=b++c::s→a=b∧r=s
 |[],[],r,s,_,_,h=>⟨rfl,by simpa using h⟩
 |[],y::b,r,s,_,hb,h=>by
  simp only[List.nil_append,List.cons_append,List.cons.injEq] at h
  exact absurd (by rw[h.1];simp) hb
 |x::a,[],r,s,ha,_,h=>by
  simp only[List.nil_append,List.cons_append,List.cons.injEq] at h
  exact absurd (by rw[h.1];simp) ha
 |x::a,y::b,r,s,ha,hb,h=>by
  simp only[List.cons_append,List.cons.injEq] at h
  obtain⟨h1,h2⟩:=BT (fun e=>ha (List.mem_cons_of_mem _ e)) (fun e=>hb (List.mem_cons_of_mem _ e)) h.2
  exact⟨by rw[h.1,h1],h2⟩
theorem yn (x:Int) {c:UInt8} (hc:c.toNat=44∨c.toNat=58∨c.toNat=124):c∉itoa x:=fun h=>by
 have:=qf x c h
 omega
theorem oB {c:UInt8} (hc:c.toNat=44∨c.toNat=58∨c.toNat=124) {x y:Int} {r s:List UInt8} (h:dU x [c]++r=dU y [c]++s):x=y∧r=s:=by
 unfold dU at h
 rw[List.append_assoc,List.append_assoc] at h
 obtain⟨h1,h2⟩:=BT (yn x hc) (yn y hc) h
 exact⟨CQ h1,h2⟩
theorem yj {x:Int} {e r s:List UInt8} (h:(124:UInt8)::r=dU x e++s):False:=by
 unfold dU at h
 have h1:=ry x
 cases hx:itoa x with
 |nil=>exact h1 hx
 |cons d l=>
  rw[hx] at h
  simp only[List.cons_append,List.cons.injEq] at h
  have h2:=qf x d (by rw[hx];simp)
  rw[←h.1] at h2
  have:(124:UInt8).toNat=124:=rfl
  omega
theorem mZ:∀{l m:List Int} {r s:List UInt8},l.flatMap (fun w=>dU w [44])++124::r=m.flatMap (fun w=>dU w [44])++124::s→l=m∧r=s
 |[],[],r,s,h=>⟨rfl,by simpa using h⟩
 |[],y::m,r,s,h=>by
  rw[List.flatMap_cons,List.append_assoc] at h
  exact(yj h).elim
 |x::l,[],r,s,h=>by
  rw[List.flatMap_cons,List.append_assoc] at h
  exact(yj h.symm).elim
 |x::l,y::m,r,s,h=>by
  rw[List.flatMap_cons,List.flatMap_cons,List.append_assoc,List.append_assoc] at h
  obtain⟨h1,h2⟩:=oB (.inl rfl) h
  obtain⟨h3,h4⟩:=mZ h2
  exact⟨by rw[h1,h3],h4⟩
theorem I3:∀{l m:List cO},l.flatMap sM=m.flatMap sM→l=m
 |[],[],_=>rfl
 |[],y::m,h=>by
  rw[List.flatMap_cons] at h
  have:=congrArg List.length h
  have h1:=ry y.cL
  have h2:0<(itoa y.cL).length:=List.length_pos_iff.2 h1
  simp[sM,dU] at this
  try omega
 |x::l,[],h=>by
  rw[List.flatMap_cons] at h
  have:=congrArg List.length h
  have h1:=ry x.cL
  have h2:0<(itoa x.cL).length:=List.length_pos_iff.2 h1
  simp[sM,dU] at this
  try omega
 |x::l,y::m,h=>by
  rw[List.flatMap_cons,List.flatMap_cons] at h
  rw[show sM x=dU x.cL [58]++dU x.word [44] from rfl,show sM y=dU y.cL [58]++dU y.word [44] from rfl,List.append_assoc,List.append_assoc] at h
  obtain⟨h1,h2⟩:=oB (.inr (.inl rfl)) h
  obtain⟨h3,h4⟩:=oB (.inl rfl) h2
  have h5:=I3 h4
  obtain⟨a,b⟩:=x
  obtain⟨c,d⟩:=y
  simp only at h1 h3
  rw[h1,h3,h5]
theorem MD {m n:MS} {t:Nat} {r s:List UInt8} (h:pX m t++r=pX n t++s):m.at_.getD t 0=n.at_.getD t 0∧m.bh.getD t []=n.bh.getD t []∧r=s:=by
 unfold pX at h
 simp only[List.append_assoc] at h
 obtain⟨h1,h2⟩:=oB (.inl rfl) h
 obtain⟨h3,h4⟩:=mZ h2
 exact⟨h1,h3,h4⟩
theorem EX {m n:MS}:∀{ts:List Nat} {r s:List UInt8},ts.flatMap (pX m)++r=ts.flatMap (pX n)++s→(∀t∈ts,m.at_.getD t 0=n.at_.getD t 0∧m.bh.getD t []=n.bh.getD t [])∧r=s
 |[],r,s,h=>⟨fun t ht=>(by cases ht),h⟩
 |t::ts,r,s,h=>by
  rw[List.flatMap_cons,List.flatMap_cons,List.append_assoc,List.append_assoc] at h
  obtain⟨h1,h2,h3⟩:=MD h
  obtain⟨h4,h5⟩:=EX h3
  refine⟨fun x hx=> ?_,h5⟩
  rcases List.mem_cons.1 hx with rfl|hx
  ·exact⟨h1,h2⟩
  ·exact h4 x hx
theorem tU {α:Type} (d:α) {l m:List α} (hl:l.length=m.length) (h:∀t,t<l.length→l.getD t d=m.getD t d):l=m:=by
 apply List.ext_getElem hl
 intro i h1 h2
 have:=h i h1
 simpa[List.getD,h1,h2] using this
theorem CS {u:bf} {m n:MS} (hm:dw u m) (hn:dw u n) (h:fF m=fF n):m=n:=by
 unfold fF at h
 rw[hm.lV,hn.lV] at h
 simp only[List.append_assoc] at h
 obtain⟨h1,h2⟩:=EX h
 obtain⟨h3,h4⟩:=mZ h2
 obtain⟨h5,h6⟩:=mZ h4
 have h7:=I3 h6
 have h8:m.at_=n.at_:=tU 0 (by rw[hm.lV,hn.lV]) fun t ht=>(h1 t (List.mem_range.2 (by rw[←hm.lV];exact ht))).1
 have h9:m.bh=n.bh:=tU [] (by rw[hm.sl,hn.sl]) fun t ht=>(h1 t (List.mem_range.2 (by rw[←hm.sl];exact ht))).2
 obtain⟨a,b,c,d,e⟩:=m
 obtain⟨a',b',c',d',e'⟩:=n
 simp only at h3 h5 h7 h8 h9
 rw[h3,h5,h7,h8,h9]
end Go.Proofs.YtekfmjjmihomlaaGreat
end
section
/- One thread: what it comes to. -/
namespace Go.Proofs.YtekfmjjmihomlaaGreat
open Go Go.cQ Go.Proofs
set_option linter.unusedSimpArgs false
set_option linter.unusedVariables false
end Go.Proofs.YtekfmjjmihomlaaGreat
end
section
/- What a machine comes to is found. -/
namespace Go.Proofs.YtekfmjjmihomlaaGreat
open Go Go.cQ Go.Proofs
set_option linter.unusedSimpArgs false
set_option linter.unusedVariables false
theorem wO {u:bf} (hu:u.Wf) (hr:ca u) {most:Nat} {l:List bx} (hs:fS u most=some l) (hf:fj u l) (hlm:l.length≤most) {i t:Nat} (hi:i<l.length) (ht:t<u.bj.length) (hb:(l.getD i default).m.lg u t=0):∃j,j<l.length∧((l.getD i default).m.step u t).1=(l.getD j default).m:=by
 obtain⟨f,hf1,hf2⟩:=List.mem_map.1 (vi hs hlm i hi t ht hb)
 obtain⟨j,hj,rfl⟩:=List.mem_iff_getElem.1 hf1
 rw[show l[j]=l.getD j default by simp[List.getD,hj]] at hf2
 have h1:=(hf.ok i hi).1
 exact⟨j,hj,CS (sX hu hr h1 ht (lh h1 ht hb).1) (hf.ok j hj).1 hf2.symm⟩
theorem AR {u:bf} {m:MS} (h:dw u m):m.stuck u=true↔∀t,t<u.bj.length→m.lg u t≠0:=by
 unfold MS.stuck
 rw[h.lV,List.all_eq_true]
 constructor
 ·exact fun h t ht=>of_decide_eq_true (h t (List.mem_range.2 ht))
 ·exact fun h t ht=>decide_eq_true (h t (List.mem_range.1 ht))
theorem zW {u:bf} {l:List bx} (hf:fj u l) {i:Nat} (hi:i<l.length) (h:∀t,t<u.bj.length→(l.getD i default).m.lg u t≠0):(l.getD i default).m.end_ u∈j5 u l:=
 qN.2 (wC.2 ⟨i,hi,(AR (hf.ok i hi).1).2 h,rfl⟩)
theorem vI {l:List bx} {i:Nat} (hi:i<l.length):fZ l (l.getD i default).m.bn l.length=true:=by
 unfold fZ
 rw[List.take_length,List.any_eq_true]
 exact⟨_,cX default hi,decide_eq_true rfl⟩
theorem JL {u:bf} {m:MS} (h:dw u m) {t:Int} (hb:m.lg u t=0):∃k:Nat,t=k∧k<u.bj.length:=by
 by_cases e:t<0∨(m.at_.length:Int)≤t
 ·rw[xc e] at hb;cases hb
 ·rw[h.lV] at e
  exact⟨t.toNat,by omega,by omega⟩
end Go.Proofs.YtekfmjjmihomlaaGreat
end
section
/- How a machine stands, as an end; a slot told anew ahead of a drawn stretch. -/
namespace Go.Proofs.YtekfmjjmihomlaaGreat
open Go Go.cQ Go.Proofs
set_option linter.unusedSimpArgs false
set_option linter.unusedVariables false
set_option maxRecDepth 8000
theorem BW {P:Program} {ss:List nf} {fr fr2:Fr} {H H2:Hp} {nx nx2:Nat} {Q:QT} (h:Rt fr H nx fr2 H2 nx2) (k:ef P ss fr2 H2 nx2 Q):ef P ss fr H nx Q:=
 ⟨fun n lo code hc w0 M0 c0 a w hh=>k.1 n lo code hc w0 M0 c0 a w (h w0 M0 c0 lo n a w hh)⟩
theorem zK {P:Program} {ss:List nf} {fr fr2:Fr} {H H2:Hp} {nx nx2:Nat} {Q:QT} (h:Rt fr H nx fr2 H2 nx2) (C:Hp→Prop) (hC:C H2) (k:∀H3,C H3→ef P ss fr2 H3 nx2 Q):ef P ss fr H nx Q:=BW h (k H2 hC)
theorem JJ {u:bf} {m:MS} {L:ML} {H:Hp} (hM:L.At u m H) (nx:Nat):Wk (.pt L.mr 1 0 0) H nx (m.fz u) (j7 (jH L.all H) H) nx:=by
 have:=Wk.LN (nx:=nx) (r:= .pt L.mr 1 0 0) (jH L.all H) 6 (fun b q hq=>qw hq)
 rwa[hM.pk 2] at this
theorem vK (u:bf) (hr:ca u) (m:MS) (h:dw u m) (hp:m.bn.length * 16≤140737488355328) (hm:m.mem.length * 8≤140737488355328):Pure Tryz.prog 24 [m.fz u] (fun r=>r=(m.end_ u).av):=by
 have c0:=kX u m hp
 have c1:=qi u m hm
 have c2:=tH u hr m h
 refine aI C1 rfl ?_
 refine cM ?_
 first|exact rfl|trivial
end Go.Proofs.YtekfmjjmihomlaaGreat
end
section
/- A schedule comes to one of the ends: the law's walk. -/
namespace Go.Proofs.YtekfmjjmihomlaaGreat
open Go Go.cQ Go.Proofs
set_option linter.unusedSimpArgs false
set_option linter.unusedVariables false
set_option maxRecDepth 8000
set_option maxHeartbeats 4000000 in
theorem lC (u:bf) (hu:u.Wf) (most:Int) (hw:df most) (S:List Int) (hS:S.length * 8≤140737488351232):Pure Tryz.prog 8 [u.av,i64 most,cq S] (fun r=>r=bl true):=by
 have c0:=sr
 have c1:=mu u hu most
 have a0:(u.bj.map cB.av).length=u.bj.length:=by simp
 have a1:(S.map i64).length=S.length:=by simp
 refine aI LZ rfl ?_
 rcases vh u hu most with⟨h1,h2⟩|⟨l,hr,hm1,hm2,hs,hE,hf,hlm⟩
 ·unfold lq at c1
  rw[if_neg h1] at c1
  generalize (fb u most).1=e at *
  by_cases hr:ca u
  ·refine cM ?_
   refine aJ (mF u hu hr _ _) ?_
   rintro r H1 n1 ⟨L,rfl,hM,hlt,hn1,hk1⟩
   refine cM ?_
   exact eR (by simp[h1])
  ·have c2:=ye u hu hr
   refine cM ?_
   exact eR (by simp[h1])
 ·unfold lq at c1
  rw[hE,if_pos rfl] at c1
  dsimp only at c1
  obtain⟨M,rfl⟩:∃M:Nat,most=M:=⟨most.toNat,by omega⟩
  rw[Int.toNat_natCast] at hs hlm
  have hgl:=hr.A2
  refine cM ?_
  refine aJ (mF u hu hr _ _) ?_
  rintro r H1 n1 ⟨L,rfl,hM,hlt,hn1,hk1⟩
  refine cM ?_
  refine aR (fun i:Nat=>[(1,i64 M),(2,cq S),(3, .pt 0 1 0 0),(7,o9 (j5 u l)),(9, .pt L.mr 1 0 0),(11,i64 i)])
   (fun i H n=>i≤S.length∧(∃k,k<l.length∧L.At u (l.getD k default).m H)∧(∀y∈L.all,0<y∧y<n)∧1≤n∧∃d,bd H 0=some (.row 25 3 d [u.av])) (fun i=>S.length - i) 0 cK
   ⟨Nat.zero_le _,⟨0,hf.pos, ?_⟩,fun y hy=>⟨by have:=hlt y hy;omega,Nat.lt_of_lt_of_le (hlt y hy).2 cY⟩,cY,⟨_,Eq.trans bq ((hk1 0 (by omega)).trans bg)⟩⟩ ?_
  ·rw[hf.first]
   exact hM.cE (fun y hy=>by have:=hlt y hy;exact bq)
  clear hM hlt hn1 hk1
  rintro i H n ⟨hi,⟨k,hk,hM⟩,hlt,hn,⟨d0,r0'⟩⟩
  obtain⟨hok,hpl⟩:=hf.ok k hk
  by_cases h1:i<S.length
  ·have e0:=fun d=>ed (l:=S) h1 d
   generalize hg:S.getD i 0=t at *
   by_cases hb:(l.getD k default).m.lg u t=0
   ·obtain⟨t,rfl,ht⟩:=JL hok hb
    refine cM ?_
    refine aJ (qu hu hr hok (hM.cE fun y hy=> ?_) (fun y hy=>Nat.lt_of_lt_of_le (hlt y hy).2 cY) (by omega) ht hb) ?_
    ·have:=hlt y hy;exact bq
    rintro r H2 n2 ⟨rfl,hM2,hn2,hk2⟩
    obtain⟨j,hj,hstep⟩:=wO hu hr hs hf hlm hk ht hb
    rw[hstep] at hM2
    refine cM ?_
    exact⟨i+1,by omega,cK,by omega,⟨j,hj,hM2.cE (fun y hy=>by have:=hlt y hy;exact bq)⟩,fun y hy=>⟨(hlt y hy).1,Nat.lt_of_lt_of_le (hlt y hy).2 cY⟩,cY,⟨_,Eq.trans bq ((hk2 0 (by omega) fun h=>by have:=hlt _ h;omega).trans bg)⟩⟩
   ·refine cM ?_
    refine aJ (ER hr hok (hM.cE fun y hy=> ?_) (fun y hy=>Nat.lt_of_lt_of_le (hlt y hy).2 cY) t hb) ?_
    ·have:=hlt y hy;exact bq
    rintro r H2 n2 ⟨rfl,hn2,hk2⟩
    refine cM ?_
    exact⟨i+1,by omega,cK,by omega,⟨k,hk,(hM.cE fun y hy=>by have:=hlt y hy;exact Eq.trans bq ((hk2 y (by omega)).trans bq))⟩,fun y hy=>⟨(hlt y hy).1,Nat.lt_of_lt_of_le (hlt y hy).2 cY⟩,cY,⟨_,Eq.trans bq ((hk2 0 (by omega)).trans bg)⟩⟩
  ·have hmm:(l.getD k default).m.mem.length * 8≤140737488355328:=by have:=hok.ml;omega
   have c2:=kX u (l.getD k default).m (by omega)
   have c3:=xL u hu M (l.getD k default).m.bn (by omega)
   rw[hE] at c3
   dsimp only at c3
   rw[vI hk] at c3
   refine JF ?_
   have hz:(0:Nat)∉L.all:=fun h=>by have:=hlt _ h;omega
   refine zK (Rt.slot 9 rfl (JJ (hM.cE fun y hy=> ?_) _)) (fun H=>∃d,bd H 0=some (.row 25 3 d [u.av])) ⟨_,(dR hz).trans (Eq.trans bq r0')⟩ ?_
   ·have:=hlt y hy;exact bq
   rintro H3 ⟨d3,r3'⟩
   refine cM ?_
   refine aR (fun i:Nat=>[(3, .pt 0 1 0 0),(7,o9 (j5 u l)),(9,(l.getD k default).m.fz u),(13,i64 i)]) (fun i H n=>i≤u.bj.length∧(∀j:Nat,j<i→(l.getD k default).m.lg u j≠0)∧1≤n∧∃d,bd H 0=some (.row 25 3 d [u.av])) (fun i=>u.bj.length - i) 0 cK ⟨Nat.zero_le _,fun j hj=>by omega,cY,⟨_,bg⟩⟩ ?_
   clear hM hlt r0' r3' hi h1
   rintro i H n ⟨hi,hall,hn,⟨d0,r0'⟩⟩
   by_cases h1:i<u.bj.length
   ·have c4:=vl u hr _ hok i
    by_cases hb:(l.getD k default).m.lg u i=0
    ·rw[decide_eq_true hb] at c4
     refine cM ?_
     first|exact rfl|trivial
    ·rw[decide_eq_false hb] at c4
     refine cM ?_
     exact⟨i+1,by omega,cK,by omega,fun j hj=>by
      by_cases e:j=i
      ·rw[e];exact hb
      ·exact hall j (by omega),cY,⟨_,bg⟩⟩
   ·have hin:=zW hf hk fun t ht=>hall t (by omega)
    have c4:=vK u hr _ hok (by omega) hmm
    have hen:sd ((l.getD k default).m.end_ u):=⟨by show(l.getD k default).m.bn.length<_;omega,by show(l.getD k default).m.mem.length<_;omega⟩
    have hei:∀e∈j5 u l,sd e:=fun e he=>qO hr hf (by omega) _ e (qN.1 he)
    have hel:=zM u l
    clear hall c1 c2 c3
    generalize (l.getD k default).m.end_ u=e at *
    generalize j5 u l=E at *
    have a2:(E.map dG.av).length=E.length:=by simp
    refine cM ?_
    refine aR (fun j:Nat=>[(7,o9 E),(14, .pt (n+6) 1 0 0),(15,i64 j)]) (fun j H n2=>j≤E.length∧n+7≤n2∧(∃d,bd H (n+6)=some (.row 40 3 d [e.av]))∧∀q:Nat,q<j→eC (E.getD q default) e≠0) (fun j=>E.length - j) 0 cK ⟨Nat.zero_le _,cY,⟨_,bg⟩,fun q hq=>by omega⟩ ?_
    clear r0' hn h1 hi
    rintro j H2 n2 ⟨hj,hn2,⟨d6,r6'⟩,hne⟩
    by_cases h2:j<E.length
    ·have e0:∀d,(E.map dG.av).getD ((j:Int)).toNat d=(E.getD j default).av:=fun d=>by rw[Int.toNat_natCast];exact dJ dG.av E j d h2
     obtain⟨q1,q2⟩:=hei _ (cX default h2)
     have c1:=wy (E.getD j default) e q1 q2
     by_cases hc0:eC (E.getD j default) e=0
     ·rw[hc0] at c1
      refine cM ?_
      first|exact rfl|trivial
     ·refine cM ?_
      exact⟨j+1,by omega,cK,by omega,cY,⟨_,bg⟩,fun q hq=>by
       by_cases e1:q=j
       ·rw[e1];exact hc0
       ·exact hne q (by omega)⟩
    ·exfalso
     obtain⟨q,hq,he⟩:=List.mem_iff_getElem.1 hin
     refine hne q (by omega) ((xd.zero _ _).2 ?_)
     rw[←he]
     simp[List.getD,hq]
end Go.Proofs.YtekfmjjmihomlaaGreat
end
section
/- A schedule that is run to where no thread can step comes to one of Ends, and what was printed by the way is shown: for every unit and schedule. No conditions. -/
namespace Go.Proofs.YtekfmjjmihomlaaGreat
open Go Go.cQ Go.Proofs Go.RowKit Go.ChangeShapes Go.WideShapes Go.ChangeAt
set_option linter.unusedSimpArgs false
set_option linter.unusedVariables false
set_option maxRecDepth 100000 in
theorem jo (os:Os) (started:os.Started) (H:Type) (enc:TypeId×Value→H):
 ReturnsInHanded {} Tryz.checked os 8 .any (Rows.exploreClosedSpec.pre6 enc Tryz.prog Tryz.f8 Rows.exploreClosedRow.domain false) (Rows.exploreClosedSpec.post enc Tryz.prog Tryz.f8 false true false false):=by
 refine returnsInHanded_of_change_sized (C:=Tryz.checked) own started (by kernel_rfl) Tryz.func8
  (ChangeSpec.witness6 (enc:=enc) (C:=Tryz.checked) false ⟨#[],#[.agg #[.slice none 0 0, .slice none 0 0, .slice none 0 0], .int .i64 0, .slice none 0 0],[]⟩ 8 (by kernel_rfl) (by kernel_rfl) (by kernel_rfl) (by kernel_rfl)) ?_
 intro W base args ds gs before hval hW _ hr _
 refine sD (ts:=[25,3,53]) (tb:=4) laidOut (by kernel_rfl) rfl Tryz.underlying4 (by kernel_rfl) (fun ds h=> ?_) (fun t ht=> ?_)
  (iX (ag:=true) (by kernel_rfl) wj (fun h=>by cases h) (iX (ag:=false) (by kernel_rfl) (dO Tryz.underlying3) (fun _ _ _=>rfl) (iX (ag:=false) (by kernel_rfl) (wh Tryz.underlying53 Tryz.underlying3 (by kernel_rfl) (by kernel_rfl)) (fun _ _ _=>rfl) sI)))
  (fun a h=> ?_) hval hW hr
 ·match ds,h with
  |[d0,d1,d2],_=>rfl
 ·have:∀t∈[25,3,53],Tryz.prog.readableRec t=true∧t<Tryz.prog.types.size:=by
   simp only[List.forall_mem_cons]
   refine⟨⟨by kernel_rfl,of_decide_eq_true (by kernel_rfl)⟩,⟨by kernel_rfl,of_decide_eq_true (by kernel_rfl)⟩,⟨by kernel_rfl,of_decide_eq_true (by kernel_rfl)⟩,by simp⟩
  exact this t ht
 ·exact lC a.1 h.1 a.2.1 h.2.1 a.2.2.1 h.2.2.1.2
theorem exploreClosed_holds:Rows.ExploreClosedSaid:=
 OpenClaim.holds_of_wide 8 Tryz.f8 rfl rfl rfl rfl rfl rfl rfl ⟨rfl,rfl,rfl,rfl,rfl⟩ rfl rfl rfl rfl rfl (by kernel_rfl) Tryz.func8 (by kernel_rfl)
  (of_decide_eq_true (by kernel_rfl)) (by unfold Func.isWrapper;first|(rw[if_pos (by decide+kernel)];kernel_rfl)|(rw[if_neg (by decide+kernel)];exact⟨rfl,rfl⟩))
  (fun os started H enc _=>jo os started H enc)
end Go.Proofs.YtekfmjjmihomlaaGreat
end
