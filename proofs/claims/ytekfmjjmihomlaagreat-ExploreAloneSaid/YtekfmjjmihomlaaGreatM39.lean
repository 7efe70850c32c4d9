import Derived.Test.YtekfmjjmihomlaaGreatM31
import Derived.Test.YtekfmjjmihomlaaGreatM33
import Derived.Test.YtekfmjjmihomlaaGreatM38
section
/- The key tells the situation. -/
namespace Go.Proofs.YtekfmjjmihomlaaGreat
open Go Go.cO Go.Proofs
open Go.Lib (decDigits itoa)
set_option linter.unusedSimpArgs false
set_option linter.unusedVariables false
theorem rl (n:Nat):∀d∈decDigits n,48≤d.toNat∧d.toNat≤57:=by
 induction n using Nat.strongRecOn with
 |_ n ih=>
  intro d hd
  by_cases h:n<10
  ·rw[decDigits,dif_pos h] at hd
   simp only[List.mem_cons,List.not_mem_nil,or_false] at hd
   subst hd
   rw[UInt8.toNat_ofNat']
   omega
  ·rw[decDigits.eq_def n,dif_neg h] at hd
   rcases List.mem_append.1 hd with hd|hd
   ·exact ih (n /10) (by omega) d hd
   ·simp only[List.mem_cons,List.not_mem_nil,or_false] at hd
    subst hd
    rw[UInt8.toNat_ofNat']
    omega
def AU (l:List UInt8):Nat:=l.foldl (fun a d=>a * 10+(d.toNat - 48)) 0
theorem mX (n:Nat):AU (decDigits n)=n:=by
 induction n using Nat.strongRecOn with
 |_ n ih=>
  by_cases h:n<10
  ·rw[decDigits,dif_pos h]
   simp only[AU,List.foldl_cons,List.foldl_nil,UInt8.toNat_ofNat']
   omega
  ·rw[decDigits.eq_def n,dif_neg h]
   unfold AU
   rw[List.foldl_append]
   have:=ih (n /10) (by omega)
   unfold AU at this
   rw[this]
   simp only[List.foldl_cons,List.foldl_nil,UInt8.toNat_ofNat']
   omega
theorem JL (n:Nat):decDigits n≠[]:=by
 by_cases h:n<10
 ·rw[decDigits,dif_pos h];simp
 ·rw[decDigits.eq_def n,dif_neg h];simp
theorem qf (x:Int):∀d∈itoa x,d.toNat=45∨48≤d.toNat∧d.toNat≤57:=by
 intro d hd
 unfold itoa at hd
 split at hd
 ·rcases List.mem_cons.1 hd with rfl|hd
  ·exact .inl rfl
  ·exact .inr (rl _ d hd)
 ·exact .inr (rl _ d hd)
theorem sB (x:Int):itoa x≠[]:=by
 unfold itoa
 split
 ·simp
 ·exact JL _
theorem CQ {x y:Int} (h:itoa x=itoa y):x=y:=by
 have h45:∀n:Nat,∀l:List UInt8,decDigits n≠45::l:=fun n l e=>by
  have:=rl n 45 (by rw[e];simp)
  have:(45:UInt8).toNat=45:=rfl
  omega
 unfold itoa at h
 split at h<;>split at h
 ·have e:=congrArg AU (List.cons.inj h).2
  rw[mX,mX] at e
  omega
 ·exact absurd h.symm (h45 _ _)
 ·exact absurd h (h45 _ _)
 ·have e:=congrArg AU h
  rw[mX,mX] at e
  omega
theorem BT {c:UInt8}:∀{a b r s:List UInt8},c∉a→c∉b→a++c::r=b++c::s→a=b∧r=s
 |[],[],r,s,_,_,h=>⟨rfl,by simpa using h⟩
 |[],y::b,r,s,_,hb,h=>by
  simp only[List.nil_append,List.cons_append,List.cons.injEq] at h
  exact absurd (by rw[h.1];simp) hb
 |x::a,[],r,s,ha,_,h=>by
  simp only[List.nil_append,List.cons_append,List.cons.injEq] at h
  exact absurd (by rw[h.1];simp) ha
 |x::a,y::b,r,s,ha,hb,h=>by
  simp only[List.cons_append,List.cons.injEq] at h
  obtain⟨h1,h2⟩:=BT (fun e=>ha (List.mem_cons_of_mem _ e)) (fun e=>hb (List.mem_cons_of_mem _ e)) h.2
  exact⟨by rw[h.1,h1],h2⟩
theorem yn (x:Int) {c:UInt8} (hc:c.toNat=44∨c.toNat=58∨c.toNat=124):c∉itoa x:=fun h=>by
 have:=qf x c h
 omega
theorem oC {c:UInt8} (hc:c.toNat=44∨c.toNat=58∨c.toNat=124) {x y:Int} {r s:List UInt8} (h:dR x [c]++r=dR y [c]++s):x=y∧r=s:=by
 unfold dR at h
 rw[List.append_assoc,List.append_assoc] at h
 obtain⟨h1,h2⟩:=BT (yn x hc) (yn y hc) h
 exact⟨CQ h1,h2⟩
theorem yj {x:Int} {e r s:List UInt8} (h:(124:UInt8)::r=dR x e++s):False:=by
 unfold dR at h
 have h1:=sB x
 cases hx:itoa x with
 |nil=>exact h1 hx
 |cons d l=>
  rw[hx] at h
  simp only[List.cons_append,List.cons.injEq] at h
  have h2:=qf x d (by rw[hx];simp)
  rw[←h.1] at h2
  have:(124:UInt8).toNat=124:=rfl
  omega
theorem mY:∀{l m:List Int} {r s:List UInt8},l.flatMap (fun w=>dR w [44])++124::r=m.flatMap (fun w=>dR w [44])++124::s→l=m∧r=s
 |[],[],r,s,h=>⟨rfl,by simpa using h⟩
 |[],y::m,r,s,h=>by
  rw[List.flatMap_cons,List.append_assoc] at h
  exact(yj h).elim
 |x::l,[],r,s,h=>by
  rw[List.flatMap_cons,List.append_assoc] at h
  exact(yj h.symm).elim
 |x::l,y::m,r,s,h=>by
  rw[List.flatMap_cons,List.flatMap_cons,List.append_assoc,List.append_assoc] at h
  obtain⟨h1,h2⟩:=oC (.inl rfl) h
  obtain⟨h3,h4⟩:=mY h2
  exact⟨by rw[h1,h3],h4⟩
theorem I1:∀{l m:List cY},l.flatMap sP=m.flatMap sP→l=m
 |[],[],_=>rfl
 |[],y::m,h=>by
  rw[List.flatMap_cons] at h
  have:=congrArg List.length h
  have h1:=sB y.cL
  have h2:0<(itoa y.cL).length:=List.length_pos_iff.2 h1
  simp[sP,dR] at this
  try omega
 |x::l,[],h=>by
  rw[List.flatMap_cons] at h
  have:=congrArg List.length h
  have h1:=sB x.cL
  have h2:0<(itoa x.cL).length:=List.length_pos_iff.2 h1
  simp[sP,dR] at this
  try omega
 |x::l,y::m,h=>by
  rw[List.flatMap_cons,List.flatMap_cons] at h
  rw[show sP x=dR x.cL [58]++dR x.word [44] from rfl,show sP y=dR y.cL [58]++dR y.word [44] from rfl,List.append_assoc,List.append_assoc] at h
  obtain⟨h1,h2⟩:=oC (.inr (.inl rfl)) h
  obtain⟨h3,h4⟩:=oC (.inl rfl) h2
  have h5:=I1 h4
  obtain⟨a,b⟩:=x
  obtain⟨c,d⟩:=y
  simp only at h1 h3
  rw[h1,h3,h5]
theorem L8 {m n:MS} {t:Nat} {r s:List UInt8} (h:p6 m t++r=p6 n t++s):m.at_.getD t 0=n.at_.getD t 0∧m.bg.getD t []=n.bg.getD t []∧r=s:=by
 unfold p6 at h
 simp only[List.append_assoc] at h
 obtain⟨h1,h2⟩:=oC (.inl rfl) h
 obtain⟨h3,h4⟩:=mY h2
 exact⟨h1,h3,h4⟩
theorem ET {m n:MS}:∀{ts:List Nat} {r s:List UInt8},ts.flatMap (p6 m)++r=ts.flatMap (p6 n)++s→(∀t∈ts,m.at_.getD t 0=n.at_.getD t 0∧m.bg.getD t []=n.bg.getD t [])∧r=s
 |[],r,s,h=>⟨fun t ht=>(by cases ht),h⟩
 |t::ts,r,s,h=>by
  rw[List.flatMap_cons,List.flatMap_cons,List.append_assoc,List.append_assoc] at h
  obtain⟨h1,h2,h3⟩:=L8 h
  obtain⟨h4,h5⟩:=ET h3
  refine⟨fun x hx=> ?_,h5⟩
  rcases List.mem_cons.1 hx with rfl|hx
  ·exact⟨h1,h2⟩
  ·exact h4 x hx
theorem tZ {α:Type} (d:α) {l m:List α} (hl:l.length=m.length) (h:∀t,t<l.length→l.getD t d=m.getD t d):l=m:=by
 apply List.ext_getElem hl
 intro i h1 h2
 have:=h i h1
 simpa[List.getD,h1,h2] using this
theorem CS {u:bf} {m n:MS} (hm:dw u m) (hn:dw u n) (h:fH m=fH n):m=n:=by
 unfold fH at h
 rw[hm.l9,hn.l9] at h
 simp only[List.append_assoc] at h
 obtain⟨h1,h2⟩:=ET h
 obtain⟨h3,h4⟩:=mY h2
 obtain⟨h5,h6⟩:=mY h4
 have h7:=I1 h6
 have h8:m.at_=n.at_:=tZ 0 (by rw[hm.l9,hn.l9]) fun t ht=>(h1 t (List.mem_range.2 (by rw[←hm.l9];exact ht))).1
 have h9:m.bg=n.bg:=tZ [] (by rw[hm.sl,hn.sl]) fun t ht=>(h1 t (List.mem_range.2 (by rw[←hm.sl];exact ht))).2
 obtain⟨a,b,c,d,e⟩:=m
 obtain⟨a',b',c',d',e'⟩:=n
 simp only at h3 h5 h7 h8 h9
 rw[h3,h5,h7,h8,h9]
end Go.Proofs.YtekfmjjmihomlaaGreat
end
section
/- One thread: what it comes to. -/
namespace Go.Proofs.YtekfmjjmihomlaaGreat
open Go Go.cO Go.Proofs
set_option linter.unusedSimpArgs false
set_option linter.unusedVariables false
def fA (u:bf):Nat→MS
 |0=>dU u
 |i+1=>((fA u i).step u 0).1
theorem J3 (u:bf) (hu:u.Wf) (hr:c8 u):dw u (dU u):=yd u hr (fun d hd=>(hu.shared d hd).word) fun t ht=>(hr.gr ht).len.1
theorem sZ {u:bf} (hu:u.Wf) (hr:c8 u) (hg:u.bj.length=1):∀i,(∀k,k<i→(fA u k).ky u 0=0)→dw u (fA u i)∧(fA u i).bn.length≤i
 |0,_=>⟨J3 u hu hr,Nat.le_refl _⟩
 |i+1,h=>by
  obtain⟨h1,h2⟩:=sZ hu hr hg i fun k hk=>h k (by omega)
  have hb:=h i (by omega)
  have h3:=s8 hu hr h1 (t:=0) (by omega) (la h1 (t:=0) (by omega) hb).1
  have h4:=kC u (fA u i) 0
  exact⟨h3,by show((fA u i).step u 0).1.bn.length≤_;omega⟩
theorem AO {u:bf} {m:MS} (h:dw u m) (hg:u.bj.length=1):m.stuck u=decide (m.ky u 0≠0):=by
 unfold MS.stuck
 rw[h.l9,hg]
 simp[List.range_succ]
theorem wa {l:List cC} (h:(eu l).Nodup) {i j:Nat} (hi:i<l.length) (hj:j<l.length) (he:(l.getD i default).m=(l.getD j default).m):i=j:=by
 have h1:i<(eu l).length:=by simpa using hi
 have h2:j<(eu l).length:=by simpa using hj
 have hk:(eu l)[i]=(eu l)[j]:=by
  simp only[eu,List.getElem_map]
  rw[show l[i]=l.getD i default by simp[List.getD,hi],show l[j]=l.getD j default by simp[List.getD,hj],he]
 rcases Nat.lt_trichotomy i j with e|e|e
 ·exact absurd hk (List.pairwise_iff_getElem.1 h i j h1 h2 e)
 ·exact e
 ·exact absurd hk.symm (List.pairwise_iff_getElem.1 h j i h2 h1 e)
theorem sy {u:bf} {l:List cC} (hf:fx u l) (hg:u.bj.length=1):∀i,i<l.length→(l.getD i default).m=fA u i∧∀k,k<i→(fA u k).ky u 0=0:=by
 intro i
 induction i using Nat.strongRecOn with
 |_ i ih=>
  intro hi
  by_cases h0:i=0
  ·subst h0
   rw[hf.first]
   exact⟨rfl,fun k hk=>by omega⟩
  obtain⟨k,t,h1,h2,h3,h4⟩:=hf.BM i (by omega) hi
  obtain rfl:t=0:=by omega
  obtain⟨e1,e2⟩:=ih k h1 (by omega)
  have h5:(l.getD i default).m=fA u (k+1):=by
   rw[h4,e1];rfl
  rw[e1] at h3
  by_cases hk:k+1=i
  ·subst hk
   exact⟨h5,fun k' hk'=>by
    by_cases e:k'=k
    ·rw[e];exact h3
    ·exact e2 k' (by omega)⟩
  ·have h6:=(ih (k+1) (by omega) (by omega)).1
   exact absurd (wa hf.keys (by omega) hi (h6.trans h5.symm)) hk
theorem xT {u:bf} {l:List cC} (h:∀e,e∉dI u l l.length):iD u l=[]:=by
 apply List.eq_nil_iff_forall_not_mem.2
 intro e he
 exact h e (qO.1 he)
theorem xU {u:bf} {l:List cC} {x:dK} (h:∀e,e∈dI u l l.length↔e=x):iD u l=[x]:=by
 have h1:=rn u l
 have h2:∀e,e∈iD u l↔e=x:=fun e=>qO.trans (h e)
 cases hl:iD u l with
 |nil=>exact absurd ((h2 x).2 rfl) (by rw[hl];simp)
 |cons a t=>
  rw[hl] at h1 h2
  have ha:=(h2 a).1 (by simp)
  subst ha
  cases t with
  |nil=>rfl
  |cons b t=>
   have hb:=(h2 b).1 (by simp)
   subst hb
   have:=(List.pairwise_cons.1 h1).1 b (by simp)
   rw[(jN.zero _ _).2 rfl] at this
   omega
theorem zB {u:bf} (hu:u.Wf) (hr:c8 u) (hg:u.bj.length=1) {most:Nat} {l:List cC} (hs:fk u most=some l) (hf:fx u l) (hlm:l.length≤most) {j:Nat} (hj:j≤most) (hb:∀k,k<j→(fA u k).ky u 0=0) (hjm:j=most∨(fA u j).ky u 0≠0):
 ((fA u j).ky u 0=0→iD u l=[])∧((fA u j).ky u 0≠0→iD u l=[(fA u j).end_ u]):=by
 have hch:=sy hf hg
 have hst:∀i,i<l.length→((l.getD i default).m.stuck u=true↔(fA u i).ky u 0≠0):=fun i hi=>by
  rw[AO (hf.ok i hi).1 hg,(hch i hi).1]
  exact decide_eq_true_iff
 constructor
 ·intro h0
  have hjm:j=most:=hjm.elim id fun h=>absurd h0 h
  refine xT fun e he=> ?_
  obtain⟨i,hi,h1,_⟩:=og.1 he
  exact(hst i hi).1 h1 (hb i (by omega))
 ·intro h0
  have hjl:j<l.length:=by
   refine Decidable.byContradiction fun hn=> ?_
   have hpos:=hf.pos
   obtain⟨L,hL⟩:∃L,l.length=L+1:=⟨l.length - 1,by omega⟩
   have hbL:=hb L (by omega)
   have hle:=vk hs hlm L (by omega) 0 (by omega)
   unfold k9 at hle
   rw[(hch L (by omega)).1] at hle
   obtain⟨f,hf1,hf2⟩:=List.mem_map.1 (hle hbL)
   obtain⟨i,hi,rfl⟩:=List.mem_iff_getElem.1 hf1
   rw[show l[i]=l.getD i default by simp[List.getD,hi],(hch i hi).1] at hf2
   have ho1:=(sZ hu hr hg i fun k hk=>hb k (by omega)).1
   have ho2:=(sZ hu hr hg (L+1) fun k hk=>hb k (by omega)).1
   have heq:fA u i=fA u (L+1):=CS ho1 ho2 hf2
   have hcyc:∀n,∃i',i'≤L∧fA u n=fA u i':=by
    intro n
    induction n with
    |zero=>exact⟨0,by omega,rfl⟩
    |succ n ih=>
     obtain⟨i',h1,h2⟩:=ih
     by_cases e:i'=L
     ·refine⟨i,by omega, ?_⟩
      rw[heq,←e]
      show((fA u n).step u 0).1=((fA u i').step u 0).1
      rw[h2]
     ·refine⟨i'+1,by omega, ?_⟩
      show((fA u n).step u 0).1=((fA u i').step u 0).1
      rw[h2]
   obtain⟨i',h1,h2⟩:=hcyc j
   exact h0 (by rw[h2];exact hb i' (by omega))
  refine xU fun e=> ?_
  rw[og]
  constructor
  ·rintro⟨i,hi,h1,rfl⟩
   have h2:=(hst i hi).1 h1
   have h3:i=j:=by
    rcases Nat.lt_trichotomy i j with h|h|h
    ·exact absurd (hb i h) h2
    ·exact h
    ·exact absurd ((hch i hi).2 j h) h0
   subst h3
   rw[(hch i hi).1]
  ·rintro rfl
   exact⟨j,hjl,(hst j hjl).2 h0,by rw[(hch j hjl).1]⟩
end Go.Proofs.YtekfmjjmihomlaaGreat
end
section
/- How a machine stands, as an end; a slot told anew ahead of a drawn stretch. -/
namespace Go.Proofs.YtekfmjjmihomlaaGreat
open Go Go.cO Go.Proofs
set_option linter.unusedSimpArgs false
set_option linter.unusedVariables false
set_option maxRecDepth 8000
theorem tL {P:Program} {ss:List np} {fr fr2:Fr} {H H2:Hp} {nx nx2:Nat} {Q:QT} (h:Rt fr H nx fr2 H2 nx2) (k:fF P ss fr2 H2 nx2 Q):fF P ss fr H nx Q:=
 ⟨fun n lo code hc w0 M0 c0 a w hh=>k.1 n lo code hc w0 M0 c0 a w (h w0 M0 c0 lo n a w hh)⟩
theorem BJ {u:bf} {m:MS} {L:ML} {H:Hp} (hM:L.At u m H) (nx:Nat):Wk (.pt L.mr 1 0 0) H nx (m.fz u) (j5 (jD L.all H) H) nx:=by
 have:=Wk.LH (nx:=nx) (r:= .pt L.mr 1 0 0) (jD L.all H) 6 (fun b q hq=>qx hq)
 rwa[hM.pn 2] at this
theorem vO (u:bf) (hr:c8 u) (m:MS) (h:dw u m) (hp:m.bn.length * 16≤140737488355328) (hm:m.mem.length * 8≤140737488355328):Pure Tryz.prog 24 [m.fz u] (fun r=>r=(m.end_ u).av):=by
 have c0:=qo u m hp
 have c1:=qj u m hm
 have c2:=tM u hr m h
 refine aI C1 rfl ?_
 refine cQ ?_
 first|exact rfl|trivial
end Go.Proofs.YtekfmjjmihomlaaGreat
end
section
/- A program of one thread has one end at most: the law's walk. -/
namespace Go.Proofs.YtekfmjjmihomlaaGreat
open Go Go.cO Go.Proofs
set_option linter.unusedSimpArgs false
set_option linter.unusedVariables false
set_option maxRecDepth 8000
set_option maxHeartbeats 4000000 in
theorem lp (u:bf) (hu:u.Wf) (most:Int) (hw:di most):Pure Tryz.prog 6 [u.av,i64 most] (fun r=>r=bl true):=by
 have c0:=tA
 have c1:=mu u hu most
 have a0:(u.bj.map cA.av).length=u.bj.length:=by simp
 refine aI LU rfl ?_
 by_cases hg:u.bj.length=1
 ·rcases vj u hu most with⟨h1,h2⟩|⟨l,hr,hm1,hm2,hs,hE,hf,hlm⟩
  ·unfold ln at c1
   rw[if_neg h1] at c1
   generalize (gF u most).1=e at *
   by_cases hr:c8 u
   ·refine cQ ?_
    refine aJ (mE u hu hr _ _) ?_
    rintro r H1 n1 ⟨L,rfl,hM,hlt,hn1,hk1⟩
    refine cQ ?_
    exact ec (decide_eq_true h1)
   ·have c2:=ye u hu hr
    refine cQ ?_
    exact ec (decide_eq_true h1)
  ·unfold ln at c1
   rw[hE,if_pos rfl] at c1
   dsimp only at c1
   obtain⟨M,rfl⟩:∃M:Nat,most=M:=⟨most.toNat,by omega⟩
   rw[Int.toNat_natCast] at hs hlm
   refine cQ ?_
   refine aJ (mE u hu hr _ _) ?_
   rintro r H1 n1 ⟨L,rfl,hM,hlt,hn1,hk1⟩
   refine cQ ?_
   refine aR (fun i:Nat=>[(1,i64 M),(5,wD (iD u l)),(7, .pt L.mr 1 0 0),(9,i64 i)]) (fun i H n=>i≤M∧L.At u (fA u i) H∧(∀y∈L.all,y<n)∧∀k,k<i→(fA u k).ky u 0=0) (fun i=>M - i) 0 cM ⟨Nat.zero_le _,hM.cE (fun y hy=>by have:=hlt y hy;exact bq),fun y hy=>Nat.lt_of_lt_of_le (hlt y hy).2 cZ,fun k hk=>by omega⟩ ?_
   clear hM hlt hn1 hk1
   rintro i H n ⟨hi,hM,hlt,hb⟩
   obtain⟨hok,hpl⟩:=sZ hu hr hg i hb
   have hend:=zB hu hr hg hs hf hlm hi hb
   have hcl:(fA u i).mem.length * 8≤140737488355328:=by have:=hok.ml;have:=hr.AZ;omega
   have c2:=vO u hr (fA u i) hok (by omega) hcl
   have c3:=wy ((fA u i).end_ u) ((fA u i).end_ u) (by show(fA u i).bn.length<_;omega) (by show(fA u i).mem.length<_;omega)
   rw[(jN.zero _ _).2 rfl] at c3
   by_cases h1:i<M
   ·have r0:decide ((i:Int)<(M:Int))=true:=decide_eq_true (by omega)
    by_cases h2:(fA u i).ky u 0=0
    ·refine cQ ?_
     refine aT (kz u hr _ hok 0) (nM hM 0 fun y hy=> ?_) (by simp[cK,bx,gm]) trivial ?_
     ·have:=hlt y hy;exact bq
     rw[decide_eq_true h2]
     refine cQ ?_
     refine aJ (qv (t:=0) hu hr hok (hM.cE fun y hy=> ?_) (fun y hy=>Nat.lt_of_lt_of_le (hlt y hy) cZ) (by omega) (by omega) h2) ?_
     ·have:=hlt y hy;exact bq
     rintro r H2 n2 ⟨rfl,hM2,hn2,hk2⟩
     refine cQ ?_
     exact⟨i+1,by omega,cM,by omega,hM2.cE (fun y hy=>by have:=hlt y hy;exact bq),fun y hy=>Nat.lt_of_lt_of_le (hlt y hy) cZ,fun k hk=>by
      by_cases e:k=i
      ·rw[e];exact h2
      ·exact hb k (by omega)⟩
    ·have hE1:=(hend (.inr h2)).2 h2
     refine cQ ?_
     refine aT (kz u hr _ hok 0) (nM hM 0 fun y hy=> ?_) (by simp[cK,bx,gm]) trivial ?_
     ·have:=hlt y hy;exact bq
     rw[decide_eq_false h2]
     refine cQ ?_
     refine aT (kz u hr _ hok 0) (nM hM 0 fun y hy=> ?_) (by simp[cK,bx,gm]) trivial ?_
     ·have:=hlt y hy;exact bq
     rw[decide_eq_false h2,hE1]
     refine FC ?_
     refine tL (Rt.slot 7 rfl (BJ (hM.cE fun y hy=> ?_) _)) ?_
     ·have:=hlt y hy;exact bq
     refine cQ ?_
     first|exact rfl|trivial
   ·have r0:decide ((i:Int)<(M:Int))=false:=decide_eq_false (by omega)
    have hend:=hend (.inl (by omega))
    by_cases h2:(fA u i).ky u 0=0
    ·have hE1:=hend.1 h2
     refine cQ ?_
     refine aT (kz u hr _ hok 0) (nM hM 0 fun y hy=> ?_) (by simp[cK,bx,gm]) trivial ?_
     ·have:=hlt y hy;exact bq
     rw[decide_eq_true h2,hE1]
     refine cQ ?_
     first|exact rfl|trivial
    ·have hE1:=hend.2 h2
     refine cQ ?_
     refine aT (kz u hr _ hok 0) (nM hM 0 fun y hy=> ?_) (by simp[cK,bx,gm]) trivial ?_
     ·have:=hlt y hy;exact bq
     rw[decide_eq_false h2,hE1]
     refine FC ?_
     refine tL (Rt.slot 7 rfl (BJ (hM.cE fun y hy=> ?_) _)) ?_
     ·have:=hlt y hy;exact bq
     refine cQ ?_
     first|exact rfl|trivial
 ·refine cQ ?_
  first|exact rfl|trivial
end Go.Proofs.YtekfmjjmihomlaaGreat
end
section
/- A program of one thread has one end at most, that to which it comes: for every unit. No conditions. -/
namespace Go.Proofs.YtekfmjjmihomlaaGreat
open Go Go.cO Go.Proofs Go.RowKit Go.ChangeShapes Go.WideShapes Go.ChangeAt
set_option linter.unusedSimpArgs false
set_option linter.unusedVariables false
set_option maxRecDepth 100000 in
theorem kZ (os:Os) (started:os.Started) (H:Type) (enc:TypeId×Value→H):
 ReturnsInHanded {} Tryz.checked os 6 .any (Rows.exploreAloneSpec.pre6 enc Tryz.prog Tryz.f6 Rows.exploreAloneRow.domain false) (Rows.exploreAloneSpec.post enc Tryz.prog Tryz.f6 false true false false):=by
 refine returnsInHanded_of_change_sized (C:=Tryz.checked) own started (by kernel_rfl) Tryz.func6
  (ChangeSpec.witness6 (enc:=enc) (C:=Tryz.checked) false ⟨#[],#[.agg #[.slice none 0 0, .slice none 0 0, .slice none 0 0], .int .i64 0],[]⟩ 8 (by kernel_rfl) (by kernel_rfl) (by kernel_rfl) (by kernel_rfl)) ?_
 intro W base args ds gs before hval hW _ hr _
 refine sG (ts:=[25,3]) (tb:=4) laidOut (by kernel_rfl) rfl Tryz.underlying4 (by kernel_rfl) (fun ds h=> ?_) (fun t ht=> ?_)
  (kq (ag:=true) (by kernel_rfl) wj (fun h=>by cases h) (kq (ag:=false) (by kernel_rfl) (dW Tryz.underlying3) (fun _ _ _=>rfl) sL))
  (fun a h=> ?_) hval hW hr
 ·match ds,h with
  |[d0,d1],_=>rfl
 ·have:∀t∈[25,3],Tryz.prog.readableRec t=true∧t<Tryz.prog.types.size:=by
   simp only[List.forall_mem_cons]
   refine⟨⟨by kernel_rfl,of_decide_eq_true (by kernel_rfl)⟩,⟨by kernel_rfl,of_decide_eq_true (by kernel_rfl)⟩,by simp⟩
  exact this t ht
 ·exact lp a.1 h.1 a.2.1 h.2.1
theorem exploreAlone_holds:Rows.ExploreAloneSaid:=
 OpenClaim.holds_of_wide 6 Tryz.f6 rfl rfl rfl rfl rfl rfl rfl ⟨rfl,rfl,rfl,rfl,rfl⟩ rfl rfl rfl rfl rfl (by kernel_rfl) Tryz.func6 (by kernel_rfl)
  (of_decide_eq_true (by kernel_rfl)) (by unfold Func.isWrapper;first|(rw[if_pos (by decide+kernel)];kernel_rfl)|(rw[if_neg (by decide+kernel)];exact⟨rfl,rfl⟩))
  (fun os started H enc _=>kZ os started H enc)
end Go.Proofs.YtekfmjjmihomlaaGreat
end
