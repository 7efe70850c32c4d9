import Derived.Test.YtjopoheligmmoaaGreatDoorM33
section
/- A step of the machine in rows. -/
namespace Go.Proofs.YtjopoheligmmoaaGreatDoor
open Go Go.cZ Go.Proofs
set_option linter.unusedSimpArgs false
set_option linter.unusedVariables false
set_option maxRecDepth 8000
def kN (k:Int):Nat:=if k=1 then 106 else if k=2 then 107 else if k=3 then 108 else if k=4 then 109 else if k=5 then 110 else if k=6 then 111 else if k=7 then 112 else 113
def re:AV:= .agg [.sc .nilFunc, .fn (.func 106) [] [], .fn (.func 107) [] [], .fn (.func 108) [] [], .fn (.func 109) [] [], .fn (.func 110) [] [], .fn (.func 111) [] [], .fn (.func 112) [] [], .fn (.func 113) [] [], .sc .nilFunc]
theorem vo:Pure Tryz.prog 70 [] (fun r=>r=re):=ko (by simp[re,cI,cX]) (by kernel_rfl)
def rb (m:MS) (t:Nat) (n:Node) (d:gX):gX:={ d with cQ:=(m.act t n).2.2.1,word:=(m.act t n).2.2.2.1,put:=(m.act t n).2.2.2.2 }
structure EL (m:MS) (t:Nat) (n:Node):Prop where
 kind:1≤n.kind∧n.kind≤8
 slot:n.kind=1∨n.kind=2∨n.kind=4→0≤n.slot∧n.slot<(m.cA.getD t []).length
 mem:n.kind=2∨n.kind=3∨n.kind=4→0≤n.cQ∧n.cQ<m.mem.length
 hold:n.kind=5∨n.kind=6→0≤n.cQ∧n.cQ<m.hold.length
 a:n.kind=1∨n.kind=3∨n.kind=4∨n.kind=7∨n.kind=8→nO m t n.a
 b:n.kind=1→eB n.op=true→nO m t n.b
 op:n.kind=1→0≤n.op∧n.op<19
theorem HT {v:l8} {g:Int} {m:MS} {t:Nat} (h:uE v true g=true) (hl:((m.cA.getD t []).length:Int)=g):nO m t v:=by
 intro hs
 unfold uE at h
 rw[if_pos rfl,if_pos hs] at h
 simp only[Bool.and_eq_true,decide_eq_true_eq] at h
 omega
theorem eN.X0 {u:bx} {m:MS} {t:Nat} (hu:u.Wf) (hr:cT u) (h:eN u m) (ht:t<u.bz.length) (hk:(m.node u t).kind≠9):EL m t (m.node u t):=by
 have hn:=h.node hr ht
 have hw:=HE hu h ht
 have hsl:=h.D4 t ht
 have hg:=(hr.gr ht).cA
 have hg2:=(hr.gr ht).locals
 have hml:=h.ml
 have hhl:=h.hl
 generalize m.node u t=n at *
 have hkd:=hn.kind
 have hlen:(((m.cA.getD t []).length:Nat):Int)=(u.gr t).cA:=by rw[hsl];omega
 refine⟨by omega,fun e=> ?_,fun e=> ?_,fun e=> ?_,fun e=> ?_,fun e e2=> ?_,fun e=> ?_⟩
 ·have:=hn.slot.1 (by unfold kr;exact decide_eq_true (by omega));omega
 ·have:=hn.cQ.1 (by unfold gA;exact decide_eq_true (by omega))
  rw[if_neg (by omega)] at this;omega
 ·have:=hn.cQ.1 (by unfold gA;exact decide_eq_true (by omega))
  rw[if_pos (by omega)] at this;omega
 ·have:=hn.a
  rw[show vU n.kind=true by unfold vU;exact decide_eq_true (by omega)] at this
  exact HT this hlen
 ·have:=hn.b
  rw[e2,decide_eq_true e] at this
  exact HT this hlen
 ·exact⟨hw.op.1,hn.op.1 e⟩
section
variable {u:bx} {m:MS} {t:Nat} {n:Node} {d:gX} {ab:Nat} {L:ML} {H:Hp} {nx:Nat}
theorem LP (h:uF u m t n d ab L H) (hlt:∀y∈ab::L.all,y<nx) (ht:t<m.cA.length) (hl:m.cA.length≤8) (ha:EL m t n) (hpl:m.cP.length≤1048576) (hd:d.cQ=0∧d.word=0∧d.put=0):
 cG Tryz.prog (kN n.kind) [.pt ab 1 0 0] H nx (fun r H' k=>r=i64 (m.act t n).2.1∧tf u (m.act t n).1 t n (rb m t n d) ab L H nx H' k):=by
 obtain⟨d1,d2,d3⟩:=hd
 have hk:n.kind=1∨n.kind=2∨n.kind=3∨n.kind=4∨n.kind=5∨n.kind=6∨n.kind=7∨n.kind=8:=by have:=ha.kind;omega
 obtain⟨t0,a0,k0,th,w0,p0⟩:=d
 dsimp only at d1 d2 d3
 subst d1 d2 d3
 have hop:=ha.op
 rcases hk with e|e|e|e|e|e|e|e
 ·have:=PX h hlt ht hl (ha.slot (by omega)) (ha.a (by omega)) (ha.b e) (hop e)
  simp only[kN,rb,MS.act,e];exact this
 ·have:=JZ h hlt ht hl (ha.slot (by omega)) (ha.mem (by omega))
  simp only[kN,rb,MS.act,e];exact this
 ·have:=ED h hlt ht hl (ha.a (by omega)) (ha.mem (by omega))
  simp only[kN,rb,MS.act,e];exact this
 ·have:=KY h hlt ht hl (ha.a (by omega)) (ha.slot (by omega)) (ha.mem (by omega))
  simp only[kN,rb,MS.act,e];exact this
 ·have:=J0 h hlt ht hl (ha.hold (by omega))
  simp only[kN,rb,MS.act,e];exact this
 ·have:=A8 h hlt ht hl (ha.hold (by omega))
  simp only[kN,rb,MS.act,e];exact this
 ·have:=DI h hlt ht hl (ha.a (by omega)) hpl
  simp only[kN,rb,MS.act,e];exact this
 ·have:=xe h hlt ht hl (ha.a (by omega))
  simp only[kN,rb,MS.act,e];exact this
end
abbrev oN (d:Nat) (o:dM):gI:=⟨some d,none,o⟩
def AG:List gI:=[oN 50 (.mv (.t 0)),oN 51 (.WN (.t 50)),oN 52 (.fa 3 (.t 51)),oN 53 (.ld false 1 (.t 52)),oN 54 (.mv (.t 1)),oN 55 (.call (.f 70) []),oN 56 (.mv (.t 8)),oN 57 (.WN (.t 56)),oN 58 (.fa 2 (.t 57)),oN 59 (.fa 0 (.t 58)),oN 60 (.ld false 1 (.t 59)),oN 61 (.ix 1 false 10 (.t 55) (.t 60)),oN 62 (.mv (.t 8)),oN 63 (.call (.t 61) [.t 62])]
def psS:List (Nat×Nat):=[(2,5),(3,5),(5,8),(5,9),(5,10),(2,13),(3,13)]
def BA (L:ML) (m:MS) (t:Nat) (n:Node) (ab:Nat) (i:Nat):AV:=
 [.pt L.mr 1 0 0, .pt L.mr 1 0 0, .pt L.mr 1 0 3, .sl L.a m.at_.length,i64 t,re, .pt ab 1 0 0, .pt ab 1 0 0, .pt ab 1 0 2, .pt ab 1 0 2,u8 n.kind, .fn (.func (kN n.kind)) [] [], .pt ab 1 0 0,i64 (m.act t n).2.1].getD i .any
structure XU (u:bx) (m:MS) (t:Nat) (n:Node) (d:gX) (ab:Nat) (L:ML) (H0:Hp) (lo:Nat) (D:Nat→Bool) (H:Hp) (nx:Nat):Prop where
 lw:lo≤nx
 same:∀y,y<lo→y≠ab→y∉L.all→bu H y=bu H0 y
 m0:D 13=false→uF u m t n d ab L H
 m1:D 13=true→uF u (m.act t n).1 t n (rb m t n d) ab L H
section
variable {u:bx} {m:MS} {t:Nat} {n:Node} {d:gX} {ab:Nat} {L:ML} {H0 H:Hp} {lo nx:Nat} {D:Nat→Bool}
theorem XU.look (h:XU u m t n d ab L H0 lo D H nx) {i:Nat} (hi:i≠13) {nx':Nat} (hn:nx≤nx'):XU u m t n d ab L H0 lo (fun k=>D k||k==i) H nx':=by
 have e:(13==i)=false:=by simpa using Ne.symm hi
 refine⟨Nat.le_trans h.lw hn,h.same, ?_, ?_⟩
 ·simp only[e,Bool.or_false];exact h.m0
 ·simp only[e,Bool.or_false];exact h.m1
theorem vl {u:bx} (m:MS) (t:Nat) (n:Node):(m.act t n).1.at_=m.at_:=by
 unfold MS.act
 repeat' split
 all_goals rfl
theorem H7 {k:Int} (h:1≤k∧k≤8):([.sc .nilFunc, .fn (.func 106) [] [], .fn (.func 107) [] [], .fn (.func 108) [] [], .fn (.func 109) [] [], .fn (.func 110) [] [], .fn (.func 111) [] [], .fn (.func 112) [] [], .fn (.func 113) [] [], .sc .nilFunc]:List AV).getD k.toNat .any= .fn (.func (kN k)) [] []:=by
 have:k=1∨k=2∨k=3∨k=4∨k=5∨k=6∨k=7∨k=8:=by omega
 rcases this with rfl|rfl|rfl|rfl|rfl|rfl|rfl|rfl<;>rfl
set_option maxHeartbeats 2000000 in
theorem ZE {fr0:Fr} (hlt:∀y∈ab::L.all,y<lo) (ht:t<m.cA.length) (hl:m.cA.length≤8) (ha:EL m t n) (hpl:m.cP.length≤1048576) (hd:d.cQ=0∧d.word=0∧d.put=0)
 (h0:cc fr0 0= .pt L.mr 1 0 0) (h1:cc fr0 1=i64 t) (h8:cc fr0 8= .pt ab 1 0 0):
 HZ Tryz.prog AG psS (fun D fr H nx=>∃θ:Unit,ZZ AG D (BA L m t n ab) fr0 fr∧XU u m t n d ab L H0 lo D H nx):=by
 refine HZ.of (Θ:=Unit) (fun _=>BA L m t n ab) (fun _=>XU u m t n d ab L H0 lo) fr0 (by decide) ?_
 intro i gg θ D fr H nx hi hD hp hs hv hh
 have hk:i<14:=by have:=(List.getElem?_eq_some_iff.1 hi).1;simpa[AG] using this
 have q:∀(j:Nat) (g':gI) (t':Nat),AG[j]?=some g'→g'.dst=some t'→j<i→B3 AG psS j i=true→cc fr t'=BA L m t n ab j:=fun j g' t' h1 h2 h3 h4=>hv.val j g' t' h1 (hp j h3 h4) h2
 have f0:cc fr 0= .pt L.mr 1 0 0:=(hv.gR 0 (by decide)).trans h0
 have f1:cc fr 1=i64 t:=(hv.gR 1 (by decide)).trans h1
 have f8:cc fr 8= .pt ab 1 0 0:=(hv.gR 8 (by decide)).trans h8
 have hlw:=hh.lw
 have row:∃d,(∃d2,bu H ab=some (.row 118 21 d2 [.agg (AC (.pt L.mr 1 0 0) t n d)])):=by
  cases h13:D 13 with
  |false=>exact⟨_,(hh.m0 h13).row⟩
  |true=>exact⟨_,(hh.m1 h13).row⟩
 have mrow:∃(m':MS),m'.at_.length=m.at_.length∧∃d2,bu H L.mr=some (.row 114 8 d2 [m'.rows u L.a L.s L.me L.ho L.pr]):=by
  cases h13:D 13 with
  |false=>exact⟨_,rfl,(hh.m0 h13).M.rM⟩
  |true=>exact⟨_,by rw[vl (u:=u)],(hh.m1 h13).M.rM⟩
 obtain⟨dx,d2,ra⟩:=row
 obtain⟨m',hm',d3,rm⟩:=mrow
 have cases:i=0∨i=1∨i=2∨i=3∨i=4∨i=5∨i=6∨i=7∨i=8∨i=9∨i=10∨i=11∨i=12∨i=13:=by omega
 rcases cases with rfl|rfl|rfl|rfl|rfl|rfl|rfl|rfl|rfl|rfl|rfl|rfl|rfl|rfl<;>(obtain rfl:_=gg:=by simpa[AG] using hi)
 ·exact dw.look (by simp) (r:= .pt L.mr 1 0 0) (by simp only[cC,ev];rw[f0]) ⟨θ,fun _ _=>rfl,rfl,hh.look (by decide) (Nat.le_succ _)⟩
 ·have p:=q 0 _ 50 rfl rfl (by decide) (by decide)
  exact dw.look (by simp) (r:= .pt L.mr 1 0 0) (by simp only[cC,ev];rw[p];rfl) ⟨θ,fun _ _=>rfl,rfl,hh.look (by decide) (Nat.le_succ _)⟩
 ·have p:=q 1 _ 51 rfl rfl (by decide) (by decide)
  exact dw.look (by simp) (r:= .pt L.mr 1 0 3) (by simp only[cC,ev];rw[p];simp[BA,rm]) ⟨θ,fun _ _=>rfl,rfl,hh.look (by decide) (Nat.le_succ _)⟩
 ·have p:=q 2 _ 52 rfl rfl (by decide) (by decide)
  exact dw.look (by simp) (r:= .sl L.a m.at_.length) (by simp only[cC,ev];rw[p];simp[BA,jf,rm,yZ,MS.rows,hm']) ⟨θ,fun _ _=>rfl,rfl,hh.look (by decide) (Nat.le_succ _)⟩
 ·exact dw.look (by simp) (r:=i64 t) (by simp only[cC,ev];rw[f1]) ⟨θ,fun _ _=>rfl,rfl,hh.look (by decide) (Nat.le_succ _)⟩
 ·show cG Tryz.prog 70 ([]++[]++[]) H nx _
  refine vo.cz (by simp[cX]) ?_
  rintro r rfl
  exact⟨θ,fun _ _=>rfl,rfl,hh.look (by decide) (Nat.le_refl _)⟩
 ·exact dw.look (by simp) (r:= .pt ab 1 0 0) (by simp only[cC,ev];rw[f8]) ⟨θ,fun _ _=>rfl,rfl,hh.look (by decide) (Nat.le_succ _)⟩
 ·have p:=q 6 _ 56 rfl rfl (by decide) (by decide)
  exact dw.look (by simp) (r:= .pt ab 1 0 0) (by simp only[cC,ev];rw[p];rfl) ⟨θ,fun _ _=>rfl,rfl,hh.look (by decide) (Nat.le_succ _)⟩
 ·have p:=q 7 _ 57 rfl rfl (by decide) (by decide)
  exact dw.look (by simp) (r:= .pt ab 1 0 2) (by simp only[cC,ev];rw[p];simp[BA,ra]) ⟨θ,fun _ _=>rfl,rfl,hh.look (by decide) (Nat.le_succ _)⟩
 ·have p:=q 8 _ 58 rfl rfl (by decide) (by decide)
  exact dw.look (by simp) (r:= .pt ab 1 0 2) (by simp only[cC,ev];rw[p];simp[BA,ra]) ⟨θ,fun _ _=>rfl,rfl,hh.look (by decide) (Nat.le_succ _)⟩
 ·have p:=q 9 _ 59 rfl rfl (by decide) (by decide)
  exact dw.look (by simp) (r:=u8 n.kind) (by simp only[cC,ev];rw[p];simp[BA,jf,ra,yZ,AC]) ⟨θ,fun _ _=>rfl,rfl,hh.look (by decide) (Nat.le_succ _)⟩
 ·have p:=q 5 _ 55 rfl rfl (by decide) (by decide)
  have p2:=q 10 _ 60 rfl rfl (by decide) (by decide)
  have hkk:=ha.kind
  refine dw.look (by simp) (r:= .fn (.func (kN n.kind)) [] []) ?_ ⟨θ,fun _ _=>rfl,rfl,hh.look (by decide) (Nat.le_succ _)⟩
  have p3:cc fr 55=re:=p
  have p4:cc fr 60=u8 n.kind:=p2
  have ht:=H7 hkk
  simp only[cC,ev,p3,p4,re,Nat.mul_one,Bool.false_eq_true,if_false,if_true,List.length_cons,List.length_nil]
  rw[if_pos ⟨by omega,(show n.kind<10 by omega),trivial⟩,ht]
 ·exact dw.look (by simp) (r:= .pt ab 1 0 0) (by simp only[cC,ev];rw[f8]) ⟨θ,fun _ _=>rfl,rfl,hh.look (by decide) (Nat.le_succ _)⟩
 ·have p:=q 11 _ 61 rfl rfl (by decide) (by decide)
  have p2:=q 12 _ 62 rfl rfl (by decide) (by decide)
  show q7 Tryz.prog (cc fr 61) [cc fr 62] H nx _
  rw[p,p2]
  show cG Tryz.prog (kN n.kind) ([]++[.pt ab 1 0 0]++[]) H nx _
  refine(LP (hh.m0 hD) (fun y hy=>Nat.lt_of_lt_of_le (hlt y hy) hlw) ht hl ha hpl hd).mono ?_
  rintro r' H' n' ⟨rfl,hA,hn,hk2⟩
  exact⟨θ,fun _ _=>rfl,rfl,Nat.le_trans hlw hn,fun y h1 h2 h3=>(hk2 y (Nat.lt_of_lt_of_le h1 hlw) h2 h3).trans (hh.same y h1 h2 h3),fun hx=>by simp at hx,fun _=>hA⟩
end
end Go.Proofs.YtjopoheligmmoaaGreatDoor
end
section
/- A step of the machine in rows: the walk. -/
namespace Go.Proofs.YtjopoheligmmoaaGreatDoor
open Go Go.cZ Go.Proofs
set_option linter.unusedSimpArgs false
set_option linter.unusedVariables false
set_option maxRecDepth 8000
section
variable {u:bx} {m:MS} {t:Nat} {n:Node} {d:gX} {L:ML} {H:Hp} {nx:Nat}
abbrev Z2:gX:=⟨0,0,0,0,0,0⟩
theorem B4 {fr0:Fr} {H0:Hp} {lo ab:Nat} {Q:QT} (hlt:∀y∈ab::L.all,y<lo) (ht:t<m.cA.length) (htl:t<m.at_.length) (hl:m.cA.length≤8) (ha:EL m t n) (hpl:m.cP.length≤1048576) (hd:d.cQ=0∧d.word=0∧d.put=0)
 (h0:cc fr0 0= .pt L.mr 1 0 0) (h1:cc fr0 1=i64 t) (h8:cc fr0 8= .pt ab 1 0 0) (hA:uF u m t n d ab L H0)
 (hK:∀f1 H1 n1,cc f1 8= .pt ab 1 0 0→cc f1 4=cc fr0 4→uF u { (m.act t n).1 with at_:=m.at_.set t (m.act t n).2.1 } t n (rb m t n d) ab L H1→lo≤n1→(∀y,y<lo→y≠ab→y∉L.all→bu H1 y=bu H0 y)→∃f',je f1 f'∧Go (Q .normal f' H1 n1)):
 iB Tryz.prog [⟨AG,psS⟩,⟨[oN 64 (.ia 1 none (.t 53) (.t 54))],[]⟩,⟨[⟨none,none, .st false 1 (.t 64) (.t 63)⟩],[]⟩] fr0 H0 lo Q:=by
 refine iB.ZD (ZE (u:=u) (d:=d) (H0:=H0) (lo:=lo) hlt ht hl ha hpl hd h0 h1 h8) ⟨(),⟨fun i g t' _ hL=>(by cases hL),fun t' _=>rfl⟩,⟨Nat.le_refl _,fun y _ _ _=>rfl,fun _=>hA,fun hx=>(by cases hx)⟩⟩ ?_
 intro D fr' H' n' hall ⟨_,hv,hh⟩
 have v:=fun(j:Nat) (g':gI) (t':Nat) (h1:AG[j]?=some g') (h2:g'.dst=some t') (h3:j<14)=>hv.val j g' t' h1 (hall j h3) h2
 have p53:cc fr' 53= .sl L.a m.at_.length:=v 3 _ 53 rfl rfl (by decide)
 have p54:cc fr' 54=i64 t:=v 4 _ 54 rfl rfl (by decide)
 have p63:cc fr' 63=i64 (m.act t n).2.1:=v 13 _ 63 rfl rfl (by decide)
 have p8:cc fr' 8= .pt ab 1 0 0:=(hv.gR 8 (by decide)).trans h8
 have p4:cc fr' 4=cc fr0 4:=hv.gR 4 (by decide)
 have hA2:=hh.m1 (hall 13 (by decide))
 have q1:(m.at_.map i64).length=m.at_.length:=by simp
 obtain⟨d3,r3⟩:=hA2.M.rA
 rw[vl (u:=u)] at r3
 have hlw:=hh.lw
 have hs:=hh.same
 have hout:=hA2.out
 have hsl2:(m.act t n).1.cA.length=m.cA.length:=by
  unfold MS.act
  repeat' split
  all_goals first|rfl|(simp only[MS.gn,List.length_set])
 have hmem:=hA2.M.mem
 show dw Tryz.prog n' fr' H' (.ia 1 none (.t 53) (.t 54)) (fun r H' nx'=>dw Tryz.prog nx' (fP fr' (some 64) r) H' (.st false 1 (.t 64) (.t 63)) (fun r2 H2 n2=>∃f',je (fP (fP fr' (some 64) r) none r2) f'∧Go (Q .normal f' H2 n2)))
 refine dw.look (op:= .ia 1 none (.t 53) (.t 54)) (r:= .pt L.a m.at_.length t 0) (fun f as2 h=>by cases h) ?_ ?_
 ·simp only[cC,ev]
  rw[p53,p54]
  simp only[LD,r3]
  rw[if_pos ⟨q1,trivial,by omega,by omega⟩]
  simp
 refine dw.act (op:= .st false 1 (.t 64) (.t 63)) (r:= .any) (u:=(L.a, .row 3 1 d3 ((m.at_.map i64).set t (i64 (m.act t n).2.1)))) (fun f as2 h=>by cases h) ?_ ?_
 ·have e1:ev (fP fr' (some 64) (.pt L.a m.at_.length t 0)) (.t 64)= .pt L.a m.at_.length t 0:=rfl
  have e2:ev (fP fr' (some 64) (.pt L.a m.at_.length t 0)) (.t 63)=i64 (m.act t n).2.1:=p63
  simp only[cC]
  rw[e1,e2]
  simp only[r3]
  rw[if_pos q1,show(m.at_.map i64).getD t d3=i64 (m.at_.getD t 0) from dQ i64 m.at_ t d3 htl]
  rfl
 refine hK _ _ _ p8 p4 ⟨?_, ?_,hout⟩ (by omega) (fun y y1 y2 y3=> ?_)
 ·have:=hA2.M.Z3 (H':=(L.a,some (.row 3 1 d3 ((m.at_.map i64).set t (i64 (m.act t n).2.1))))::H') (t:=t) (by rw[hsl2];exact ht) t (m.act t n).2.1 ⟨d3,by rw[vl (u:=u)];exact bw⟩ (fun y hy hne=>cD)
  rw[vl (u:=u)] at this
  exact this
 ·obtain⟨d4,r4⟩:=hA2.row
  have:=dR hout (hmem L.a (by simp))
  exact⟨d4,bw⟩
 ·have:=dR y3 (hmem L.a (by simp))
  exact Eq.trans cD (hs y y1 y2 y3)
theorem P9 (hM:L.At u m H) (t:Int) {H1:Hp} (h1:∀y∈L.all,bu H1 y=bu H y):[.pt L.mr 1 0 0,i64 t].map (cZ.dV H1 6)=[m.fz u,i64 t]:=by
 rw[List.map_cons,List.map_cons,List.map_nil,(hM.cU h1).IX 2,du _ (show cI 0 (i64 t) by simp[cI])]
theorem P0 (hr:cT u) (h:eN u m) (hM:L.At u m H) (hlt:∀y∈L.all,y<nx) (t:Int) (hb:m.kx u t≠0):
 cG Tryz.prog 31 [.pt L.mr 1 0 0,i64 t] H nx (fun r H' k=>r= .dK [Z2.av,i64 (m.kx u t)]∧nx≤k∧∀y,y<nx→bu H' y=bu H y):=by
 refine aM JP rfl ?_
 have r0:=decide_eq_true hb
 refine cV ?_
 refine aT (vu u hr m h t) (P9 hM t ?_) (by simp[cX,cI,nr]) trivial ?_
 ·exact fun y hy=>by have:=hlt y hy;exact cD
 refine cV ?_
 exact⟨⟨rfl,ca,fun y hy=>cD⟩⟩
set_option maxHeartbeats 4000000 in
theorem vS (hu:u.Wf) (hr:cT u) (h:eN u m) (hM:L.At u m H) (hlt:∀y∈L.all,y<nx) (hpl:m.cP.length≤1048576) (ht:t<u.bz.length) (hb:m.kx u t=0):
 cG Tryz.prog 31 [.pt L.mr 1 0 0,i64 t] H nx (fun r H' k=>r= .dK [(m.step u t).2.av,i64 0]∧L.At u (m.step u t).1 H'∧nx≤k∧∀y,y<nx→y∉L.all→bu H' y=bu H y):=by
 refine aM JP rfl ?_
 obtain⟨hk9,_⟩:=kO h ht hb
 have hgl:=hr.pz
 have hao:=h.X0 hu hr ht hk9
 have hsl:m.cA.length≤8:=by rw[h.sl];omega
 have hts:t<m.cA.length:=by rw[h.sl];exact ht
 have hal:=h.pk
 obtain⟨p0,p1⟩:=h.gb t ht
 have hap:=apart hM hts
 have hmem:=hM.mem
 have km:=hlt L.mr (by simp)
 have ka:=hlt L.a (hmem _ (by simp))
 have hma:L.mr≠L.a:=hap.ne.1
 obtain⟨d1,r1⟩:=hM.rM
 obtain⟨d2,r2⟩:=hM.rA
 have e0:=fun d=>ints_at (l:=m.at_) (k:=t) (by omega) d
 have e1:=fun d=>s9 (l:=u.bz) ht d
 obtain⟨j,hj⟩:∃j:Nat,m.at_.getD t 0=j:=⟨(m.at_.getD t 0).toNat,by omega⟩
 rw[hj] at e0 p1
 have hnd:m.node u t=(u.gr t).nd j:=by unfold MS.node;rw[hj,Int.toNat_natCast]
 rw[show u.bz.getD t default=u.gr t from rfl] at e1
 have e2:=fun d=>jj (l:=(u.gr t).nodes) (i:=j) (by omega) d
 rw[show(u.gr t).nodes.getD j default=m.node u t by rw[hnd]] at e2
 have hat:m.at_.getD t 0=(j:Int):=hj
 have q1:(m.at_.map i64).length=m.at_.length:=by simp
 have q2:(u.bz.map cF.av).length=u.bz.length:=by simp
 have q3:((u.gr t).nodes.map Node.av).length=(u.gr t).nodes.length:=by simp
 have hst:m.step u t=({ (m.act t (m.node u t)).1 with at_:=m.at_.set t (m.act t (m.node u t)).2.1 },⟨t,j,(m.node u t).kind,(m.act t (m.node u t)).2.2.1,(m.act t (m.node u t)).2.2.2.1,(m.act t (m.node u t)).2.2.2.2⟩):=by
  unfold MS.step;rw[hj]
 rw[hst]
 generalize m.node u t=n at *
 have c9:(0:Int)=0:=rfl
 refine XZ ?_
 refine aT (vu u hr m h t) (P9 hM t ?_) (by simp[cX,cI,nr]) trivial ?_
 ·exact fun y hy=>by have:=hlt y hy;exact cD
 rw[hb]
 refine XZ ?_
 refine B4 (u:=u) (m:=m) (t:=t) (n:=n) (d:=⟨t,j,n.kind,0,0,0⟩) (ab:=nx+30) (L:=L) ?_ hts (by omega) hsl hao hpl ⟨rfl,rfl,rfl⟩ rfl rfl rfl ⟨hM.cU ?_,⟨_,bw⟩, ?_⟩ ?_
 ·intro y hy
  rcases List.mem_cons.1 hy with rfl|hy
  ·exact ca
  ·have:=hlt y hy;exact ca
 ·intro y hy
  have:=hlt y hy;exact cD
 ·intro hy
  have:=hlt _ hy;omega
 intro f1 H1 n1 p8 p4 hA hn hs
 refine⟨[(8, .pt (nx+30) 1 0 0),(4, .pt nx 1 0 0)],⟨p8,p4,trivial⟩, ?_⟩
 obtain⟨d5,r5⟩:=hA.row
 have r6:bu H1 nx=some (.row 53 6 (gM true [.int .i64 0, .int .i64 0, .int .u8 0, .int .i64 0, .int .i64 0, .int .i64 0]) [gM true [.int .i64 0, .int .i64 0, .int .u8 0, .int .i64 0, .int .i64 0, .int .i64 0]]):=(hs nx ca (by omega) (fun hy=>by have:=hlt _ hy;omega)).trans bw
 refine cV ?_
 refine⟨⟨rfl,hA.M.cU fun y hy=> ?_,ca,fun y y1 y2=> ?_⟩⟩
 ·have:=hlt y hy;exact cD
 ·exact Eq.trans cD ((hs y ca (by omega) y2).trans cD)
end
end Go.Proofs.YtjopoheligmmoaaGreatDoor
end
section
/- A new machine. -/
namespace Go.Proofs.YtjopoheligmmoaaGreatDoor
open Go Go.cZ Go.Proofs
set_option linter.unusedSimpArgs false
set_option linter.unusedVariables false
set_option maxRecDepth 8000
theorem BT {es:List AV} (hf:cX 0 es) (hl:es.length * 32≤140737488355328):cG Tryz.prog 84 [.im 3 .any es] [] 0 (fun r H _=>cZ.dV H 6 r= .sc (.slice none 0 0)∧es=[]∨cZ.dV H 6 r= .im 3 .any es):=by
 refine aM OT rfl ?_
 cases es with
 |nil=>
  refine cV ?_
  refine⟨tU ?_,tU ?_⟩
  ·refine cV ?_
   exact⟨.inl ⟨rfl,rfl⟩⟩
  ·refine cV ?_
   exact⟨.inr rfl⟩
 |cons x t=>
  have a0:(x::t).length * 32≤iZ:=hl
  simp only[List.length_cons] at hl
  refine cV ?_
  refine⟨.inr ((dc (e:=85) (sz:=3) (es:=x::t) bw (Nat.zero_add _).symm).trans ?_)⟩
  rw[cy _ hf]
theorem BU {es:List AV} (hf:cX 0 es) (hl:es.length * 96≤140737488355328):cG Tryz.prog 85 [.im 13 .any es] [] 0 (fun r H _=>cZ.dV H 6 r= .sc (.slice none 0 0)∧es=[]∨cZ.dV H 6 r= .im 13 .any es):=by
 refine aM OU rfl ?_
 cases es with
 |nil=>
  refine cV ?_
  refine⟨tU ?_,tU ?_⟩
  ·refine cV ?_
   exact⟨.inl ⟨rfl,rfl⟩⟩
  ·refine cV ?_
   exact⟨.inr rfl⟩
 |cons x t=>
  have a0:(x::t).length * 96≤iZ:=hl
  simp only[List.length_cons] at hl
  refine cV ?_
  refine⟨.inr ((dc (e:=65) (sz:=13) (es:=x::t) bw (Nat.zero_add _).symm).trans ?_)⟩
  rw[cy _ hf]
theorem oY (l:List Decl) (hl:l.length * 32≤140737488355328):Pure Tryz.prog 84 [ct l] (fun r=>r=ct l):=
 nF (by simp[cI,cB]) (BT ((cB _ _).2 fun _ _=>by simp[cI]) (by rw[List.length_map];exact hl))
theorem wA (l:List Node) (hl:l.length * 96≤140737488355328):Pure Tryz.prog 85 [iz l] (fun r=>r=iz l):=
 nF (by simp[cI,cB]) (BU ((cB _ _).2 fun _ _=>by simp[cI]) (by rw[List.length_map];exact hl))
theorem HC (u:bx) (hu:u.Wf) (hr:¬cT u):Pure Tryz.prog 48 [u.av] (fun r=>r= .dK [.sc (.pointer none),i64 60]):=by
 have c0:=jN u hu
 have hb:=nc hr
 generalize iW u=ck at *
 obtain⟨x,y,z⟩:=ck
 dsimp only at hb
 subst hb
 refine aJ JQ rfl ?_
 refine cV ?_
 first|exact rfl|trivial
theorem MV {α:Type} (a b:α) (n i:Nat) (h:i<n):(List.replicate i a++List.replicate (n - i) b).set i a=List.replicate (i+1) a++List.replicate (n - (i+1)) b:=by
 rw[show n - i=(n - (i+1))+1 by omega,List.replicate_succ,List.set_append_right _ _ (by simp),List.length_replicate,Nat.sub_self,List.set_cons_zero,List.replicate_succ',List.append_assoc]
 rfl
theorem YH (u:bx) (G A S ME HO PR:Nat) (d:AV) (n1 n2 n3 n4 n5:Nat) (h1:A≠G) (h2:S≠G) (h3:ME≠G) (h4:HO≠G) (h5:PR≠G):
 ([.agg [ct u.shared,ct u.cE, .sl G u.bz.length, .sl A n1, .sl S n2, .sl ME n3, .sl HO n4, .sl PR n5]]:List AV).map (Go.cZ.tq [(G,some (.row 60 4 d (u.bz.map cF.av)))] 2)=[.agg [ct u.shared,ct u.cE,di u.bz, .sl A n1, .sl S n2, .sl ME n3, .sl HO n4, .sl PR n5]]:=by
 simp[Go.cZ.tq,RT,bu,h1,h2,h3,h4,h5,se]
set_option maxHeartbeats 4000000 in
theorem pF (u:bx) (hu:u.Wf) (hr:cT u) (H0:Hp) (nx:Nat):cG Tryz.prog 48 [u.av] H0 nx (fun r H n=>∃L:ML,r= .dK [.pt L.mr 1 0 0,i64 0]∧L.At u (dY u) H∧(∀x∈L.all,nx≤x∧x<n)∧nx≤n∧∀y,y<nx→bu H y=bu H0 y):=by
 have c0:=jN u hu
 rw[kQ.2 hr] at c0
 have hgl:=hr.pz
 have hw1:=hu.vO
 have hw2:=hu.zm
 have c1:=oY u.shared (by omega)
 have c2:=oY u.cE (by omega)
 refine aM JQ rfl ?_
 refine cV ?_
 simp only[List.length_map,Int.toNat_natCast]
 have hsz:∀t,t<u.bz.length→0≤(u.gr t).cA∧(u.gr t).cA≤4160:=fun t ht=>by
  have h1:=(hr.gr ht).cA
  have h2:=(hr.gr ht).locals
  omega
 have hnl:∀t,t<u.bz.length→(u.gr t).nodes.length * 96≤140737488355328:=fun t ht=>by
  have:=(hr.gr ht).len
  omega
 have hat0:(dY u).at_.map i64=List.replicate u.bz.length (i64 0):=by
  simp only[dY,List.map_map]
  rw[List.eq_replicate_iff]
  exact⟨by simp,fun b hb=>by obtain⟨g,_,rfl⟩:=List.mem_map.1 hb;rfl⟩
 have hnsl:(dY u).cA.length=u.bz.length:=by simp[dY]
 have hns:∀t,t<u.bz.length→(dY u).cA.getD t []=List.replicate (u.gr t).cA.toNat 0:=fun t ht=>by simp[dY,List.getD,bx.gr,ht]
 refine aV (fun σ:Nat×List Nat=>[(1, .pt nx 1 0 0),(7, .pt (nx+22) 1 0 0),(47,di u.bz),(48,i64 u.bz.length),(49,i64 σ.1)])
  (fun σ H n=>σ.1≤u.bz.length∧nx+46≤n∧σ.2.length=σ.1∧σ.2.Nodup∧(∀x∈σ.2,nx+46≤x∧x<n)∧(∃d,bu H nx=some (.row 25 3 d [u.av]))∧(∃d,bu H (nx+22)=some (.row 114 8 d [.agg [ct u.shared,ct u.cE, .sl (nx+42) σ.1, .sl (nx+16) u.bz.length, .sl (nx+43) σ.1, .sl (nx+44) 0, .sl (nx+20) u.cE.length, .sl (nx+45) 0]]))∧(∃d,bu H (nx+16)=some (.row 3 1 d ((dY u).at_.map i64)))∧(∃d,bu H (nx+20)=some (.row 3 1 d (List.replicate u.cE.length (i64 0))))∧(∃d,bu H (nx+42)=some (.row 60 4 d ((u.bz.take σ.1).map cF.av)))∧(∃d,bu H (nx+43)=some (.row 93 1 d (eT σ.2 ((dY u).cA.take σ.1))))∧(∃d,bu H (nx+44)=some (.row 2 1 d []))∧(∃d,bu H (nx+45)=some (.row 155 2 d []))∧(∀t,t<σ.1→∃d,bu H (σ.2.getD t 0)=some (.row 2 1 d (((dY u).cA.getD t []).map i64)))∧∀y,y<nx→bu H y=bu H0 y) (fun σ=>u.bz.length - σ.1) (0,[])
  ⟨_,_,_,Rt.trans (Rt.wk (Wk.pH (b:=nx+22) (nx:=nx+42) (e:=60) (sz:=4) ca (by omega) (te:=114) (tz:=8) (cs:=[ct u.shared,ct u.cE, .sc (.slice none 0 0), .sl (nx+16) u.bz.length, .sc (.slice none 0 0), .sc (.slice none 0 0), .sl (nx+20) u.cE.length, .sc (.slice none 0 0)]) (j:=2) bw (by show 2<8;omega) rfl)) (Rt.trans (Rt.wk (Wk.pH (b:=nx+22) (nx:=nx+43) (e:=93) (sz:=1) ca (by omega) (te:=114) (tz:=8) (cs:=[ct u.shared,ct u.cE, .sl (nx+42) 0, .sl (nx+16) u.bz.length, .sc (.slice none 0 0), .sc (.slice none 0 0), .sl (nx+20) u.cE.length, .sc (.slice none 0 0)]) (j:=4) bw (by show 4<8;omega) rfl)) (Rt.trans (Rt.wk (Wk.pH (b:=nx+22) (nx:=nx+44) (e:=2) (sz:=1) ca (by omega) (te:=114) (tz:=8) (cs:=[ct u.shared,ct u.cE, .sl (nx+42) 0, .sl (nx+16) u.bz.length, .sl (nx+43) 0, .sc (.slice none 0 0), .sl (nx+20) u.cE.length, .sc (.slice none 0 0)]) (j:=5) bw (by show 5<8;omega) rfl)) (Rt.wk (Wk.pH (b:=nx+22) (nx:=nx+45) (e:=155) (sz:=2) ca (by omega) (te:=114) (tz:=8) (cs:=[ct u.shared,ct u.cE, .sl (nx+42) 0, .sl (nx+16) u.bz.length, .sl (nx+43) 0, .sl (nx+44) 0, .sl (nx+20) u.cE.length, .sc (.slice none 0 0)]) (j:=7) bw (by show 7<8;omega) rfl)))),
   cK,Nat.zero_le _,ca,rfl,List.nodup_nil,fun x hx=>by simp at hx,⟨_,bw⟩,⟨_,bw⟩,⟨_,by rw[hat0];exact bw⟩,⟨_,bw⟩,⟨_,bw⟩,⟨_,bw⟩,⟨_,bw⟩,⟨_,bw⟩,fun t ht=>absurd ht (Nat.not_lt_zero _),fun y hy=>cD⟩ ?_
 rintro⟨t,ids⟩ H n ⟨ht,hn,hil,hnd,hin,⟨d0,r0'⟩,⟨d1,r1'⟩,⟨d2,r2'⟩,⟨d3,r3'⟩,⟨d4,r4⟩,⟨d5,r5⟩,⟨d6,r6⟩,⟨d7,r7⟩,hls,hkp⟩
 dsimp only at ht hil hnd hin r0' r1' r4 r5 hls ⊢
 have hgk:((u.bz.take t).map cF.av).length=t:=by simp;omega
 have htk:((dY u).cA.take t).length=t:=by rw[List.length_take];omega
 have hrl:(eT ids ((dY u).cA.take t)).length=t:=by unfold eT;rw[List.length_map,List.length_zip,htk,hil];omega
 by_cases htl:t<u.bz.length
 ·have e0:=fun d=>s9 (l:=u.bz) htl d
  rw[show u.bz.getD t default=u.gr t from rfl] at e0
  have a0:(u.bz.map cF.av).length=u.bz.length:=by simp
  have c3:=wA (u.gr t).nodes (hnl t htl)
  obtain⟨s1,s2⟩:=hsz t htl
  have hnx1:(u.bz.take (t+1)).map cF.av=(u.bz.take t).map cF.av++[(u.gr t).av]:=by
   rw[List.take_succ_eq_append_getElem htl,List.map_append,show u.gr t=u.bz[t] by simp[bx.gr,List.getD,htl]];rfl
  have hnx2:eT (ids++[n+29]) ((dY u).cA.take (t+1))=eT ids ((dY u).cA.take t)++[.sl (n+29) (u.gr t).cA.toNat]:=by
   have e:=hns t htl
   rw[List.take_succ_eq_append_getElem (by omega),vP (by rw[hil,htk]),show(dY u).cA[t]'(by omega)=List.replicate (u.gr t).cA.toNat 0 by rw[←e];simp[List.getD,show t<(dY u).cA.length by omega]]
   simp
  have hnx3:((dY u).cA.getD t []).map i64=List.replicate (u.gr t).cA.toNat (i64 0):=by rw[hns t htl];simp
  refine cV ?_
  refine⟨(t+1,ids++[n+29]),by dsimp only;omega,_,_,_,Rt.refl _ _ _,cK,by dsimp only;omega,ca,by simp[hil], ?_, ?_,⟨_,bw⟩,⟨_,bw⟩,⟨_,bw⟩,⟨_,bw⟩,⟨_,by dsimp only;rw[hnx1];exact bw⟩,⟨_,by dsimp only;rw[hnx2];exact bw⟩,⟨_,bw⟩,⟨_,bw⟩, ?_,fun y hy=>Eq.trans cD (hkp y hy)⟩
  ·refine List.nodup_append.2 ⟨hnd,by simp,fun a ha b hb=> ?_⟩
   simp only[List.mem_cons,List.not_mem_nil,or_false] at hb
   have:=hin _ ha;omega
  ·intro x hx
   rcases List.mem_append.1 hx with hx|hx
   ·have:=hin _ hx;exact⟨this.1,Nat.lt_of_lt_of_le this.2 ca⟩
   ·simp only[List.mem_cons,List.not_mem_nil,or_false] at hx
    subst hx;exact⟨by omega,ca⟩
  ·intro q hq
   have hq:q<t+1:=hq
   by_cases e:q=t
   ·subst e
    have e2:(ids++[n+29]).getD q 0=n+29:=by rw[List.getD,List.getElem?_append_right (by omega),hil,Nat.sub_self];rfl
    dsimp only
    rw[e2,hnx3];exact⟨_,bw⟩
   ·obtain⟨d,hd⟩:=hls q (by omega)
    have e2:(ids++[n+29]).getD q 0=ids.getD q 0:=by simp[List.getD,List.getElem?_append,show q<ids.length by omega]
    have:=hin _ (fJ (l:=ids) (q:=q) (by omega))
    dsimp only
    rw[e2];exact⟨d,Eq.trans cD hd⟩
 ·have:t=u.bz.length:=by omega
  subst this
  rw[List.take_length] at r4
  rw[List.take_of_length_le (by omega)] at r5
  refine cV ?_
  rw[List.length_map]
  have hM:=Wk.tq (nx:=n+1+1+1+1+1) (H:=H) (cb:=nx+22) [(nx+42,some (.row 60 4 d4 (u.bz.map cF.av)))] 2 .any r1' (fun x q hx=>by
   by_cases hb:x=nx+42
   ·subst hb;rw[cq] at hx;rw[←hx];exact r4
   ·rw[c8 hb] at hx;cases hx)
  rw[YH u _ _ _ _ _ _ _ _ _ _ _ _ (by omega) (by omega) (by omega) (by omega) (by omega)] at hM
  refine aV (fun j:Nat=>[(7, .pt (nx+22) 1 0 0),(83,ct u.shared),(84,i64 u.shared.length),(85,i64 j)])
   (fun j H n=>j≤u.shared.length∧nx+46≤n∧(∀x∈ids,nx+46≤x∧x<n)∧(∃d,bu H (nx+22)=some (.row 114 8 d [.agg [ct u.shared,ct u.cE,di u.bz, .sl (nx+16) u.bz.length, .sl (nx+43) u.bz.length, .sl (nx+44) j, .sl (nx+20) u.cE.length, .sl (nx+45) 0]]))∧(∃d,bu H (nx+16)=some (.row 3 1 d ((dY u).at_.map i64)))∧(∃d,bu H (nx+20)=some (.row 3 1 d (List.replicate u.cE.length (i64 0))))∧(∃d,bu H (nx+43)=some (.row 93 1 d (eT ids (dY u).cA)))∧(∃d,bu H (nx+44)=some (.row 2 1 d (((dY u).mem.take j).map i64)))∧(∃d,bu H (nx+45)=some (.row 155 2 d []))∧(∀t,t<u.bz.length→∃d,bu H (ids.getD t 0)=some (.row 2 1 d (((dY u).cA.getD t []).map i64)))∧∀y,y<nx→bu H y=bu H0 y) (fun j=>u.shared.length - j) 0
   ⟨_,_,_,Rt.wk hM,cK,Nat.zero_le _,ca, ?_,⟨_,bw⟩,⟨_,bw⟩,⟨_,bw⟩,⟨_,bw⟩,⟨_,bw⟩,⟨_,bw⟩, ?_,fun y hy=>Eq.trans cD (hkp y hy)⟩ ?_
  ·exact fun x hx=>⟨(hin x hx).1,by have:=(hin x hx).2;exact ca⟩
  ·intro q hq
   obtain⟨d,hd⟩:=hls q hq
   have:=hin _ (fJ (l:=ids) (q:=q) (by omega))
   exact⟨d,Eq.trans cD hd⟩
  clear r0' r1' r2' r3' r4 r5 r6 r7 hls hkp hM hin hn
  rintro j H n ⟨hj,hn,hin,⟨d1,r1'⟩,⟨d2,r2'⟩,⟨d3,r3'⟩,⟨d5,r5⟩,⟨d6,r6⟩,⟨d7,r7⟩,hls,hkp⟩
  have hml:(dY u).mem.length=u.shared.length:=by simp[dY]
  have hmk:(((dY u).mem.take j).map i64).length=j:=by simp;omega
  by_cases hjl:j<u.shared.length
  ·have e0:∀d,(u.shared.map Decl.av).getD ((j:Int)).toNat d=(u.shared.getD j default).av:=fun d=>by rw[Int.toNat_natCast];exact dQ Decl.av u.shared j d hjl
   have a0:(u.shared.map Decl.av).length=u.shared.length:=by simp
   have hnx1:((dY u).mem.take (j+1)).map i64=((dY u).mem.take j).map i64++[i64 (u.shared.getD j default).word]:=by
    rw[List.take_succ_eq_append_getElem (by omega),List.map_append]
    simp[dY,List.getD,hjl]
   refine cV ?_
   refine⟨j+1,by omega,_,_,_,Rt.refl _ _ _,cK,by omega,ca,fun x hx=>⟨(hin x hx).1,Nat.lt_of_lt_of_le (hin x hx).2 ca⟩,⟨_,bw⟩,⟨_,bw⟩,⟨_,bw⟩,⟨_,bw⟩,⟨_,by rw[hnx1];exact bw⟩,⟨_,bw⟩, ?_,fun y hy=>Eq.trans cD (hkp y hy)⟩
   intro q hq
   obtain⟨d,hd⟩:=hls q hq
   have:=hin _ (fJ (l:=ids) (q:=q) (by omega))
   exact⟨d,Eq.trans cD hd⟩
  ·have:j=u.shared.length:=by omega
   subst this
   rw[List.take_of_length_le (by omega)] at r6
   refine cV ?_
   refine aN (fun i:Nat=>[(7, .pt (nx+22) 1 0 0),(105,i64 u.cE.length),(106,i64 i)])
    (fun i H n=>i≤u.cE.length∧nx+46≤n∧(∀x∈ids,nx+46≤x∧x<n)∧(∃d,bu H (nx+22)=some (.row 114 8 d [.agg [ct u.shared,ct u.cE,di u.bz, .sl (nx+16) u.bz.length, .sl (nx+43) u.bz.length, .sl (nx+44) u.shared.length, .sl (nx+20) u.cE.length, .sl (nx+45) 0]]))∧(∃d,bu H (nx+16)=some (.row 3 1 d ((dY u).at_.map i64)))∧(∃d,bu H (nx+20)=some (.row 3 1 d (List.replicate i (i64 (-1))++List.replicate (u.cE.length - i) (i64 0))))∧(∃d,bu H (nx+43)=some (.row 93 1 d (eT ids (dY u).cA)))∧(∃d,bu H (nx+44)=some (.row 2 1 d ((dY u).mem.map i64)))∧(∃d,bu H (nx+45)=some (.row 155 2 d []))∧(∀t,t<u.bz.length→∃d,bu H (ids.getD t 0)=some (.row 2 1 d (((dY u).cA.getD t []).map i64)))∧∀y,y<nx→bu H y=bu H0 y) (fun i=>u.cE.length - i) 0 cK
    ⟨Nat.zero_le _,ca,fun x hx=>⟨(hin x hx).1,Nat.lt_of_lt_of_le (hin x hx).2 ca⟩,⟨_,bw⟩,⟨_,bw⟩,⟨_,bw⟩,⟨_,bw⟩,⟨_,bw⟩,⟨_,bw⟩, ?_,fun y hy=>Eq.trans cD (hkp y hy)⟩ ?_
   ·intro q hq
    obtain⟨d,hd⟩:=hls q hq
    have:=hin _ (fJ (l:=ids) (q:=q) (by omega))
    exact⟨d,Eq.trans cD hd⟩
   clear r1' r2' r3' r5 r6 r7 hls hkp hin hn
   rintro i H n ⟨hi,hn,hin,⟨d1,r1'⟩,⟨d2,r2'⟩,⟨d3,r3'⟩,⟨d5,r5⟩,⟨d6,r6⟩,⟨d7,r7⟩,hls,hkp⟩
   have hrl2:(List.replicate i (i64 (-1))++List.replicate (u.cE.length - i) (i64 0)).length=u.cE.length:=by simp;omega
   by_cases hil2:i<u.cE.length
   ·have e1:∀d,(List.replicate i (i64 (-1))++List.replicate (u.cE.length - i) (i64 0)).getD ((i:Int)).toNat d=i64 0:=fun d=>by
     rw[Int.toNat_natCast]
     simp[List.getD,List.getElem?_append,List.getElem?_replicate,show 0<u.cE.length - i by omega]
    refine cV ?_
    refine⟨i+1,by omega,cK,by omega,ca,fun x hx=>⟨(hin x hx).1,Nat.lt_of_lt_of_le (hin x hx).2 ca⟩,⟨_,bw⟩,⟨_,bw⟩,⟨_,by rw[←MV _ _ _ _ hil2];exact bw⟩,⟨_,bw⟩,⟨_,bw⟩,⟨_,bw⟩, ?_,fun y hy=>Eq.trans cD (hkp y hy)⟩
    intro q hq
    obtain⟨d,hd⟩:=hls q hq
    have:=hin _ (fJ (l:=ids) (q:=q) (by omega))
    exact⟨d,Eq.trans cD hd⟩
   ·have:i=u.cE.length:=by omega
    subst this
    rw[Nat.sub_self,List.replicate_zero,List.append_nil] at r3'
    have hho:(dY u).hold.map i64=List.replicate u.cE.length (i64 (-1)):=by
     simp only[dY,List.map_map]
     rw[List.eq_replicate_iff]
     exact⟨by simp,fun b hb=>by obtain⟨g,_,rfl⟩:=List.mem_map.1 hb;rfl⟩
    refine cV ?_
    refine⟨⟨⟨nx+22,nx+16,nx+43,nx+44,nx+20,nx+45,ids⟩,rfl,⟨⟨d1, ?_⟩,⟨_,bw⟩,⟨_,bw⟩,fun t ht=> ?_,⟨_,bw⟩,⟨_,by rw[hho];exact bw⟩,⟨_,bw⟩,by rw[hnsl];exact hil, ?_⟩, ?_,ca,fun y hy=>Eq.trans cD (hkp y hy)⟩⟩
    ·rw[show(dY u).rows u (nx+16) (nx+43) (nx+44) (nx+20) (nx+45)= .agg [ct u.shared,ct u.cE,di u.bz, .sl (nx+16) u.bz.length, .sl (nx+43) u.bz.length, .sl (nx+44) u.shared.length, .sl (nx+20) u.cE.length, .sl (nx+45) 0] by simp[MS.rows,dY]]
     exact bw
    ·rw[hnsl] at ht
     obtain⟨d,hd⟩:=hls t ht
     have:=hin _ (fJ (l:=ids) (q:=t) (by omega))
     exact⟨d,Eq.trans cD hd⟩
    ·have hno:∀k,k<nx+46→k∉ids:=fun k hk h=>by have:=hin _ h;omega
     simp only[List.nodup_cons,List.mem_cons,not_or]
     exact⟨⟨by omega,by omega,by omega,by omega,by omega,hno _ (by omega)⟩,⟨by omega,by omega,by omega,by omega,hno _ (by omega)⟩,⟨by omega,by omega,by omega,hno _ (by omega)⟩,⟨by omega,by omega,hno _ (by omega)⟩,⟨by omega,hno _ (by omega)⟩,hno _ (by omega),hnd⟩
    ·intro x hx
     simp only[List.mem_cons] at hx
     rcases hx with rfl|rfl|rfl|rfl|rfl|rfl|hx
     all_goals first
      |exact⟨by omega,ca⟩
      |(have:=hin _ hx;exact⟨by omega,ca⟩)
end Go.Proofs.YtjopoheligmmoaaGreatDoor
end
