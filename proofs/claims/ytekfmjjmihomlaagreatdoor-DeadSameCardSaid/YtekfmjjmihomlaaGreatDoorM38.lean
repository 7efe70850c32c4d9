import Derived.Test.YtekfmjjmihomlaaGreatDoorM37
namespace Go.Proofs.YtekfmjjmihomlaaGreatDoor
open Go Go.cw Go.Proofs
set_option linter.unusedSimpArgs false
set_option linter.unusedVariables false
set_option maxRecDepth 8000
section
def ku (k:Int):Nat:=if k=1 then 106 else if k=2 then 107 else if k=3 then 108 else if k=4 then 109 else if k=5 then 110 else if k=6 then 111 else if k=7 then 112 else 113
def tA:AV:= .agg [.sc .nilFunc, .fn (.func 106) [] [], .fn (.func 107) [] [], .fn (.func 108) [] [], .fn (.func 109) [] [], .fn (.func 110) [] [], .fn (.func 111) [] [], .fn (.func 112) [] [], .fn (.func 113) [] [], .sc .nilFunc]
theorem xM:Pure Tryz.prog 70 [] (fun r=>r=tA):=by
 refine dO ?_ (by simp[tA,cF,cT])
 refine aJ OP rfl ?_
 refine cz ?_
 exact⟨rfl⟩
def sy (m:MS) (t:Nat) (n:Node) (d:iU):iU:={ d with cB:=(m.act t n).2.2.1,word:=(m.act t n).2.2.2.1,put:=(m.act t n).2.2.2.2 }
structure FP (m:MS) (t:Nat) (n:Node):Prop where
 kind:1<=n.kind/\n.kind<=8
 slot:n.kind=1\/n.kind=2\/n.kind=4->0<=n.slot/\n.slot<(m.bw.getD t []).length
 mem:n.kind=2\/n.kind=3\/n.kind=4->0<=n.cB/\n.cB<m.mem.length
 hold:n.kind=5\/n.kind=6->0<=n.cB/\n.cB<m.hold.length
 a:n.kind=1\/n.kind=3\/n.kind=4\/n.kind=7\/n.kind=8->oG m t n.a
 b:n.kind=1->dY n.op=true->oG m t n.b
 op:n.kind=1->0<=n.op/\n.op<19
theorem HD {v:kq} {g:Int} {m:MS} {t:Nat} (h:sU v true g=true) (hl:((m.bw.getD t []).length:Int)=g):oG m t v:=by
 intro hs
 unfold sU at h
 rw[if_pos rfl,if_pos hs] at h
 simp only[Bool.and_eq_true,decide_eq_true_eq] at h
 omega
theorem ep.XC {u:bq} {m:MS} {t:Nat} (hu:u.Wf) (hr:cN u) (h:ep u m) (ht:t<u.br.length) (hk:(m.node u t).kind≠9):FP m t (m.node u t):=by
 have hn:=h.node hr ht
 have hw:=GV hu h ht
 have hsl:=h.yS t ht
 have hg:=(hr.gr ht).bw
 have hg2:=(hr.gr ht).locals
 have hml:=h.ml
 have hhl:=h.hl
 generalize m.node u t=n at *
 have hkd:=hn.kind
 have hlen:(((m.bw.getD t []).length:Nat):Int)=(u.gr t).bw:=by rw[hsl];omega
 refine⟨by omega,fun e=> ?_,fun e=> ?_,fun e=> ?_,fun e=> ?_,fun e e2=> ?_,fun e=> ?_⟩
 ·have:=hn.slot.1 (by unfold gQ;exact decide_eq_true (by omega));omega
 ·have:=hn.cB.1 (by unfold fD;exact decide_eq_true (by omega))
  rw[if_neg (by omega)] at this;omega
 ·have:=hn.cB.1 (by unfold fD;exact decide_eq_true (by omega))
  rw[if_pos (by omega)] at this;omega
 ·have:=hn.a
  rw[show oT n.kind=true by unfold oT;exact decide_eq_true (by omega)] at this
  exact HD this hlen
 ·have:=hn.b
  rw[e2,decide_eq_true e] at this
  exact HD this hlen
 ·exact⟨hw.op.1,hn.op.1 e⟩
section
variable {u:bq} {m:MS} {t:Nat} {n:Node} {d:iU} {ab:Nat} {L:ML} {H:Hp} {nx:Nat}
theorem K1 (h:vd u m t n d ab L H) (hlt:∀y∈ab::L.all,y<nx) (ht:t<m.bw.length) (hl:m.bw.length<=8) (ha:FP m t n) (hpl:m.cC.length<=1048576) (hd:d.cB=0/\d.word=0/\d.put=0):
 cQ Tryz.prog (ku n.kind) [.pt ab 1 0 0] H nx (fun r H' k=>r=i64 (m.act t n).2.1/\vK u (m.act t n).1 t n (sy m t n d) ab L H nx H' k):=by
 obtain⟨d1,d2,d3⟩:=hd
 have hk:n.kind=1\/n.kind=2\/n.kind=3\/n.kind=4\/n.kind=5\/n.kind=6\/n.kind=7\/n.kind=8:=by have:=ha.kind;omega
 obtain⟨t0,a0,k0,th,w0,p0⟩:=d
 dsimp only at d1 d2 d3
 subst d1 d2 d3
 have hop:=ha.op
 rcases hk with e|e|e|e|e|e|e|e
 ·have:=QB h hlt ht hl (ha.slot (by omega)) (ha.a (by omega)) (ha.b e) (hop e)
  simp only[ku,sy,MS.act,e];exact this
 ·have:=JN h hlt ht hl (ha.slot (by omega)) (ha.mem (by omega))
  simp only[ku,sy,MS.act,e];exact this
 ·have:=FF h hlt ht hl (ha.a (by omega)) (ha.mem (by omega))
  simp only[ku,sy,MS.act,e];exact this
 ·have:=KI h hlt ht hl (ha.a (by omega)) (ha.slot (by omega)) (ha.mem (by omega))
  simp only[ku,sy,MS.act,e];exact this
 ·have:=JO h hlt ht hl (ha.hold (by omega))
  simp only[ku,sy,MS.act,e];exact this
 ·have:=CG h hlt ht hl (ha.hold (by omega))
  simp only[ku,sy,MS.act,e];exact this
 ·have:=EO h hlt ht hl (ha.a (by omega)) hpl
  simp only[ku,sy,MS.act,e];exact this
 ·have:=yh h hlt ht hl (ha.a (by omega))
  simp only[ku,sy,MS.act,e];exact this
end
abbrev oN (d:Nat) (o:dJ):gp:=⟨some d,none,o⟩
def BO:List gp:=[oN 50 (.mv (.t 0)),oN 51 (.V1 (.t 50)),oN 52 (.fa 3 (.t 51)),oN 53 (.ld false 1 (.t 52)),oN 54 (.mv (.t 1)),oN 55 (.call (.f 70) []),oN 56 (.mv (.t 8)),oN 57 (.V1 (.t 56)),oN 58 (.fa 2 (.t 57)),oN 59 (.fa 0 (.t 58)),oN 60 (.ld false 1 (.t 59)),oN 61 (.ix 1 false 10 (.t 55) (.t 60)),oN 62 (.mv (.t 8)),oN 63 (.call (.t 61) [.t 62])]
def ZI:List (Nat×Nat):=[(2,5),(3,5),(5,8),(5,9),(5,10),(2,13),(3,13)]
def CH (L:ML) (m:MS) (t:Nat) (n:Node) (ab:Nat) (i:Nat):AV:=
 [.pt L.mr 1 0 0, .pt L.mr 1 0 0, .pt L.mr 1 0 3, .sl L.a m.at_.length,i64 t,tA, .pt ab 1 0 0, .pt ab 1 0 0, .pt ab 1 0 2, .pt ab 1 0 2,u8 n.kind, .fn (.func (ku n.kind)) [] [], .pt ab 1 0 0,i64 (m.act t n).2.1].getD i .any
structure W7 (u:bq) (m:MS) (t:Nat) (n:Node) (d:iU) (ab:Nat) (L:ML) (H0:Hp) (lo:Nat) (D:Nat->Bool) (H:Hp) (nx:Nat):Prop where
 lw:lo<=nx
 same:∀y,y<lo->y≠ab->y∉L.all->bo H y=bo H0 y
 m0:D 13=false->vd u m t n d ab L H
 m1:D 13=true->vd u (m.act t n).1 t n (sy m t n d) ab L H
section
variable {u:bq} {m:MS} {t:Nat} {n:Node} {d:iU} {ab:Nat} {L:ML} {H0 H:Hp} {lo nx:Nat} {D:Nat->Bool}
theorem W7.look (h:W7 u m t n d ab L H0 lo D H nx) {i:Nat} (hi:i≠13) {nx':Nat} (hn:nx<=nx'):W7 u m t n d ab L H0 lo (fun k=>D k||k==i) H nx':=by
 have e:(13==i)=false:=by simpa using Ne.symm hi
 refine⟨Nat.le_trans h.lw hn,h.same, ?_, ?_⟩
 ·simp only[e,Bool.or_false];exact h.m0
 ·simp only[e,Bool.or_false];exact h.m1
theorem xL {u:bq} (m:MS) (t:Nat) (n:Node):(m.act t n).1.at_=m.at_:=by
 unfold MS.act
 repeat' split
 all_goals rfl
theorem HT {k:Int} (h:1<=k/\k<=8):([.sc .nilFunc, .fn (.func 106) [] [], .fn (.func 107) [] [], .fn (.func 108) [] [], .fn (.func 109) [] [], .fn (.func 110) [] [], .fn (.func 111) [] [], .fn (.func 112) [] [], .fn (.func 113) [] [], .sc .nilFunc]:List AV).getD k.toNat .any= .fn (.func (ku k)) [] []:=by
 have:k=1\/k=2\/k=3\/k=4\/k=5\/k=6\/k=7\/k=8:=by omega
 rcases this with rfl|rfl|rfl|rfl|rfl|rfl|rfl|rfl<;>rfl
set_option maxHeartbeats 2000000 in
theorem YN {fr0:Fr} (hlt:∀y∈ab::L.all,y<lo) (ht:t<m.bw.length) (hl:m.bw.length<=8) (ha:FP m t n) (hpl:m.cC.length<=1048576) (hd:d.cB=0/\d.word=0/\d.put=0)
 (h0:cd fr0 0= .pt L.mr 1 0 0) (h1:cd fr0 1=i64 t) (h8:cd fr0 8= .pt ab 1 0 0):
 HM Tryz.prog BO ZI (fun D fr H nx=>∃θ:Unit,Y1 BO D (CH L m t n ab) fr0 fr/\W7 u m t n d ab L H0 lo D H nx):=by
 refine HM.of (Θ:=Unit) (fun _=>CH L m t n ab) (fun _=>W7 u m t n d ab L H0 lo) fr0 (by decide) ?_
 intro i gg θ D fr H nx hi hD hp hs hv hh
 have hk:i<14:=by have:=(List.getElem?_eq_some_iff.1 hi).1;simpa[BO] using this
 have q:∀(j:Nat) (g':gp) (t':Nat),BO[j]?=some g'->g'.dst=some t'->j<i->C8 BO ZI j i=true->cd fr t'=CH L m t n ab j:=fun j g' t' h1 h2 h3 h4=>hv.val j g' t' h1 (hp j h3 h4) h2
 have f0:cd fr 0= .pt L.mr 1 0 0:=(hv.gW 0 (by decide)).trans h0
 have f1:cd fr 1=i64 t:=(hv.gW 1 (by decide)).trans h1
 have f8:cd fr 8= .pt ab 1 0 0:=(hv.gW 8 (by decide)).trans h8
 have hlw:=hh.lw
 have row:∃d,(∃d2,bo H ab=some (.row 151 21 d2 [.agg (AC (.pt L.mr 1 0 0) t n d)])):=by
  cases h13:D 13 with
  |false=>exact⟨_,(hh.m0 h13).row⟩
  |true=>exact⟨_,(hh.m1 h13).row⟩
 have mrow:∃(m':MS),m'.at_.length=m.at_.length/\∃d2,bo H L.mr=some (.row 135 8 d2 [m'.rows u L.a L.s L.me L.ho L.pr]):=by
  cases h13:D 13 with
  |false=>exact⟨_,rfl,(hh.m0 h13).M.rM⟩
  |true=>exact⟨_,by rw[xL (u:=u)],(hh.m1 h13).M.rM⟩
 obtain⟨dx,d2,ra⟩:=row
 obtain⟨m',hm',d3,rm⟩:=mrow
 have cases:i=0\/i=1\/i=2\/i=3\/i=4\/i=5\/i=6\/i=7\/i=8\/i=9\/i=10\/i=11\/i=12\/i=13:=by omega
 rcases cases with rfl|rfl|rfl|rfl|rfl|rfl|rfl|rfl|rfl|rfl|rfl|rfl|rfl|rfl<;>(obtain rfl:_=gg:=by simpa[BO] using hi)
 ·exact dw.look (by simp) (r:= .pt L.mr 1 0 0) (by simp only[cA,ev];rw[f0]) ⟨θ,fun _ _=>rfl,rfl,hh.look (by decide) (Nat.le_succ _)⟩
 ·have p:=q 0 _ 50 rfl rfl (by decide) (by decide)
  exact dw.look (by simp) (r:= .pt L.mr 1 0 0) (by simp only[cA,ev];rw[p];rfl) ⟨θ,fun _ _=>rfl,rfl,hh.look (by decide) (Nat.le_succ _)⟩
 ·have p:=q 1 _ 51 rfl rfl (by decide) (by decide)
  exact dw.look (by simp) (r:= .pt L.mr 1 0 3) (by simp only[cA,ev];rw[p];simp[CH,rm]) ⟨θ,fun _ _=>rfl,rfl,hh.look (by decide) (Nat.le_succ _)⟩
 ·have p:=q 2 _ 52 rfl rfl (by decide) (by decide)
  exact dw.look (by simp) (r:= .sl L.a m.at_.length) (by simp only[cA,ev];rw[p];simp[CH,kJ,rm,zg,MS.rows,hm']) ⟨θ,fun _ _=>rfl,rfl,hh.look (by decide) (Nat.le_succ _)⟩
 ·exact dw.look (by simp) (r:=i64 t) (by simp only[cA,ev];rw[f1]) ⟨θ,fun _ _=>rfl,rfl,hh.look (by decide) (Nat.le_succ _)⟩
 ·show cQ Tryz.prog 70 ([]++[]++[]) H nx _
  refine xM.dK (by simp[cT]) ?_
  rintro r rfl
  exact⟨θ,fun _ _=>rfl,rfl,hh.look (by decide) (Nat.le_refl _)⟩
 ·exact dw.look (by simp) (r:= .pt ab 1 0 0) (by simp only[cA,ev];rw[f8]) ⟨θ,fun _ _=>rfl,rfl,hh.look (by decide) (Nat.le_succ _)⟩
 ·have p:=q 6 _ 56 rfl rfl (by decide) (by decide)
  exact dw.look (by simp) (r:= .pt ab 1 0 0) (by simp only[cA,ev];rw[p];rfl) ⟨θ,fun _ _=>rfl,rfl,hh.look (by decide) (Nat.le_succ _)⟩
 ·have p:=q 7 _ 57 rfl rfl (by decide) (by decide)
  exact dw.look (by simp) (r:= .pt ab 1 0 2) (by simp only[cA,ev];rw[p];simp[CH,ra]) ⟨θ,fun _ _=>rfl,rfl,hh.look (by decide) (Nat.le_succ _)⟩
 ·have p:=q 8 _ 58 rfl rfl (by decide) (by decide)
  exact dw.look (by simp) (r:= .pt ab 1 0 2) (by simp only[cA,ev];rw[p];simp[CH,ra]) ⟨θ,fun _ _=>rfl,rfl,hh.look (by decide) (Nat.le_succ _)⟩
 ·have p:=q 9 _ 59 rfl rfl (by decide) (by decide)
  exact dw.look (by simp) (r:=u8 n.kind) (by simp only[cA,ev];rw[p];simp[CH,kJ,ra,zg,AC]) ⟨θ,fun _ _=>rfl,rfl,hh.look (by decide) (Nat.le_succ _)⟩
 ·have p:=q 5 _ 55 rfl rfl (by decide) (by decide)
  have p2:=q 10 _ 60 rfl rfl (by decide) (by decide)
  have hkk:=ha.kind
  refine dw.look (by simp) (r:= .fn (.func (ku n.kind)) [] []) ?_ ⟨θ,fun _ _=>rfl,rfl,hh.look (by decide) (Nat.le_succ _)⟩
  have p3:cd fr 55=tA:=p
  have p4:cd fr 60=u8 n.kind:=p2
  have ht:=HT hkk
  simp only[cA,ev,p3,p4,tA,Nat.mul_one,Bool.false_eq_true,if_false,if_true,List.length_cons,List.length_nil]
  rw[if_pos ⟨by omega,(show n.kind<10 by omega),trivial⟩,ht]
 ·exact dw.look (by simp) (r:= .pt ab 1 0 0) (by simp only[cA,ev];rw[f8]) ⟨θ,fun _ _=>rfl,rfl,hh.look (by decide) (Nat.le_succ _)⟩
 ·have p:=q 11 _ 61 rfl rfl (by decide) (by decide)
  have p2:=q 12 _ 62 rfl rfl (by decide) (by decide)
  show rR Tryz.prog (cd fr 61) [cd fr 62] H nx _
  rw[p,p2]
  show cQ Tryz.prog (ku n.kind) ([]++[.pt ab 1 0 0]++[]) H nx _
  refine(K1 (hh.m0 hD) (fun y hy=>Nat.lt_of_lt_of_le (hlt y hy) hlw) ht hl ha hpl hd).mono ?_
  rintro r' H' n' ⟨rfl,hA,hn,hk2⟩
  exact⟨θ,fun _ _=>rfl,rfl,Nat.le_trans hlw hn,fun y h1 h2 h3=>(hk2 y (Nat.lt_of_lt_of_le h1 hlw) h2 h3).trans (hh.same y h1 h2 h3),fun hx=>by simp at hx,fun _=>hA⟩
end
end
section
section
variable {u:bq} {m:MS} {t:Nat} {n:Node} {d:iU} {L:ML} {H:Hp} {nx:Nat}
theorem C9 {fr0:Fr} {H0:Hp} {lo ab:Nat} {Q:QT} (hlt:∀y∈ab::L.all,y<lo) (ht:t<m.bw.length) (htl:t<m.at_.length) (hl:m.bw.length<=8) (ha:FP m t n) (hpl:m.cC.length<=1048576) (hd:d.cB=0/\d.word=0/\d.put=0)
 (h0:cd fr0 0= .pt L.mr 1 0 0) (h1:cd fr0 1=i64 t) (h8:cd fr0 8= .pt ab 1 0 0) (hA:vd u m t n d ab L H0)
 (hK:∀f1 H1 n1,cd f1 8= .pt ab 1 0 0->cd f1 4=cd fr0 4->vd u { (m.act t n).1 with at_:=m.at_.set t (m.act t n).2.1 } t n (sy m t n d) ab L H1->lo<=n1->(∀y,y<lo->y≠ab->y∉L.all->bo H1 y=bo H0 y)->∃f',kI f1 f'/\Go (Q .normal f' H1 n1)):
 iZ Tryz.prog [⟨BO,ZI⟩,⟨[oN 64 (.ia 1 none (.t 53) (.t 54))],[]⟩,⟨[⟨none,none, .st false 1 (.t 64) (.t 63)⟩],[]⟩] fr0 H0 lo Q:=by
 refine iZ.YM (YN (u:=u) (d:=d) (H0:=H0) (lo:=lo) hlt ht hl ha hpl hd h0 h1 h8) ⟨(),⟨fun i g t' _ hL=>(by cases hL),fun t' _=>rfl⟩,⟨Nat.le_refl _,fun y _ _ _=>rfl,fun _=>hA,fun hx=>(by cases hx)⟩⟩ ?_
 intro D fr' H' n' hall ⟨_,hv,hh⟩
 have v:=fun(j:Nat) (g':gp) (t':Nat) (h1:BO[j]?=some g') (h2:g'.dst=some t') (h3:j<14)=>hv.val j g' t' h1 (hall j h3) h2
 have p53:cd fr' 53= .sl L.a m.at_.length:=v 3 _ 53 rfl rfl (by decide)
 have p54:cd fr' 54=i64 t:=v 4 _ 54 rfl rfl (by decide)
 have p63:cd fr' 63=i64 (m.act t n).2.1:=v 13 _ 63 rfl rfl (by decide)
 have p8:cd fr' 8= .pt ab 1 0 0:=(hv.gW 8 (by decide)).trans h8
 have p4:cd fr' 4=cd fr0 4:=hv.gW 4 (by decide)
 have hA2:=hh.m1 (hall 13 (by decide))
 have q1:(m.at_.map i64).length=m.at_.length:=by simp
 obtain⟨d3,r3⟩:=hA2.M.rA
 rw[xL (u:=u)] at r3
 have hlw:=hh.lw
 have hs:=hh.same
 have hout:=hA2.out
 have hsl2:(m.act t n).1.bw.length=m.bw.length:=by
  unfold MS.act
  repeat' split
  all_goals first|rfl|(simp only[MS.fS,List.length_set])
 have hmem:=hA2.M.mem
 show dw Tryz.prog n' fr' H' (.ia 1 none (.t 53) (.t 54)) (fun r H' nx'=>dw Tryz.prog nx' (fZ fr' (some 64) r) H' (.st false 1 (.t 64) (.t 63)) (fun r2 H2 n2=>∃f',kI (fZ (fZ fr' (some 64) r) none r2) f'/\Go (Q .normal f' H2 n2)))
 refine dw.look (op:= .ia 1 none (.t 53) (.t 54)) (r:= .pt L.a m.at_.length t 0) (fun f as2 h=>by cases h) ?_ ?_
 ·simp only[cA,ev]
  rw[p53,p54]
  simp only[KT,r3]
  rw[if_pos ⟨q1,trivial,by omega,by omega⟩]
  simp
 refine dw.act (op:= .st false 1 (.t 64) (.t 63)) (r:= .any) (u:=(L.a, .row 3 1 d3 ((m.at_.map i64).set t (i64 (m.act t n).2.1)))) (fun f as2 h=>by cases h) ?_ ?_
 ·have e1:ev (fZ fr' (some 64) (.pt L.a m.at_.length t 0)) (.t 64)= .pt L.a m.at_.length t 0:=rfl
  have e2:ev (fZ fr' (some 64) (.pt L.a m.at_.length t 0)) (.t 63)=i64 (m.act t n).2.1:=p63
  simp only[cA]
  rw[e1,e2]
  simp only[r3]
  rw[if_pos q1,show(m.at_.map i64).getD t d3=i64 (m.at_.getD t 0) from dN i64 m.at_ t d3 htl]
  rfl
 refine hK _ _ _ p8 p4 ⟨?_, ?_,hout⟩ (by omega) (fun y y1 y2 y3=> ?_)
 ·have:=hA2.M.Y4 (H':=(L.a,some (.row 3 1 d3 ((m.at_.map i64).set t (i64 (m.act t n).2.1))))::H') (t:=t) (by rw[hsl2];exact ht) t (m.act t n).2.1 ⟨d3,by rw[xL (u:=u)];exact bt⟩ (fun y hy hne=>bx)
  rw[xL (u:=u)] at this
  exact this
 ·obtain⟨d4,r4⟩:=hA2.row
  have:=dP hout (hmem L.a (by simp))
  exact⟨d4,bt⟩
 ·have:=dP y3 (hmem L.a (by simp))
  exact Eq.trans bx (hs y y1 y2 y3)
theorem WQ (hM:L.At u m H) (t:Int) {H1:Hp} (h1:∀y∈L.all,bo H1 y=bo H y):[.pt L.mr 1 0 0,i64 t].map (cw.dj H1 6)=[m.fz u,i64 t]:=by
 rw[List.map_cons,List.map_cons,List.map_nil,(hM.keep h1).IQ 2,dG _ (show cF 0 (i64 t) by simp[cF])]
set_option maxHeartbeats 4000000 in
theorem KF (hu:u.Wf) (hr:cN u) (h:ep u m) (hM:L.At u m H) (hlt:∀y∈L.all,y<nx) (hpl:m.cC.length<=1048576) (ht:t<u.br.length) (hb:m.l3 u t=0):
 cQ Tryz.prog 36 [.pt L.mr 1 0 0,i64 t] H nx (fun r H' k=>r= .df [(m.step u t).2.av,i64 0]/\L.At u (m.step u t).1 H'/\nx<=k/\∀y,y<nx->y∉L.all->bo H' y=bo H y):=by
 refine aJ N2 rfl ?_
 obtain⟨hk9,_⟩:=jH h ht hb
 have hgl:=hr.yu
 have hao:=h.XC hu hr ht hk9
 have hsl:m.bw.length<=8:=by rw[h.sl];omega
 have hts:t<m.bw.length:=by rw[h.sl];exact ht
 have hal:=h.mK
 obtain⟨p0,p1⟩:=h.iL t ht
 have hap:=apart hM hts
 have hmem:=hM.mem
 have km:=hlt L.mr (by simp)
 have ka:=hlt L.a (hmem _ (by simp))
 have hma:L.mr≠L.a:=hap.ne.1
 obtain⟨d1,r1⟩:=hM.rM
 obtain⟨d2,r2⟩:=hM.rA
 have e0:=fun d=>ints_at (l:=m.at_) (k:=t) (by omega) d
 have e1:=fun d=>pj (l:=u.br) ht d
 obtain⟨j,hj⟩:∃j:Nat,m.at_.getD t 0=j:=⟨(m.at_.getD t 0).toNat,by omega⟩
 rw[hj] at e0 p1
 have hnd:m.node u t=(u.gr t).nd j:=by unfold MS.node;rw[hj,Int.toNat_natCast]
 rw[show u.br.getD t default=u.gr t from rfl] at e1
 have e2:=fun d=>gh (l:=(u.gr t).nodes) (i:=j) (by omega) d
 rw[show(u.gr t).nodes.getD j default=m.node u t by rw[hnd]] at e2
 have hat:m.at_.getD t 0=(j:Int):=hj
 have q1:(m.at_.map i64).length=m.at_.length:=by simp
 have q2:(u.br.map bu.av).length=u.br.length:=by simp
 have q3:((u.gr t).nodes.map Node.av).length=(u.gr t).nodes.length:=by simp
 have hst:m.step u t=({ (m.act t (m.node u t)).1 with at_:=m.at_.set t (m.act t (m.node u t)).2.1 },⟨t,j,(m.node u t).kind,(m.act t (m.node u t)).2.2.1,(m.act t (m.node u t)).2.2.2.1,(m.act t (m.node u t)).2.2.2.2⟩):=by
  unfold MS.step;rw[hj]
 rw[hst]
 generalize m.node u t=n at *
 have c9:(0:Int)=0:=rfl
 refine XB ?_
 refine aU (CV u hr m h t) (WQ hM t ?_) (by simp[cT,cF,qj]) trivial ?_
 ·exact fun y hy=>by have:=hlt y hy;exact bx
 rw[hb]
 refine XB ?_
 refine C9 (u:=u) (m:=m) (t:=t) (n:=n) (d:=⟨t,j,n.kind,0,0,0⟩) (ab:=nx+30) (L:=L) ?_ hts (by omega) hsl hao hpl ⟨rfl,rfl,rfl⟩ rfl rfl rfl ⟨hM.keep ?_,⟨_,bt⟩, ?_⟩ ?_
 ·intro y hy
  rcases List.mem_cons.1 hy with rfl|hy
  ·exact cU
  ·have:=hlt y hy;exact cU
 ·intro y hy
  have:=hlt y hy;exact bx
 ·intro hy
  have:=hlt _ hy;omega
 intro f1 H1 n1 p8 p4 hA hn hs
 refine⟨[(8, .pt (nx+30) 1 0 0),(4, .pt nx 1 0 0)],⟨p8,p4,trivial⟩, ?_⟩
 obtain⟨d5,r5⟩:=hA.row
 have r6:bo H1 nx=some (.row 92 6 (gl true [.int .i64 0, .int .i64 0, .int .u8 0, .int .i64 0, .int .i64 0, .int .i64 0]) [gl true [.int .i64 0, .int .i64 0, .int .u8 0, .int .i64 0, .int .i64 0, .int .i64 0]]):=(hs nx cU (by omega) (fun hy=>by have:=hlt _ hy;omega)).trans bt
 refine cz ?_
 refine⟨⟨rfl,hA.M.keep fun y hy=> ?_,cU,fun y y1 y2=> ?_⟩⟩
 ·have:=hlt y hy;exact bx
 ·exact Eq.trans bx ((hs y cU (by omega) y2).trans bx)
end
end
theorem C0 {es:List AV} (hf:cT 0 es) (hl:es.length * 32<=140737488355328):cQ Tryz.prog 26 [.im 3 .any es] [] 0 (fun r H _=>cw.dj H 6 r= .sc (.slice none 0 0)/\es=[]\/cw.dj H 6 r= .im 3 .any es):=by
 refine aJ JG rfl ?_
 cases es with
 |nil=>
  refine cz ?_
  refine⟨rN ?_,rN ?_⟩
  ·refine cz ?_
   exact⟨.inl ⟨rfl,rfl⟩⟩
  ·refine cz ?_
   exact⟨.inr rfl⟩
 |cons x t=>
  have a0:(x::t).length * 32<=gV:=Nat.le_trans hl (by unfold gV;omega)
  simp only[List.length_cons] at hl
  refine cz ?_
  refine⟨.inr ((dv (e:=79) (sz:=3) (es:=x::t) bt (Nat.zero_add _).symm).trans ?_)⟩
  rw[cu _ hf]
theorem C1 {es:List AV} (hf:cT 0 es) (hl:es.length * 96<=140737488355328):cQ Tryz.prog 63 [.im 13 .any es] [] 0 (fun r H _=>cw.dj H 6 r= .sc (.slice none 0 0)/\es=[]\/cw.dj H 6 r= .im 13 .any es):=by
 refine aJ ON rfl ?_
 cases es with
 |nil=>
  refine cz ?_
  refine⟨rN ?_,rN ?_⟩
  ·refine cz ?_
   exact⟨.inl ⟨rfl,rfl⟩⟩
  ·refine cz ?_
   exact⟨.inr rfl⟩
 |cons x t=>
  have a0:(x::t).length * 96<=gV:=Nat.le_trans hl (by unfold gV;omega)
  simp only[List.length_cons] at hl
  refine cz ?_
  refine⟨.inr ((dv (e:=51) (sz:=13) (es:=x::t) bt (Nat.zero_add _).symm).trans ?_)⟩
  rw[cu _ hf]
theorem pW (l:List Decl) (hl:l.length * 32<=140737488355328):Pure Tryz.prog 26 [cg l] (fun r=>r=cg l):=
 kN (by simp[cF,cI]) (C0 ((cI _ _).2 fun _ _=>by simp[cF]) (by rw[List.length_map];exact hl))
theorem xZ (l:List Node) (hl:l.length * 96<=140737488355328):Pure Tryz.prog 63 [gE l] (fun r=>r=gE l):=
 kN (by simp[cF,cI]) (C1 ((cI _ _).2 fun _ _=>by simp[cF]) (by rw[List.length_map];exact hl))
theorem SZ (u:bq) (hu:u.Wf) (hr:¬cN u):Pure Tryz.prog 32 [u.av] (fun r=>r= .df [.sc (.pointer none),i64 60]):=by
 have c0:=jg u hu
 have hb:=o6 hr
 generalize jP u=ck at *
 obtain⟨x,y,z⟩:=ck
 dsimp only at hb
 subst hb
 refine aD JH rfl ?_
 refine cz ?_
 first|exact rfl|trivial
theorem L9 {α:Type} (a b:α) (n i:Nat) (h:i<n):(List.replicate i a++List.replicate (n - i) b).set i a=List.replicate (i+1) a++List.replicate (n - (i+1)) b:=by
 rw[show n - i=(n - (i+1))+1 by omega,List.replicate_succ,List.set_append_right _ _ (by simp),List.length_replicate,Nat.sub_self,List.set_cons_zero,List.replicate_succ',List.append_assoc]
 rfl
theorem XR (u:bq) (G A S ME HO PR:Nat) (d:AV) (n1 n2 n3 n4 n5:Nat) (h1:A≠G) (h2:S≠G) (h3:ME≠G) (h4:HO≠G) (h5:PR≠G):
 ([.agg [cg u.shared,cg u.cE, .sl G u.br.length, .sl A n1, .sl S n2, .sl ME n3, .sl HO n4, .sl PR n5]]:List AV).map (Go.cw.wW [(G,some (.row 45 4 d (u.br.map bu.av)))] 2)=[.agg [cg u.shared,cg u.cE,dS u.br, .sl A n1, .sl S n2, .sl ME n3, .sl HO n4, .sl PR n5]]:=by
 simp[Go.cw.wW,SD,bo,h1,h2,h3,h4,h5,uG]
set_option maxHeartbeats 4000000 in
theorem BJ (u:bq) (hu:u.Wf) (hr:cN u) (H0:Hp) (nx:Nat):cQ Tryz.prog 32 [u.av] H0 nx (fun r H n=>∃L:ML,r= .df [.pt L.mr 1 0 0,i64 0]/\L.At u (eC u) H/\(∀x∈L.all,nx<=x/\x<n)/\nx<=n/\∀y,y<nx->bo H y=bo H0 y):=by
 have c0:=jg u hu
 rw[nX.2 hr] at c0
 have hgl:=hr.yu
 have hw1:=hu.jb
 have hw2:=hu.lL
 have c1:=pW u.shared (by omega)
 have c2:=pW u.cE (by omega)
 refine aJ JH rfl ?_
 refine cz ?_
 simp only[List.length_map,Int.toNat_natCast]
 have hsz:∀t,t<u.br.length->0<=(u.gr t).bw/\(u.gr t).bw<=4160:=fun t ht=>by
  have h1:=(hr.gr ht).bw
  have h2:=(hr.gr ht).locals
  omega
 have hnl:∀t,t<u.br.length->(u.gr t).nodes.length * 96<=140737488355328:=fun t ht=>by
  have:=(hr.gr ht).len
  omega
 have hat0:(eC u).at_.map i64=List.replicate u.br.length (i64 0):=by
  simp only[eC,List.map_map]
  rw[List.eq_replicate_iff]
  exact⟨by simp,fun b hb=>by obtain⟨g,_,rfl⟩:=List.mem_map.1 hb;rfl⟩
 have hnsl:(eC u).bw.length=u.br.length:=by simp[eC]
 have hns:∀t,t<u.br.length->(eC u).bw.getD t []=List.replicate (u.gr t).bw.toNat 0:=fun t ht=>by simp[eC,List.getD,bq.gr,ht]
 refine aT (fun σ:Nat×List Nat=>[(1, .pt nx 1 0 0),(7, .pt (nx+22) 1 0 0),(47,dS u.br),(48,i64 u.br.length),(49,i64 σ.1)])
  (fun σ H n=>σ.1<=u.br.length/\nx+46<=n/\σ.2.length=σ.1/\σ.2.Nodup/\(∀x∈σ.2,nx+46<=x/\x<n)/\(∃d,bo H nx=some (.row 25 3 d [u.av]))/\(∃d,bo H (nx+22)=some (.row 135 8 d [.agg [cg u.shared,cg u.cE, .sl (nx+42) σ.1, .sl (nx+16) u.br.length, .sl (nx+43) σ.1, .sl (nx+44) 0, .sl (nx+20) u.cE.length, .sl (nx+45) 0]]))/\(∃d,bo H (nx+16)=some (.row 3 1 d ((eC u).at_.map i64)))/\(∃d,bo H (nx+20)=some (.row 3 1 d (List.replicate u.cE.length (i64 0))))/\(∃d,bo H (nx+42)=some (.row 45 4 d ((u.br.take σ.1).map bu.av)))/\(∃d,bo H (nx+43)=some (.row 57 1 d (ef σ.2 ((eC u).bw.take σ.1))))/\(∃d,bo H (nx+44)=some (.row 2 1 d []))/\(∃d,bo H (nx+45)=some (.row 102 2 d []))/\(∀t,t<σ.1->∃d,bo H (σ.2.getD t 0)=some (.row 2 1 d (((eC u).bw.getD t []).map i64)))/\∀y,y<nx->bo H y=bo H0 y) (fun σ=>u.br.length - σ.1) (0,[])
  ⟨_,_,_,Rt.trans (Rt.wk (Wk.mA (b:=nx+22) (nx:=nx+42) (e:=45) (sz:=4) cU (by omega) (te:=135) (tz:=8) (cs:=[cg u.shared,cg u.cE, .sc (.slice none 0 0), .sl (nx+16) u.br.length, .sc (.slice none 0 0), .sc (.slice none 0 0), .sl (nx+20) u.cE.length, .sc (.slice none 0 0)]) (j:=2) bt (by show 2<8;omega) rfl)) (Rt.trans (Rt.wk (Wk.mA (b:=nx+22) (nx:=nx+43) (e:=57) (sz:=1) cU (by omega) (te:=135) (tz:=8) (cs:=[cg u.shared,cg u.cE, .sl (nx+42) 0, .sl (nx+16) u.br.length, .sc (.slice none 0 0), .sc (.slice none 0 0), .sl (nx+20) u.cE.length, .sc (.slice none 0 0)]) (j:=4) bt (by show 4<8;omega) rfl)) (Rt.trans (Rt.wk (Wk.mA (b:=nx+22) (nx:=nx+44) (e:=2) (sz:=1) cU (by omega) (te:=135) (tz:=8) (cs:=[cg u.shared,cg u.cE, .sl (nx+42) 0, .sl (nx+16) u.br.length, .sl (nx+43) 0, .sc (.slice none 0 0), .sl (nx+20) u.cE.length, .sc (.slice none 0 0)]) (j:=5) bt (by show 5<8;omega) rfl)) (Rt.wk (Wk.mA (b:=nx+22) (nx:=nx+45) (e:=102) (sz:=2) cU (by omega) (te:=135) (tz:=8) (cs:=[cg u.shared,cg u.cE, .sl (nx+42) 0, .sl (nx+16) u.br.length, .sl (nx+43) 0, .sl (nx+44) 0, .sl (nx+20) u.cE.length, .sc (.slice none 0 0)]) (j:=7) bt (by show 7<8;omega) rfl)))),
   cG,Nat.zero_le _,cU,rfl,List.nodup_nil,fun x hx=>by simp at hx,⟨_,bt⟩,⟨_,bt⟩,⟨_,by rw[hat0];exact bt⟩,⟨_,bt⟩,⟨_,bt⟩,⟨_,bt⟩,⟨_,bt⟩,⟨_,bt⟩,fun t ht=>absurd ht (Nat.not_lt_zero _),fun y hy=>bx⟩ ?_
 rintro⟨t,ids⟩ H n ⟨ht,hn,hil,hnd,hin,⟨d0,r0'⟩,⟨d1,r1'⟩,⟨d2,r2'⟩,⟨d3,r3'⟩,⟨d4,r4⟩,⟨d5,r5⟩,⟨d6,r6⟩,⟨d7,r7⟩,hls,hkp⟩
 dsimp only at ht hil hnd hin r0' r1' r4 r5 hls ⊢
 have hgk:((u.br.take t).map bu.av).length=t:=by simp;omega
 have htk:((eC u).bw.take t).length=t:=by rw[List.length_take];omega
 have hrl:(ef ids ((eC u).bw.take t)).length=t:=by unfold ef;rw[List.length_map,List.length_zip,htk,hil];omega
 by_cases htl:t<u.br.length
 ·have e0:=fun d=>pj (l:=u.br) htl d
  rw[show u.br.getD t default=u.gr t from rfl] at e0
  have a0:(u.br.map bu.av).length=u.br.length:=by simp
  have c3:=xZ (u.gr t).nodes (hnl t htl)
  obtain⟨s1,s2⟩:=hsz t htl
  have hnx1:(u.br.take (t+1)).map bu.av=(u.br.take t).map bu.av++[(u.gr t).av]:=by
   rw[List.take_succ_eq_append_getElem htl,List.map_append,show u.gr t=u.br[t] by simp[bq.gr,List.getD,htl]];rfl
  have hnx2:ef (ids++[n+29]) ((eC u).bw.take (t+1))=ef ids ((eC u).bw.take t)++[.sl (n+29) (u.gr t).bw.toNat]:=by
   have e:=hns t htl
   rw[List.take_succ_eq_append_getElem (by omega),wu (by rw[hil,htk]),show(eC u).bw[t]'(by omega)=List.replicate (u.gr t).bw.toNat 0 by rw[<-e];simp[List.getD,show t<(eC u).bw.length by omega]]
   simp
  have hnx3:((eC u).bw.getD t []).map i64=List.replicate (u.gr t).bw.toNat (i64 0):=by rw[hns t htl];simp
  refine cz ?_
  refine⟨(t+1,ids++[n+29]),by dsimp only;omega,_,_,_,Rt.refl _ _ _,cG,by dsimp only;omega,cU,by simp[hil], ?_, ?_,⟨_,bt⟩,⟨_,bt⟩,⟨_,bt⟩,⟨_,bt⟩,⟨_,by dsimp only;rw[hnx1];exact bt⟩,⟨_,by dsimp only;rw[hnx2];exact bt⟩,⟨_,bt⟩,⟨_,bt⟩, ?_,fun y hy=>Eq.trans bx (hkp y hy)⟩
  ·refine List.nodup_append.2 ⟨hnd,by simp,fun a ha b hb=> ?_⟩
   simp only[List.mem_cons,List.not_mem_nil,or_false] at hb
   have:=hin _ ha;omega
  ·intro x hx
   rcases List.mem_append.1 hx with hx|hx
   ·have:=hin _ hx;exact⟨this.1,Nat.lt_of_lt_of_le this.2 cU⟩
   ·simp only[List.mem_cons,List.not_mem_nil,or_false] at hx
    subst hx;exact⟨by omega,cU⟩
  ·intro q hq
   have hq:q<t+1:=hq
   by_cases e:q=t
   ·subst e
    have e2:(ids++[n+29]).getD q 0=n+29:=by rw[List.getD,List.getElem?_append_right (by omega),hil,Nat.sub_self];rfl
    dsimp only
    rw[e2,hnx3];exact⟨_,bt⟩
   ·obtain⟨d,hd⟩:=hls q (by omega)
    have e2:(ids++[n+29]).getD q 0=ids.getD q 0:=by simp[List.getD,List.getElem?_append,show q<ids.length by omega]
    have:=hin _ (e9 (l:=ids) (q:=q) (by omega))
    dsimp only
    rw[e2];exact⟨d,Eq.trans bx hd⟩
 ·have:t=u.br.length:=by omega
  subst this
  rw[List.take_length] at r4
  rw[List.take_of_length_le (by omega)] at r5
  refine cz ?_
  rw[List.length_map]
  have hM:=Wk.wW (nx:=n+1+1+1+1+1) (H:=H) (cb:=nx+22) [(nx+42,some (.row 45 4 d4 (u.br.map bu.av)))] 2 .any r1' (fun x q hx=>by
   by_cases hb:x=nx+42
   ·subst hb;rw[cq] at hx;rw[<-hx];exact r4
   ·rw[cX hb] at hx;cases hx)
  rw[XR u _ _ _ _ _ _ _ _ _ _ _ _ (by omega) (by omega) (by omega) (by omega) (by omega)] at hM
  refine aT (fun j:Nat=>[(7, .pt (nx+22) 1 0 0),(83,cg u.shared),(84,i64 u.shared.length),(85,i64 j)])
   (fun j H n=>j<=u.shared.length/\nx+46<=n/\(∀x∈ids,nx+46<=x/\x<n)/\(∃d,bo H (nx+22)=some (.row 135 8 d [.agg [cg u.shared,cg u.cE,dS u.br, .sl (nx+16) u.br.length, .sl (nx+43) u.br.length, .sl (nx+44) j, .sl (nx+20) u.cE.length, .sl (nx+45) 0]]))/\(∃d,bo H (nx+16)=some (.row 3 1 d ((eC u).at_.map i64)))/\(∃d,bo H (nx+20)=some (.row 3 1 d (List.replicate u.cE.length (i64 0))))/\(∃d,bo H (nx+43)=some (.row 57 1 d (ef ids (eC u).bw)))/\(∃d,bo H (nx+44)=some (.row 2 1 d (((eC u).mem.take j).map i64)))/\(∃d,bo H (nx+45)=some (.row 102 2 d []))/\(∀t,t<u.br.length->∃d,bo H (ids.getD t 0)=some (.row 2 1 d (((eC u).bw.getD t []).map i64)))/\∀y,y<nx->bo H y=bo H0 y) (fun j=>u.shared.length - j) 0
   ⟨_,_,_,Rt.wk hM,cG,Nat.zero_le _,cU, ?_,⟨_,bt⟩,⟨_,bt⟩,⟨_,bt⟩,⟨_,bt⟩,⟨_,bt⟩,⟨_,bt⟩, ?_,fun y hy=>Eq.trans bx (hkp y hy)⟩ ?_
  ·exact fun x hx=>⟨(hin x hx).1,by have:=(hin x hx).2;exact cU⟩
  ·intro q hq
   obtain⟨d,hd⟩:=hls q hq
   have:=hin _ (e9 (l:=ids) (q:=q) (by omega))
   exact⟨d,Eq.trans bx hd⟩
  clear r0' r1' r2' r3' r4 r5 r6 r7 hls hkp hM hin hn
  rintro j H n ⟨hj,hn,hin,⟨d1,r1'⟩,⟨d2,r2'⟩,⟨d3,r3'⟩,⟨d5,r5⟩,⟨d6,r6⟩,⟨d7,r7⟩,hls,hkp⟩
  have hml:(eC u).mem.length=u.shared.length:=by simp[eC]
  have hmk:(((eC u).mem.take j).map i64).length=j:=by simp;omega
  by_cases hjl:j<u.shared.length
  ·have e0:∀d,(u.shared.map Decl.av).getD ((j:Int)).toNat d=(u.shared.getD j default).av:=fun d=>by rw[Int.toNat_natCast];exact dN Decl.av u.shared j d hjl
   have a0:(u.shared.map Decl.av).length=u.shared.length:=by simp
   have hnx1:((eC u).mem.take (j+1)).map i64=((eC u).mem.take j).map i64++[i64 (u.shared.getD j default).word]:=by
    rw[List.take_succ_eq_append_getElem (by omega),List.map_append]
    simp[eC,List.getD,hjl]
   refine cz ?_
   refine⟨j+1,by omega,_,_,_,Rt.refl _ _ _,cG,by omega,cU,fun x hx=>⟨(hin x hx).1,Nat.lt_of_lt_of_le (hin x hx).2 cU⟩,⟨_,bt⟩,⟨_,bt⟩,⟨_,bt⟩,⟨_,bt⟩,⟨_,by rw[hnx1];exact bt⟩,⟨_,bt⟩, ?_,fun y hy=>Eq.trans bx (hkp y hy)⟩
   intro q hq
   obtain⟨d,hd⟩:=hls q hq
   have:=hin _ (e9 (l:=ids) (q:=q) (by omega))
   exact⟨d,Eq.trans bx hd⟩
  ·have:j=u.shared.length:=by omega
   subst this
   rw[List.take_of_length_le (by omega)] at r6
   refine cz ?_
   refine aI (fun i:Nat=>[(7, .pt (nx+22) 1 0 0),(105,i64 u.cE.length),(106,i64 i)])
    (fun i H n=>i<=u.cE.length/\nx+46<=n/\(∀x∈ids,nx+46<=x/\x<n)/\(∃d,bo H (nx+22)=some (.row 135 8 d [.agg [cg u.shared,cg u.cE,dS u.br, .sl (nx+16) u.br.length, .sl (nx+43) u.br.length, .sl (nx+44) u.shared.length, .sl (nx+20) u.cE.length, .sl (nx+45) 0]]))/\(∃d,bo H (nx+16)=some (.row 3 1 d ((eC u).at_.map i64)))/\(∃d,bo H (nx+20)=some (.row 3 1 d (List.replicate i (i64 (-1))++List.replicate (u.cE.length - i) (i64 0))))/\(∃d,bo H (nx+43)=some (.row 57 1 d (ef ids (eC u).bw)))/\(∃d,bo H (nx+44)=some (.row 2 1 d ((eC u).mem.map i64)))/\(∃d,bo H (nx+45)=some (.row 102 2 d []))/\(∀t,t<u.br.length->∃d,bo H (ids.getD t 0)=some (.row 2 1 d (((eC u).bw.getD t []).map i64)))/\∀y,y<nx->bo H y=bo H0 y) (fun i=>u.cE.length - i) 0 cG
    ⟨Nat.zero_le _,cU,fun x hx=>⟨(hin x hx).1,Nat.lt_of_lt_of_le (hin x hx).2 cU⟩,⟨_,bt⟩,⟨_,bt⟩,⟨_,bt⟩,⟨_,bt⟩,⟨_,bt⟩,⟨_,bt⟩, ?_,fun y hy=>Eq.trans bx (hkp y hy)⟩ ?_
   ·intro q hq
    obtain⟨d,hd⟩:=hls q hq
    have:=hin _ (e9 (l:=ids) (q:=q) (by omega))
    exact⟨d,Eq.trans bx hd⟩
   clear r1' r2' r3' r5 r6 r7 hls hkp hin hn
   rintro i H n ⟨hi,hn,hin,⟨d1,r1'⟩,⟨d2,r2'⟩,⟨d3,r3'⟩,⟨d5,r5⟩,⟨d6,r6⟩,⟨d7,r7⟩,hls,hkp⟩
   have hrl2:(List.replicate i (i64 (-1))++List.replicate (u.cE.length - i) (i64 0)).length=u.cE.length:=by simp;omega
   by_cases hil2:i<u.cE.length
   ·have e1:∀d,(List.replicate i (i64 (-1))++List.replicate (u.cE.length - i) (i64 0)).getD ((i:Int)).toNat d=i64 0:=fun d=>by
     rw[Int.toNat_natCast]
     simp[List.getD,List.getElem?_append,List.getElem?_replicate,show 0<u.cE.length - i by omega]
    refine cz ?_
    refine⟨i+1,by omega,cG,by omega,cU,fun x hx=>⟨(hin x hx).1,Nat.lt_of_lt_of_le (hin x hx).2 cU⟩,⟨_,bt⟩,⟨_,bt⟩,⟨_,by rw[<-L9 _ _ _ _ hil2];exact bt⟩,⟨_,bt⟩,⟨_,bt⟩,⟨_,bt⟩, ?_,fun y hy=>Eq.trans bx (hkp y hy)⟩
    intro q hq
    obtain⟨d,hd⟩:=hls q hq
    have:=hin _ (e9 (l:=ids) (q:=q) (by omega))
    exact⟨d,Eq.trans bx hd⟩
   ·have:i=u.cE.length:=by omega
    subst this
    rw[Nat.sub_self,List.replicate_zero,List.append_nil] at r3'
    have hho:(eC u).hold.map i64=List.replicate u.cE.length (i64 (-1)):=by
     simp only[eC,List.map_map]
     rw[List.eq_replicate_iff]
     exact⟨by simp,fun b hb=>by obtain⟨g,_,rfl⟩:=List.mem_map.1 hb;rfl⟩
    refine cz ?_
    refine⟨⟨⟨nx+22,nx+16,nx+43,nx+44,nx+20,nx+45,ids⟩,rfl,⟨⟨d1, ?_⟩,⟨_,bt⟩,⟨_,bt⟩,fun t ht=> ?_,⟨_,bt⟩,⟨_,by rw[hho];exact bt⟩,⟨_,bt⟩,by rw[hnsl];exact hil, ?_⟩, ?_,cU,fun y hy=>Eq.trans bx (hkp y hy)⟩⟩
    ·rw[show(eC u).rows u (nx+16) (nx+43) (nx+44) (nx+20) (nx+45)= .agg [cg u.shared,cg u.cE,dS u.br, .sl (nx+16) u.br.length, .sl (nx+43) u.br.length, .sl (nx+44) u.shared.length, .sl (nx+20) u.cE.length, .sl (nx+45) 0] by simp[MS.rows,eC]]
     exact bt
    ·rw[hnsl] at ht
     obtain⟨d,hd⟩:=hls t ht
     have:=hin _ (e9 (l:=ids) (q:=t) (by omega))
     exact⟨d,Eq.trans bx hd⟩
    ·have hno:∀k,k<nx+46->k∉ids:=fun k hk h=>by have:=hin _ h;omega
     simp only[List.nodup_cons,List.mem_cons,not_or]
     exact⟨⟨by omega,by omega,by omega,by omega,by omega,hno _ (by omega)⟩,⟨by omega,by omega,by omega,by omega,hno _ (by omega)⟩,⟨by omega,by omega,by omega,hno _ (by omega)⟩,⟨by omega,by omega,hno _ (by omega)⟩,⟨by omega,hno _ (by omega)⟩,hno _ (by omega),hnd⟩
    ·intro x hx
     simp only[List.mem_cons] at hx
     rcases hx with rfl|rfl|rfl|rfl|rfl|rfl|hx
     all_goals first
      |exact⟨by omega,cU⟩
      |(have:=hin _ hx;exact⟨by omega,cU⟩)
end Go.Proofs.YtekfmjjmihomlaaGreatDoor
