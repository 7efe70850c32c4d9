import Derived.Test.YtekfmjjmihomlaaGreatM31
import Derived.Test.YtekfmjjmihomlaaGreatProg
import Derived.Test.YtekfmjjmihomlaaGreatM27
import Derived.Lib.Builder
import Derived.Lib.Walk
import Derived.Lib.UnsafeStr
import Derived.WalkKit
import Derived.Laws.Externs
import Derived.Test.YtekfmjjmihomlaaGreatM14
import Derived.Shelf.RegionOpenPlain
section
/- A step of the machine in rows. -/
namespace Go.Proofs.YtekfmjjmihomlaaGreat
open Go Go.cZ Go.Proofs
set_option linter.unusedSimpArgs false
set_option linter.unusedVariables false
set_option maxRecDepth 8000
def jv (k:Int):Nat:=if k=1 then 82 else if k=2 then 83 else if k=3 then 84 else if k=4 then 85 else if k=5 then 86 else if k=6 then 87 else if k=7 then 88 else 89
def q8:AV:= .agg [.sc .nilFunc, .fn (.func 82) [] [], .fn (.func 83) [] [], .fn (.func 84) [] [], .fn (.func 85) [] [], .fn (.func 86) [] [], .fn (.func 87) [] [], .fn (.func 88) [] [], .fn (.func 89) [] [], .sc .nilFunc]
theorem uO:Pure Tryz.prog 55 [] (fun r=>r=q8):=mO (by simp[q8,cE,cT]) (by kernel_rfl)
def q7 (m:MS) (t:Nat) (n:Node) (d:fJ):fJ:={ d with cH:=(m.act t n).2.2.1,word:=(m.act t n).2.2.2.1,put:=(m.act t n).2.2.2.2 }
structure AT (m:MS) (t:Nat) (n:Node):Prop where
 kind:1≤n.kind∧n.kind≤8
 slot:n.kind=1∨n.kind=2∨n.kind=4→0≤n.slot∧n.slot<(m.br.getD t []).length
 mem:n.kind=2∨n.kind=3∨n.kind=4→0≤n.cH∧n.cH<m.mem.length
 hold:n.kind=5∨n.kind=6→0≤n.cH∧n.cH<m.hold.length
 a:n.kind=1∨n.kind=3∨n.kind=4∨n.kind=7∨n.kind=8→jt m t n.a
 b:n.kind=1→dW n.op=true→jt m t n.b
 op:n.kind=1→0≤n.op∧n.op<19
theorem CD {v:iR} {g:Int} {m:MS} {t:Nat} (h:nS v true g=true) (hl:((m.br.getD t []).length:Int)=g):jt m t v:=by
 intro hs
 unfold nS at h
 rw[if_pos rfl,if_pos hs] at h
 simp only[Bool.and_eq_true,decide_eq_true_eq] at h
 omega
theorem eU.NG {u:bt} {m:MS} {t:Nat} (hu:u.Wf) (hr:dC u) (h:eU u m) (ht:t<u.bo.length) (hk:(m.node u t).kind≠9):AT m t (m.node u t):=by
 have hn:=h.node hr ht
 have hw:=B0 hu h ht
 have hsl:=h.yR t ht
 have hg:=(hr.gr ht).br
 have hg2:=(hr.gr ht).locals
 have hml:=h.ml
 have hhl:=h.hl
 generalize m.node u t=n at *
 have hkd:=hn.kind
 have hlen:(((m.br.getD t []).length:Nat):Int)=(u.gr t).br:=by rw[hsl];omega
 refine⟨by omega,fun e=> ?_,fun e=> ?_,fun e=> ?_,fun e=> ?_,fun e e2=> ?_,fun e=> ?_⟩
 ·have:=hn.slot.1 (by unfold iP;exact decide_eq_true (by omega));omega
 ·have:=hn.cH.1 (by unfold e8;exact decide_eq_true (by omega))
  rw[if_neg (by omega)] at this;omega
 ·have:=hn.cH.1 (by unfold e8;exact decide_eq_true (by omega))
  rw[if_pos (by omega)] at this;omega
 ·have:=hn.a
  rw[show ln n.kind=true by unfold ln;exact decide_eq_true (by omega)] at this
  exact CD this hlen
 ·have:=hn.b
  rw[e2,decide_eq_true e] at this
  exact CD this hlen
 ·exact⟨hw.op.1,hn.op.1 e⟩
section
variable {u:bt} {m:MS} {t:Nat} {n:Node} {d:fJ} {ab:Nat} {L:ML} {H:Hp} {nx:Nat}
theorem FA (h:sd u m t n d ab L H) (hlt:∀y∈ab::L.all,y<nx) (ht:t<m.br.length) (hl:m.br.length≤8) (ha:AT m t n) (hpl:m.bu.length≤1048576) (hd:d.cH=0∧d.word=0∧d.put=0):
 cP Tryz.prog (jv n.kind) [.pt ab 1 0 0] H nx (fun r H' k=>r=i64 (m.act t n).2.1∧sO u (m.act t n).1 t n (q7 m t n d) ab L H nx H' k):=by
 obtain⟨d1,d2,d3⟩:=hd
 have hk:n.kind=1∨n.kind=2∨n.kind=3∨n.kind=4∨n.kind=5∨n.kind=6∨n.kind=7∨n.kind=8:=by have:=ha.kind;omega
 obtain⟨t0,a0,k0,th,w0,p0⟩:=d
 dsimp only at d1 d2 d3
 subst d1 d2 d3
 have hop:=ha.op
 rcases hk with e|e|e|e|e|e|e|e
 ·have:=JR h hlt ht hl (ha.slot (by omega)) (ha.a (by omega)) (ha.b e) (hop e)
  simp only[jv,q7,MS.act,e];exact this
 ·have:=DX h hlt ht hl (ha.slot (by omega)) (ha.mem (by omega))
  simp only[jv,q7,MS.act,e];exact this
 ·have:=AL h hlt ht hl (ha.a (by omega)) (ha.mem (by omega))
  simp only[jv,q7,MS.act,e];exact this
 ·have:=ET h hlt ht hl (ha.a (by omega)) (ha.slot (by omega)) (ha.mem (by omega))
  simp only[jv,q7,MS.act,e];exact this
 ·have:=DY h hlt ht hl (ha.hold (by omega))
  simp only[jv,q7,MS.act,e];exact this
 ·have:=yJ h hlt ht hl (ha.hold (by omega))
  simp only[jv,q7,MS.act,e];exact this
 ·have:=zd h hlt ht hl (ha.a (by omega)) hpl
  simp only[jv,q7,MS.act,e];exact this
 ·have:=vj h hlt ht hl (ha.a (by omega))
  simp only[jv,q7,MS.act,e];exact this
end
abbrev oN (d:Nat) (o:dQ):gM:=⟨some d,none,o⟩
def xg:List gM:=[oN 50 (.mv (.t 0)),oN 51 (.O1 (.t 50)),oN 52 (.fa 3 (.t 51)),oN 53 (.ld false 1 (.t 52)),oN 54 (.mv (.t 1)),oN 55 (.call (.f 55) []),oN 56 (.mv (.t 8)),oN 57 (.O1 (.t 56)),oN 58 (.fa 2 (.t 57)),oN 59 (.fa 0 (.t 58)),oN 60 (.ld false 1 (.t 59)),oN 61 (.ix 1 false 10 (.t 55) (.t 60)),oN 62 (.mv (.t 8)),oN 63 (.call (.t 61) [.t 62])]
def SE:List (Nat×Nat):=[(2,5),(3,5),(5,8),(5,9),(5,10),(2,13),(3,13)]
def yK (L:ML) (m:MS) (t:Nat) (n:Node) (ab:Nat) (i:Nat):AV:=
 [.pt L.mr 1 0 0, .pt L.mr 1 0 0, .pt L.mr 1 0 3, .sl L.a m.at_.length,i64 t,q8, .pt ab 1 0 0, .pt ab 1 0 0, .pt ab 1 0 2, .pt ab 1 0 2,u8 n.kind, .fn (.func (jv n.kind)) [] [], .pt ab 1 0 0,i64 (m.act t n).2.1].getD i .any
structure P2 (u:bt) (m:MS) (t:Nat) (n:Node) (d:fJ) (ab:Nat) (L:ML) (H0:Hp) (lo:Nat) (D:Nat→Bool) (H:Hp) (nx:Nat):Prop where
 lw:lo≤nx
 same:∀y,y<lo→y≠ab→y∉L.all→bn H y=bn H0 y
 m0:D 13=false→sd u m t n d ab L H
 m1:D 13=true→sd u (m.act t n).1 t n (q7 m t n d) ab L H
section
variable {u:bt} {m:MS} {t:Nat} {n:Node} {d:fJ} {ab:Nat} {L:ML} {H0 H:Hp} {lo nx:Nat} {D:Nat→Bool}
theorem P2.look (h:P2 u m t n d ab L H0 lo D H nx) {i:Nat} (hi:i≠13) {nx':Nat} (hn:nx≤nx'):P2 u m t n d ab L H0 lo (fun k=>D k||k==i) H nx':=by
 have e:(13==i)=false:=by simpa using Ne.symm hi
 refine⟨Nat.le_trans h.lw hn,h.same, ?_, ?_⟩
 ·simp only[e,Bool.or_false];exact h.m0
 ·simp only[e,Bool.or_false];exact h.m1
theorem uN {u:bt} (m:MS) (t:Nat) (n:Node):(m.act t n).1.at_=m.at_:=by
 unfold MS.act
 repeat' split
 all_goals rfl
theorem CM {k:Int} (h:1≤k∧k≤8):([.sc .nilFunc, .fn (.func 82) [] [], .fn (.func 83) [] [], .fn (.func 84) [] [], .fn (.func 85) [] [], .fn (.func 86) [] [], .fn (.func 87) [] [], .fn (.func 88) [] [], .fn (.func 89) [] [], .sc .nilFunc]:List AV).getD k.toNat .any= .fn (.func (jv k)) [] []:=by
 have:k=1∨k=2∨k=3∨k=4∨k=5∨k=6∨k=7∨k=8:=by omega
 rcases this with rfl|rfl|rfl|rfl|rfl|rfl|rfl|rfl<;>rfl
set_option maxHeartbeats 2000000 in
theorem RA {fr0:Fr} (hlt:∀y∈ab::L.all,y<lo) (ht:t<m.br.length) (hl:m.br.length≤8) (ha:AT m t n) (hpl:m.bu.length≤1048576) (hd:d.cH=0∧d.word=0∧d.put=0)
 (h0:ca fr0 0= .pt L.mr 1 0 0) (h1:ca fr0 1=i64 t) (h8:ca fr0 8= .pt ab 1 0 0):
 CJ Tryz.prog xg SE (fun D fr H nx=>∃θ:Unit,RV xg D (yK L m t n ab) fr0 fr∧P2 u m t n d ab L H0 lo D H nx):=by
 refine CJ.of (Θ:=Unit) (fun _=>yK L m t n ab) (fun _=>P2 u m t n d ab L H0 lo) fr0 (by decide) ?_
 intro i gg θ D fr H nx hi hD hp hs hv hh
 have hk:i<14:=by have:=(List.getElem?_eq_some_iff.1 hi).1;simpa[xg] using this
 have q:∀(j:Nat) (g':gM) (t':Nat),xg[j]?=some g'→g'.dst=some t'→j<i→yj xg SE j i=true→ca fr t'=yK L m t n ab j:=fun j g' t' h1 h2 h3 h4=>hv.val j g' t' h1 (hp j h3 h4) h2
 have f0:ca fr 0= .pt L.mr 1 0 0:=(hv.gU 0 (by decide)).trans h0
 have f1:ca fr 1=i64 t:=(hv.gU 1 (by decide)).trans h1
 have f8:ca fr 8= .pt ab 1 0 0:=(hv.gU 8 (by decide)).trans h8
 have hlw:=hh.lw
 have row:∃d,(∃d2,bn H ab=some (.row 113 21 d2 [.agg (AC (.pt L.mr 1 0 0) t n d)])):=by
  cases h13:D 13 with
  |false=>exact⟨_,(hh.m0 h13).row⟩
  |true=>exact⟨_,(hh.m1 h13).row⟩
 have mrow:∃(m':MS),m'.at_.length=m.at_.length∧∃d2,bn H L.mr=some (.row 100 8 d2 [m'.rows u L.a L.s L.me L.ho L.pr]):=by
  cases h13:D 13 with
  |false=>exact⟨_,rfl,(hh.m0 h13).M.rM⟩
  |true=>exact⟨_,by rw[uN (u:=u)],(hh.m1 h13).M.rM⟩
 obtain⟨dx,d2,ra⟩:=row
 obtain⟨m',hm',d3,rm⟩:=mrow
 have cases:i=0∨i=1∨i=2∨i=3∨i=4∨i=5∨i=6∨i=7∨i=8∨i=9∨i=10∨i=11∨i=12∨i=13:=by omega
 rcases cases with rfl|rfl|rfl|rfl|rfl|rfl|rfl|rfl|rfl|rfl|rfl|rfl|rfl|rfl<;>(obtain rfl:_=gg:=by simpa[xg] using hi)
 ·exact dq.look (by simp) (r:= .pt L.mr 1 0 0) (by simp only[cD,ev];rw[f0]) ⟨θ,fun _ _=>rfl,rfl,hh.look (by decide) (Nat.le_succ _)⟩
 ·have p:=q 0 _ 50 rfl rfl (by decide) (by decide)
  exact dq.look (by simp) (r:= .pt L.mr 1 0 0) (by simp only[cD,ev];rw[p];rfl) ⟨θ,fun _ _=>rfl,rfl,hh.look (by decide) (Nat.le_succ _)⟩
 ·have p:=q 1 _ 51 rfl rfl (by decide) (by decide)
  exact dq.look (by simp) (r:= .pt L.mr 1 0 3) (by simp only[cD,ev];rw[p];simp[yK,rm]) ⟨θ,fun _ _=>rfl,rfl,hh.look (by decide) (Nat.le_succ _)⟩
 ·have p:=q 2 _ 52 rfl rfl (by decide) (by decide)
  exact dq.look (by simp) (r:= .sl L.a m.at_.length) (by simp only[cD,ev];rw[p];simp[yK,j8,rm,wT,MS.rows,hm']) ⟨θ,fun _ _=>rfl,rfl,hh.look (by decide) (Nat.le_succ _)⟩
 ·exact dq.look (by simp) (r:=i64 t) (by simp only[cD,ev];rw[f1]) ⟨θ,fun _ _=>rfl,rfl,hh.look (by decide) (Nat.le_succ _)⟩
 ·show cP Tryz.prog 55 ([]++[]++[]) H nx _
  refine uO.dM (by simp[cT]) ?_
  rintro r rfl
  exact⟨θ,fun _ _=>rfl,rfl,hh.look (by decide) (Nat.le_refl _)⟩
 ·exact dq.look (by simp) (r:= .pt ab 1 0 0) (by simp only[cD,ev];rw[f8]) ⟨θ,fun _ _=>rfl,rfl,hh.look (by decide) (Nat.le_succ _)⟩
 ·have p:=q 6 _ 56 rfl rfl (by decide) (by decide)
  exact dq.look (by simp) (r:= .pt ab 1 0 0) (by simp only[cD,ev];rw[p];rfl) ⟨θ,fun _ _=>rfl,rfl,hh.look (by decide) (Nat.le_succ _)⟩
 ·have p:=q 7 _ 57 rfl rfl (by decide) (by decide)
  exact dq.look (by simp) (r:= .pt ab 1 0 2) (by simp only[cD,ev];rw[p];simp[yK,ra]) ⟨θ,fun _ _=>rfl,rfl,hh.look (by decide) (Nat.le_succ _)⟩
 ·have p:=q 8 _ 58 rfl rfl (by decide) (by decide)
  exact dq.look (by simp) (r:= .pt ab 1 0 2) (by simp only[cD,ev];rw[p];simp[yK,ra]) ⟨θ,fun _ _=>rfl,rfl,hh.look (by decide) (Nat.le_succ _)⟩
 ·have p:=q 9 _ 59 rfl rfl (by decide) (by decide)
  exact dq.look (by simp) (r:=u8 n.kind) (by simp only[cD,ev];rw[p];simp[yK,j8,ra,wT,AC]) ⟨θ,fun _ _=>rfl,rfl,hh.look (by decide) (Nat.le_succ _)⟩
 ·have p:=q 5 _ 55 rfl rfl (by decide) (by decide)
  have p2:=q 10 _ 60 rfl rfl (by decide) (by decide)
  have hkk:=ha.kind
  refine dq.look (by simp) (r:= .fn (.func (jv n.kind)) [] []) ?_ ⟨θ,fun _ _=>rfl,rfl,hh.look (by decide) (Nat.le_succ _)⟩
  have p3:ca fr 55=q8:=p
  have p4:ca fr 60=u8 n.kind:=p2
  have ht:=CM hkk
  simp only[cD,ev,p3,p4,q8,Nat.mul_one,Bool.false_eq_true,if_false,if_true,List.length_cons,List.length_nil]
  rw[if_pos ⟨by omega,(show n.kind<10 by omega),trivial⟩,ht]
 ·exact dq.look (by simp) (r:= .pt ab 1 0 0) (by simp only[cD,ev];rw[f8]) ⟨θ,fun _ _=>rfl,rfl,hh.look (by decide) (Nat.le_succ _)⟩
 ·have p:=q 11 _ 61 rfl rfl (by decide) (by decide)
  have p2:=q 12 _ 62 rfl rfl (by decide) (by decide)
  show pQ Tryz.prog (ca fr 61) [ca fr 62] H nx _
  rw[p,p2]
  show cP Tryz.prog (jv n.kind) ([]++[.pt ab 1 0 0]++[]) H nx _
  refine(FA (hh.m0 hD) (fun y hy=>Nat.lt_of_lt_of_le (hlt y hy) hlw) ht hl ha hpl hd).mono ?_
  rintro r' H' n' ⟨rfl,hA,hn,hk2⟩
  exact⟨θ,fun _ _=>rfl,rfl,Nat.le_trans hlw hn,fun y h1 h2 h3=>(hk2 y (Nat.lt_of_lt_of_le h1 hlw) h2 h3).trans (hh.same y h1 h2 h3),fun hx=>by simp at hx,fun _=>hA⟩
end
end Go.Proofs.YtekfmjjmihomlaaGreat
end
section
/- A step of the machine in rows: the walk. -/
namespace Go.Proofs.YtekfmjjmihomlaaGreat
open Go Go.cZ Go.Proofs
set_option linter.unusedSimpArgs false
set_option linter.unusedVariables false
set_option maxRecDepth 8000
section
variable {u:bt} {m:MS} {t:Nat} {n:Node} {d:fJ} {L:ML} {H:Hp} {nx:Nat}
abbrev RZ:fJ:=⟨0,0,0,0,0,0⟩
theorem yk {fr0:Fr} {H0:Hp} {lo ab:Nat} {Q:QT} (hlt:∀y∈ab::L.all,y<lo) (ht:t<m.br.length) (htl:t<m.at_.length) (hl:m.br.length≤8) (ha:AT m t n) (hpl:m.bu.length≤1048576) (hd:d.cH=0∧d.word=0∧d.put=0)
 (h0:ca fr0 0= .pt L.mr 1 0 0) (h1:ca fr0 1=i64 t) (h8:ca fr0 8= .pt ab 1 0 0) (hA:sd u m t n d ab L H0)
 (hK:∀f1 H1 n1,ca f1 8= .pt ab 1 0 0→ca f1 4=ca fr0 4→sd u { (m.act t n).1 with at_:=m.at_.set t (m.act t n).2.1 } t n (q7 m t n d) ab L H1→lo≤n1→(∀y,y<lo→y≠ab→y∉L.all→bn H1 y=bn H0 y)→∃f',j7 f1 f'∧Go (Q .normal f' H1 n1)):
 fe Tryz.prog [⟨xg,SE⟩,⟨[oN 64 (.ia 1 none (.t 53) (.t 54))],[]⟩,⟨[⟨none,none, .st false 1 (.t 64) (.t 63)⟩],[]⟩] fr0 H0 lo Q:=by
 refine fe.Q9 (RA (u:=u) (d:=d) (H0:=H0) (lo:=lo) hlt ht hl ha hpl hd h0 h1 h8) ⟨(),⟨fun i g t' _ hL=>(by cases hL),fun t' _=>rfl⟩,⟨Nat.le_refl _,fun y _ _ _=>rfl,fun _=>hA,fun hx=>(by cases hx)⟩⟩ ?_
 intro D fr' H' n' hall ⟨_,hv,hh⟩
 have v:=fun(j:Nat) (g':gM) (t':Nat) (h1:xg[j]?=some g') (h2:g'.dst=some t') (h3:j<14)=>hv.val j g' t' h1 (hall j h3) h2
 have p53:ca fr' 53= .sl L.a m.at_.length:=v 3 _ 53 rfl rfl (by decide)
 have p54:ca fr' 54=i64 t:=v 4 _ 54 rfl rfl (by decide)
 have p63:ca fr' 63=i64 (m.act t n).2.1:=v 13 _ 63 rfl rfl (by decide)
 have p8:ca fr' 8= .pt ab 1 0 0:=(hv.gU 8 (by decide)).trans h8
 have p4:ca fr' 4=ca fr0 4:=hv.gU 4 (by decide)
 have hA2:=hh.m1 (hall 13 (by decide))
 have q1:(m.at_.map i64).length=m.at_.length:=by simp
 obtain⟨d3,r3⟩:=hA2.M.rA
 rw[uN (u:=u)] at r3
 have hlw:=hh.lw
 have hs:=hh.same
 have hout:=hA2.out
 have hsl2:(m.act t n).1.br.length=m.br.length:=by
  unfold MS.act
  repeat' split
  all_goals first|rfl|(simp only[MS.dc,List.length_set])
 have hmem:=hA2.M.mem
 show dq Tryz.prog n' fr' H' (.ia 1 none (.t 53) (.t 54)) (fun r H' nx'=>dq Tryz.prog nx' (fN fr' (some 64) r) H' (.st false 1 (.t 64) (.t 63)) (fun r2 H2 n2=>∃f',j7 (fN (fN fr' (some 64) r) none r2) f'∧Go (Q .normal f' H2 n2)))
 refine dq.look (op:= .ia 1 none (.t 53) (.t 54)) (r:= .pt L.a m.at_.length t 0) (fun f as2 h=>by cases h) ?_ ?_
 ·simp only[cD,ev]
  rw[p53,p54]
  simp only[E3,r3]
  rw[if_pos ⟨q1,trivial,by omega,by omega⟩]
  simp
 refine dq.act (op:= .st false 1 (.t 64) (.t 63)) (r:= .any) (u:=(L.a, .row 3 1 d3 ((m.at_.map i64).set t (i64 (m.act t n).2.1)))) (fun f as2 h=>by cases h) ?_ ?_
 ·have e1:ev (fN fr' (some 64) (.pt L.a m.at_.length t 0)) (.t 64)= .pt L.a m.at_.length t 0:=rfl
  have e2:ev (fN fr' (some 64) (.pt L.a m.at_.length t 0)) (.t 63)=i64 (m.act t n).2.1:=p63
  simp only[cD]
  rw[e1,e2]
  simp only[r3]
  rw[if_pos q1,show(m.at_.map i64).getD t d3=i64 (m.at_.getD t 0) from dB i64 m.at_ t d3 htl]
  rfl
 refine hK _ _ _ p8 p4 ⟨?_, ?_,hout⟩ (by omega) (fun y y1 y2 y3=> ?_)
 ·have:=hA2.M.CO (H':=(L.a,some (.row 3 1 d3 ((m.at_.map i64).set t (i64 (m.act t n).2.1))))::H') (t:=t) (by rw[hsl2];exact ht) t (m.act t n).2.1 ⟨d3,by rw[uN (u:=u)];exact bq⟩ (fun y hy hne=>cB)
  rw[uN (u:=u)] at this
  exact this
 ·obtain⟨d4,r4⟩:=hA2.row
  have:=dO hout (hmem L.a (by simp))
  exact⟨d4,bq⟩
 ·have:=dO y3 (hmem L.a (by simp))
  exact Eq.trans cB (hs y y1 y2 y3)
theorem PK (hM:L.At u m H) (t:Int) {H1:Hp} (h1:∀y∈L.all,bn H1 y=bn H y):[.pt L.mr 1 0 0,i64 t].map (cZ.dX H1 6)=[m.fz u,i64 t]:=by
 rw[List.map_cons,List.map_cons,List.map_nil,(hM.cS h1).zB 2,cx _ (show cE 0 (i64 t) by simp[cE])]
set_option maxHeartbeats 4000000 in
theorem EP (hu:u.Wf) (hr:dC u) (h:eU u m) (hM:L.At u m H) (hlt:∀y∈L.all,y<nx) (hpl:m.bu.length≤1048576) (ht:t<u.bo.length) (hb:m.mQ u t=0):
 cP Tryz.prog 23 [.pt L.mr 1 0 0,i64 t] H nx (fun r H' k=>r= .dV [(m.step u t).2.av,i64 0]∧L.At u (m.step u t).1 H'∧nx≤k∧∀y,y<nx→y∉L.all→bn H' y=bn H y):=by
 refine aQ G9 rfl ?_
 obtain⟨hk9,_⟩:=lN h ht hb
 have hgl:=hr.vO
 have hao:=h.NG hu hr ht hk9
 have hsl:m.br.length≤8:=by rw[h.sl];omega
 have hts:t<m.br.length:=by rw[h.sl];exact ht
 have hal:=h.nX
 obtain⟨p0,p1⟩:=h.gy t ht
 have hap:=apart hM hts
 have hmem:=hM.mem
 have km:=hlt L.mr (by simp)
 have ka:=hlt L.a (hmem _ (by simp))
 have hma:L.mr≠L.a:=hap.ne.1
 obtain⟨d1,r1⟩:=hM.rM
 obtain⟨d2,r2⟩:=hM.rA
 have e0:=fun d=>eX (l:=m.at_) (k:=t) (by omega) d
 have e1:=fun d=>lV (l:=u.bo) ht d
 obtain⟨j,hj⟩:∃j:Nat,m.at_.getD t 0=j:=⟨(m.at_.getD t 0).toNat,by omega⟩
 rw[hj] at e0 p1
 have hnd:m.node u t=(u.gr t).nd j:=by unfold MS.node;rw[hj,Int.toNat_natCast]
 rw[show u.bo.getD t default=u.gr t from rfl] at e1
 have e2:=fun d=>gG (l:=(u.gr t).nodes) (i:=j) (by omega) d
 rw[show(u.gr t).nodes.getD j default=m.node u t by rw[hnd]] at e2
 have hat:m.at_.getD t 0=(j:Int):=hj
 have q1:(m.at_.map i64).length=m.at_.length:=by simp
 have q2:(u.bo.map cA.av).length=u.bo.length:=by simp
 have q3:((u.gr t).nodes.map Node.av).length=(u.gr t).nodes.length:=by simp
 have hst:m.step u t=({ (m.act t (m.node u t)).1 with at_:=m.at_.set t (m.act t (m.node u t)).2.1 },⟨t,j,(m.node u t).kind,(m.act t (m.node u t)).2.2.1,(m.act t (m.node u t)).2.2.2.1,(m.act t (m.node u t)).2.2.2.2⟩):=by
  unfold MS.step;rw[hj]
 rw[hst]
 generalize m.node u t=n at *
 have c9:(0:Int)=0:=rfl
 refine KJ ?_
 refine aS (yY u hr m h t) (PK hM t ?_) (by simp[cT,cE,oy]) trivial ?_
 ·exact fun y hy=>by have:=hlt y hy;exact cB
 rw[hb]
 refine KJ ?_
 refine yk (u:=u) (m:=m) (t:=t) (n:=n) (d:=⟨t,j,n.kind,0,0,0⟩) (ab:=nx+30) (L:=L) ?_ hts (by omega) hsl hao hpl ⟨rfl,rfl,rfl⟩ rfl rfl rfl ⟨hM.cS ?_,⟨_,bq⟩, ?_⟩ ?_
 ·intro y hy
  rcases List.mem_cons.1 hy with rfl|hy
  ·exact c8
  ·have:=hlt y hy;exact c8
 ·intro y hy
  have:=hlt y hy;exact cB
 ·intro hy
  have:=hlt _ hy;omega
 intro f1 H1 n1 p8 p4 hA hn hs
 refine⟨[(8, .pt (nx+30) 1 0 0),(4, .pt nx 1 0 0)],⟨p8,p4,trivial⟩, ?_⟩
 obtain⟨d5,r5⟩:=hA.row
 have r6:bn H1 nx=some (.row 49 6 (fZ true [.int .i64 0, .int .i64 0, .int .u8 0, .int .i64 0, .int .i64 0, .int .i64 0]) [fZ true [.int .i64 0, .int .i64 0, .int .u8 0, .int .i64 0, .int .i64 0, .int .i64 0]]):=(hs nx c8 (by omega) (fun hy=>by have:=hlt _ hy;omega)).trans bq
 refine cV ?_
 refine⟨⟨rfl,hA.M.cS fun y hy=> ?_,c8,fun y y1 y2=> ?_⟩⟩
 ·have:=hlt y hy;exact cB
 ·exact Eq.trans cB ((hs y c8 (by omega) y2).trans cB)
end
end Go.Proofs.YtekfmjjmihomlaaGreat
end
section
/- A new machine. -/
namespace Go.Proofs.YtekfmjjmihomlaaGreat
open Go Go.cZ Go.Proofs
set_option linter.unusedSimpArgs false
set_option linter.unusedVariables false
set_option maxRecDepth 8000
theorem y0 {es:List AV} (hf:cT 0 es) (hl:es.length * 32≤140737488355328):cP Tryz.prog 52 [.im 3 .any es] [] 0 (fun r H _=>cZ.dX H 6 r= .sc (.slice none 0 0)∧es=[]∨cZ.dX H 6 r= .im 3 .any es):=by
 refine aQ HU rfl ?_
 cases es with
 |nil=>
  refine cV ?_
  refine⟨pO ?_,pO ?_⟩
  ·refine cV ?_
   exact⟨.inl ⟨rfl,rfl⟩⟩
  ·refine cV ?_
   exact⟨.inr rfl⟩
 |cons x t=>
  have a0:(x::t).length * 32≤iV:=hl
  simp only[List.length_cons] at hl
  refine cV ?_
  refine⟨.inr ((dF (e:=103) (sz:=3) (es:=x::t) bq (Nat.zero_add _).symm).trans ?_)⟩
  rw[cc _ hf]
theorem yb {es:List AV} (hf:cT 0 es) (hl:es.length * 96≤140737488355328):cP Tryz.prog 53 [.im 13 .any es] [] 0 (fun r H _=>cZ.dX H 6 r= .sc (.slice none 0 0)∧es=[]∨cZ.dX H 6 r= .im 13 .any es):=by
 refine aQ HV rfl ?_
 cases es with
 |nil=>
  refine cV ?_
  refine⟨pO ?_,pO ?_⟩
  ·refine cV ?_
   exact⟨.inl ⟨rfl,rfl⟩⟩
  ·refine cV ?_
   exact⟨.inr rfl⟩
 |cons x t=>
  have a0:(x::t).length * 96≤iV:=hl
  simp only[List.length_cons] at hl
  refine cV ?_
  refine⟨.inr ((dF (e:=109) (sz:=13) (es:=x::t) bq (Nat.zero_add _).symm).trans ?_)⟩
  rw[cc _ hf]
theorem nk (l:List Decl) (hl:l.length * 32≤140737488355328):Pure Tryz.prog 52 [bw l] (fun r=>r=bw l):=
 mK (by simp[cE,cC]) (y0 ((cC _ _).2 fun _ _=>by simp[cE]) (by rw[List.length_map];exact hl))
theorem uY (l:List Node) (hl:l.length * 96≤140737488355328):Pure Tryz.prog 53 [oO l] (fun r=>r=oO l):=
 mK (by simp[cE,cC]) (yb ((cC _ _).2 fun _ _=>by simp[cE]) (by rw[List.length_map];exact hl))
theorem L8 (u:bt) (hu:u.Wf) (hr:¬dC u):Pure Tryz.prog 21 [u.av] (fun r=>r= .dV [.sc (.pointer none),i64 60]):=by
 have c0:=qm u hu
 have hb:=ql hr
 generalize fg u=ck at *
 obtain⟨x,y,z⟩:=ck
 dsimp only at hb
 subst hb
 refine aI DQ rfl ?_
 refine cV ?_
 first|exact rfl|trivial
theorem F4 {α:Type} (a b:α) (n i:Nat) (h:i<n):(List.replicate i a++List.replicate (n - i) b).set i a=List.replicate (i+1) a++List.replicate (n - (i+1)) b:=by
 rw[show n - i=(n - (i+1))+1 by omega,List.replicate_succ,List.set_append_right _ _ (by simp),List.length_replicate,Nat.sub_self,List.set_cons_zero,List.replicate_succ',List.append_assoc]
 rfl
theorem QL (u:bt) (G A S ME HO PR:Nat) (d:AV) (n1 n2 n3 n4 n5:Nat) (h1:A≠G) (h2:S≠G) (h3:ME≠G) (h4:HO≠G) (h5:PR≠G):
 ([.agg [bw u.shared,bw u.bx, .sl G u.bo.length, .sl A n1, .sl S n2, .sl ME n3, .sl HO n4, .sl PR n5]]:List AV).map (Go.cZ.nY [(G,some (.row 64 4 d (u.bo.map cA.av)))] 2)=[.agg [bw u.shared,bw u.bx,cR u.bo, .sl A n1, .sl S n2, .sl ME n3, .sl HO n4, .sl PR n5]]:=by
 simp[Go.cZ.nY,LI,bn,h1,h2,h3,h4,h5,oF]
set_option maxHeartbeats 4000000 in
theorem xe (u:bt) (hu:u.Wf) (hr:dC u) (H0:Hp) (nx:Nat):cP Tryz.prog 21 [u.av] H0 nx (fun r H n=>∃L:ML,r= .dV [.pt L.mr 1 0 0,i64 0]∧L.At u (dA u) H∧(∀x∈L.all,nx≤x∧x<n)∧nx≤n∧∀y,y<nx→bn H y=bn H0 y):=by
 have c0:=qm u hu
 rw[ly.2 hr] at c0
 have hgl:=hr.vO
 have hw1:=hu.jJ
 have hw2:=hu.kH
 have c1:=nk u.shared (by omega)
 have c2:=nk u.bx (by omega)
 refine aQ DQ rfl ?_
 refine cV ?_
 simp only[List.length_map,Int.toNat_natCast]
 have hsz:∀t,t<u.bo.length→0≤(u.gr t).br∧(u.gr t).br≤4160:=fun t ht=>by
  have h1:=(hr.gr ht).br
  have h2:=(hr.gr ht).locals
  omega
 have hnl:∀t,t<u.bo.length→(u.gr t).nodes.length * 96≤140737488355328:=fun t ht=>by
  have:=(hr.gr ht).len
  omega
 have hat0:(dA u).at_.map i64=List.replicate u.bo.length (i64 0):=by
  simp only[dA,List.map_map]
  rw[List.eq_replicate_iff]
  exact⟨by simp,fun b hb=>by obtain⟨g,_,rfl⟩:=List.mem_map.1 hb;rfl⟩
 have hnsl:(dA u).br.length=u.bo.length:=by simp[dA]
 have hns:∀t,t<u.bo.length→(dA u).br.getD t []=List.replicate (u.gr t).br.toNat 0:=fun t ht=>by simp[dA,List.getD,bt.gr,ht]
 refine aU (fun σ:Nat×List Nat=>[(1, .pt nx 1 0 0),(7, .pt (nx+22) 1 0 0),(47,cR u.bo),(48,i64 u.bo.length),(49,i64 σ.1)])
  (fun σ H n=>σ.1≤u.bo.length∧nx+46≤n∧σ.2.length=σ.1∧σ.2.Nodup∧(∀x∈σ.2,nx+46≤x∧x<n)∧(∃d,bn H nx=some (.row 25 3 d [u.av]))∧(∃d,bn H (nx+22)=some (.row 100 8 d [.agg [bw u.shared,bw u.bx, .sl (nx+42) σ.1, .sl (nx+16) u.bo.length, .sl (nx+43) σ.1, .sl (nx+44) 0, .sl (nx+20) u.bx.length, .sl (nx+45) 0]]))∧(∃d,bn H (nx+16)=some (.row 3 1 d ((dA u).at_.map i64)))∧(∃d,bn H (nx+20)=some (.row 3 1 d (List.replicate u.bx.length (i64 0))))∧(∃d,bn H (nx+42)=some (.row 64 4 d ((u.bo.take σ.1).map cA.av)))∧(∃d,bn H (nx+43)=some (.row 38 1 d (dG σ.2 ((dA u).br.take σ.1))))∧(∃d,bn H (nx+44)=some (.row 2 1 d []))∧(∃d,bn H (nx+45)=some (.row 89 2 d []))∧(∀t,t<σ.1→∃d,bn H (σ.2.getD t 0)=some (.row 2 1 d (((dA u).br.getD t []).map i64)))∧∀y,y<nx→bn H y=bn H0 y) (fun σ=>u.bo.length - σ.1) (0,[])
  ⟨_,_,_,Rt.trans (Rt.wk (Wk.fX (b:=nx+22) (nx:=nx+42) (e:=64) (sz:=4) c8 (by omega) (te:=100) (tz:=8) (cs:=[bw u.shared,bw u.bx, .sc (.slice none 0 0), .sl (nx+16) u.bo.length, .sc (.slice none 0 0), .sc (.slice none 0 0), .sl (nx+20) u.bx.length, .sc (.slice none 0 0)]) (j:=2) bq (by show 2<8;omega) rfl)) (Rt.trans (Rt.wk (Wk.fX (b:=nx+22) (nx:=nx+43) (e:=38) (sz:=1) c8 (by omega) (te:=100) (tz:=8) (cs:=[bw u.shared,bw u.bx, .sl (nx+42) 0, .sl (nx+16) u.bo.length, .sc (.slice none 0 0), .sc (.slice none 0 0), .sl (nx+20) u.bx.length, .sc (.slice none 0 0)]) (j:=4) bq (by show 4<8;omega) rfl)) (Rt.trans (Rt.wk (Wk.fX (b:=nx+22) (nx:=nx+44) (e:=2) (sz:=1) c8 (by omega) (te:=100) (tz:=8) (cs:=[bw u.shared,bw u.bx, .sl (nx+42) 0, .sl (nx+16) u.bo.length, .sl (nx+43) 0, .sc (.slice none 0 0), .sl (nx+20) u.bx.length, .sc (.slice none 0 0)]) (j:=5) bq (by show 5<8;omega) rfl)) (Rt.wk (Wk.fX (b:=nx+22) (nx:=nx+45) (e:=89) (sz:=2) c8 (by omega) (te:=100) (tz:=8) (cs:=[bw u.shared,bw u.bx, .sl (nx+42) 0, .sl (nx+16) u.bo.length, .sl (nx+43) 0, .sl (nx+44) 0, .sl (nx+20) u.bx.length, .sc (.slice none 0 0)]) (j:=7) bq (by show 7<8;omega) rfl)))),
   cI,Nat.zero_le _,c8,rfl,List.nodup_nil,fun x hx=>by simp at hx,⟨_,bq⟩,⟨_,bq⟩,⟨_,by rw[hat0];exact bq⟩,⟨_,bq⟩,⟨_,bq⟩,⟨_,bq⟩,⟨_,bq⟩,⟨_,bq⟩,fun t ht=>absurd ht (Nat.not_lt_zero _),fun y hy=>cB⟩ ?_
 rintro⟨t,ids⟩ H n ⟨ht,hn,hil,hnd,hin,⟨d0,r0'⟩,⟨d1,r1'⟩,⟨d2,r2'⟩,⟨d3,r3'⟩,⟨d4,r4⟩,⟨d5,r5⟩,⟨d6,r6⟩,⟨d7,r7⟩,hls,hkp⟩
 dsimp only at ht hil hnd hin r0' r1' r4 r5 hls ⊢
 have hgk:((u.bo.take t).map cA.av).length=t:=by simp;omega
 have htk:((dA u).br.take t).length=t:=by rw[List.length_take];omega
 have hrl:(dG ids ((dA u).br.take t)).length=t:=by unfold dG;rw[List.length_map,List.length_zip,htk,hil];omega
 by_cases htl:t<u.bo.length
 ·have e0:=fun d=>lV (l:=u.bo) htl d
  rw[show u.bo.getD t default=u.gr t from rfl] at e0
  have a0:(u.bo.map cA.av).length=u.bo.length:=by simp
  have c3:=uY (u.gr t).nodes (hnl t htl)
  obtain⟨s1,s2⟩:=hsz t htl
  have hnx1:(u.bo.take (t+1)).map cA.av=(u.bo.take t).map cA.av++[(u.gr t).av]:=by
   rw[List.take_succ_eq_append_getElem htl,List.map_append,show u.gr t=u.bo[t] by simp[bt.gr,List.getD,htl]];rfl
  have hnx2:dG (ids++[n+29]) ((dA u).br.take (t+1))=dG ids ((dA u).br.take t)++[.sl (n+29) (u.gr t).br.toNat]:=by
   have e:=hns t htl
   rw[List.take_succ_eq_append_getElem (by omega),mP (by rw[hil,htk]),show(dA u).br[t]'(by omega)=List.replicate (u.gr t).br.toNat 0 by rw[←e];simp[List.getD,show t<(dA u).br.length by omega]]
   simp
  have hnx3:((dA u).br.getD t []).map i64=List.replicate (u.gr t).br.toNat (i64 0):=by rw[hns t htl];simp
  refine cV ?_
  refine⟨(t+1,ids++[n+29]),by dsimp only;omega,_,_,_,Rt.refl _ _ _,cI,by dsimp only;omega,c8,by simp[hil], ?_, ?_,⟨_,bq⟩,⟨_,bq⟩,⟨_,bq⟩,⟨_,bq⟩,⟨_,by dsimp only;rw[hnx1];exact bq⟩,⟨_,by dsimp only;rw[hnx2];exact bq⟩,⟨_,bq⟩,⟨_,bq⟩, ?_,fun y hy=>Eq.trans cB (hkp y hy)⟩
  ·refine List.nodup_append.2 ⟨hnd,by simp,fun a ha b hb=> ?_⟩
   simp only[List.mem_cons,List.not_mem_nil,or_false] at hb
   have:=hin _ ha;omega
  ·intro x hx
   rcases List.mem_append.1 hx with hx|hx
   ·have:=hin _ hx;exact⟨this.1,Nat.lt_of_lt_of_le this.2 c8⟩
   ·simp only[List.mem_cons,List.not_mem_nil,or_false] at hx
    subst hx;exact⟨by omega,c8⟩
  ·intro q hq
   have hq:q<t+1:=hq
   by_cases e:q=t
   ·subst e
    have e2:(ids++[n+29]).getD q 0=n+29:=by rw[List.getD,List.getElem?_append_right (by omega),hil,Nat.sub_self];rfl
    dsimp only
    rw[e2,hnx3];exact⟨_,bq⟩
   ·obtain⟨d,hd⟩:=hls q (by omega)
    have e2:(ids++[n+29]).getD q 0=ids.getD q 0:=by simp[List.getD,List.getElem?_append,show q<ids.length by omega]
    have:=hin _ (dN (l:=ids) (q:=q) (by omega))
    dsimp only
    rw[e2];exact⟨d,Eq.trans cB hd⟩
 ·have:t=u.bo.length:=by omega
  subst this
  rw[List.take_length] at r4
  rw[List.take_of_length_le (by omega)] at r5
  refine cV ?_
  rw[List.length_map]
  have hM:=Wk.nY (nx:=n+1+1+1+1+1) (H:=H) (cb:=nx+22) [(nx+42,some (.row 64 4 d4 (u.bo.map cA.av)))] 2 .any r1' (fun x q hx=>by
   by_cases hb:x=nx+42
   ·subst hb;rw[cO] at hx;rw[←hx];exact r4
   ·rw[cG hb] at hx;cases hx)
  rw[QL u _ _ _ _ _ _ _ _ _ _ _ _ (by omega) (by omega) (by omega) (by omega) (by omega)] at hM
  refine aU (fun j:Nat=>[(7, .pt (nx+22) 1 0 0),(83,bw u.shared),(84,i64 u.shared.length),(85,i64 j)])
   (fun j H n=>j≤u.shared.length∧nx+46≤n∧(∀x∈ids,nx+46≤x∧x<n)∧(∃d,bn H (nx+22)=some (.row 100 8 d [.agg [bw u.shared,bw u.bx,cR u.bo, .sl (nx+16) u.bo.length, .sl (nx+43) u.bo.length, .sl (nx+44) j, .sl (nx+20) u.bx.length, .sl (nx+45) 0]]))∧(∃d,bn H (nx+16)=some (.row 3 1 d ((dA u).at_.map i64)))∧(∃d,bn H (nx+20)=some (.row 3 1 d (List.replicate u.bx.length (i64 0))))∧(∃d,bn H (nx+43)=some (.row 38 1 d (dG ids (dA u).br)))∧(∃d,bn H (nx+44)=some (.row 2 1 d (((dA u).mem.take j).map i64)))∧(∃d,bn H (nx+45)=some (.row 89 2 d []))∧(∀t,t<u.bo.length→∃d,bn H (ids.getD t 0)=some (.row 2 1 d (((dA u).br.getD t []).map i64)))∧∀y,y<nx→bn H y=bn H0 y) (fun j=>u.shared.length - j) 0
   ⟨_,_,_,Rt.wk hM,cI,Nat.zero_le _,c8, ?_,⟨_,bq⟩,⟨_,bq⟩,⟨_,bq⟩,⟨_,bq⟩,⟨_,bq⟩,⟨_,bq⟩, ?_,fun y hy=>Eq.trans cB (hkp y hy)⟩ ?_
  ·exact fun x hx=>⟨(hin x hx).1,by have:=(hin x hx).2;exact c8⟩
  ·intro q hq
   obtain⟨d,hd⟩:=hls q hq
   have:=hin _ (dN (l:=ids) (q:=q) (by omega))
   exact⟨d,Eq.trans cB hd⟩
  clear r0' r1' r2' r3' r4 r5 r6 r7 hls hkp hM hin hn
  rintro j H n ⟨hj,hn,hin,⟨d1,r1'⟩,⟨d2,r2'⟩,⟨d3,r3'⟩,⟨d5,r5⟩,⟨d6,r6⟩,⟨d7,r7⟩,hls,hkp⟩
  have hml:(dA u).mem.length=u.shared.length:=by simp[dA]
  have hmk:(((dA u).mem.take j).map i64).length=j:=by simp;omega
  by_cases hjl:j<u.shared.length
  ·have e0:∀d,(u.shared.map Decl.av).getD ((j:Int)).toNat d=(u.shared.getD j default).av:=fun d=>by rw[Int.toNat_natCast];exact dB Decl.av u.shared j d hjl
   have a0:(u.shared.map Decl.av).length=u.shared.length:=by simp
   have hnx1:((dA u).mem.take (j+1)).map i64=((dA u).mem.take j).map i64++[i64 (u.shared.getD j default).word]:=by
    rw[List.take_succ_eq_append_getElem (by omega),List.map_append]
    simp[dA,List.getD,hjl]
   refine cV ?_
   refine⟨j+1,by omega,_,_,_,Rt.refl _ _ _,cI,by omega,c8,fun x hx=>⟨(hin x hx).1,Nat.lt_of_lt_of_le (hin x hx).2 c8⟩,⟨_,bq⟩,⟨_,bq⟩,⟨_,bq⟩,⟨_,bq⟩,⟨_,by rw[hnx1];exact bq⟩,⟨_,bq⟩, ?_,fun y hy=>Eq.trans cB (hkp y hy)⟩
   intro q hq
   obtain⟨d,hd⟩:=hls q hq
   have:=hin _ (dN (l:=ids) (q:=q) (by omega))
   exact⟨d,Eq.trans cB hd⟩
  ·have:j=u.shared.length:=by omega
   subst this
   rw[List.take_of_length_le (by omega)] at r6
   refine cV ?_
   refine aP (fun i:Nat=>[(7, .pt (nx+22) 1 0 0),(105,i64 u.bx.length),(106,i64 i)])
    (fun i H n=>i≤u.bx.length∧nx+46≤n∧(∀x∈ids,nx+46≤x∧x<n)∧(∃d,bn H (nx+22)=some (.row 100 8 d [.agg [bw u.shared,bw u.bx,cR u.bo, .sl (nx+16) u.bo.length, .sl (nx+43) u.bo.length, .sl (nx+44) u.shared.length, .sl (nx+20) u.bx.length, .sl (nx+45) 0]]))∧(∃d,bn H (nx+16)=some (.row 3 1 d ((dA u).at_.map i64)))∧(∃d,bn H (nx+20)=some (.row 3 1 d (List.replicate i (i64 (-1))++List.replicate (u.bx.length - i) (i64 0))))∧(∃d,bn H (nx+43)=some (.row 38 1 d (dG ids (dA u).br)))∧(∃d,bn H (nx+44)=some (.row 2 1 d ((dA u).mem.map i64)))∧(∃d,bn H (nx+45)=some (.row 89 2 d []))∧(∀t,t<u.bo.length→∃d,bn H (ids.getD t 0)=some (.row 2 1 d (((dA u).br.getD t []).map i64)))∧∀y,y<nx→bn H y=bn H0 y) (fun i=>u.bx.length - i) 0 cI
    ⟨Nat.zero_le _,c8,fun x hx=>⟨(hin x hx).1,Nat.lt_of_lt_of_le (hin x hx).2 c8⟩,⟨_,bq⟩,⟨_,bq⟩,⟨_,bq⟩,⟨_,bq⟩,⟨_,bq⟩,⟨_,bq⟩, ?_,fun y hy=>Eq.trans cB (hkp y hy)⟩ ?_
   ·intro q hq
    obtain⟨d,hd⟩:=hls q hq
    have:=hin _ (dN (l:=ids) (q:=q) (by omega))
    exact⟨d,Eq.trans cB hd⟩
   clear r1' r2' r3' r5 r6 r7 hls hkp hin hn
   rintro i H n ⟨hi,hn,hin,⟨d1,r1'⟩,⟨d2,r2'⟩,⟨d3,r3'⟩,⟨d5,r5⟩,⟨d6,r6⟩,⟨d7,r7⟩,hls,hkp⟩
   have hrl2:(List.replicate i (i64 (-1))++List.replicate (u.bx.length - i) (i64 0)).length=u.bx.length:=by simp;omega
   by_cases hil2:i<u.bx.length
   ·have e1:∀d,(List.replicate i (i64 (-1))++List.replicate (u.bx.length - i) (i64 0)).getD ((i:Int)).toNat d=i64 0:=fun d=>by
     rw[Int.toNat_natCast]
     simp[List.getD,List.getElem?_append,List.getElem?_replicate,show 0<u.bx.length - i by omega]
    refine cV ?_
    refine⟨i+1,by omega,cI,by omega,c8,fun x hx=>⟨(hin x hx).1,Nat.lt_of_lt_of_le (hin x hx).2 c8⟩,⟨_,bq⟩,⟨_,bq⟩,⟨_,by rw[←F4 _ _ _ _ hil2];exact bq⟩,⟨_,bq⟩,⟨_,bq⟩,⟨_,bq⟩, ?_,fun y hy=>Eq.trans cB (hkp y hy)⟩
    intro q hq
    obtain⟨d,hd⟩:=hls q hq
    have:=hin _ (dN (l:=ids) (q:=q) (by omega))
    exact⟨d,Eq.trans cB hd⟩
   ·have:i=u.bx.length:=by omega
    subst this
    rw[Nat.sub_self,List.replicate_zero,List.append_nil] at r3'
    have hho:(dA u).hold.map i64=List.replicate u.bx.length (i64 (-1)):=by
     simp only[dA,List.map_map]
     rw[List.eq_replicate_iff]
     exact⟨by simp,fun b hb=>by obtain⟨g,_,rfl⟩:=List.mem_map.1 hb;rfl⟩
    refine cV ?_
    refine⟨⟨⟨nx+22,nx+16,nx+43,nx+44,nx+20,nx+45,ids⟩,rfl,⟨⟨d1, ?_⟩,⟨_,bq⟩,⟨_,bq⟩,fun t ht=> ?_,⟨_,bq⟩,⟨_,by rw[hho];exact bq⟩,⟨_,bq⟩,by rw[hnsl];exact hil, ?_⟩, ?_,c8,fun y hy=>Eq.trans cB (hkp y hy)⟩⟩
    ·rw[show(dA u).rows u (nx+16) (nx+43) (nx+44) (nx+20) (nx+45)= .agg [bw u.shared,bw u.bx,cR u.bo, .sl (nx+16) u.bo.length, .sl (nx+43) u.bo.length, .sl (nx+44) u.shared.length, .sl (nx+20) u.bx.length, .sl (nx+45) 0] by simp[MS.rows,dA]]
     exact bq
    ·rw[hnsl] at ht
     obtain⟨d,hd⟩:=hls t ht
     have:=hin _ (dN (l:=ids) (q:=t) (by omega))
     exact⟨d,Eq.trans cB hd⟩
    ·have hno:∀k,k<nx+46→k∉ids:=fun k hk h=>by have:=hin _ h;omega
     simp only[List.nodup_cons,List.mem_cons,not_or]
     exact⟨⟨by omega,by omega,by omega,by omega,by omega,hno _ (by omega)⟩,⟨by omega,by omega,by omega,by omega,hno _ (by omega)⟩,⟨by omega,by omega,by omega,hno _ (by omega)⟩,⟨by omega,by omega,hno _ (by omega)⟩,⟨by omega,hno _ (by omega)⟩,hno _ (by omega),hnd⟩
    ·intro x hx
     simp only[List.mem_cons] at hx
     rcases hx with rfl|rfl|rfl|rfl|rfl|rfl|hx
     all_goals first
      |exact⟨by omega,c8⟩
      |(have:=hin _ hx;exact⟨by omega,c8⟩)
end Go.Proofs.YtekfmjjmihomlaaGreat
end
section
/- The library's text builder: its own walks. -/
namespace Go.Proofs.YtekfmjjmihomlaaGreat
open Go Go.Proofs Go.RowKit
set_option linter.unusedVariables false
set_option linter.unusedSimpArgs false
set_option maxHeartbeats 1000000 in
set_option maxRecDepth 100000 in
theorem yi (b:Nat) (w:World) (h0:w.cell? ⟨b,0,none⟩=some (.pointer none)) (hsh:w.shape? b=some (149,2)) (hfz:w.frozen? ⟨b,0,none⟩=false):
 Calls Tryz.prog 127 #[.pointer (some ⟨b,0,none⟩)] w fun e w'=>e= .returned (.tuple #[])∧w'=w.setCell ⟨b,0,none⟩ (.pointer (some ⟨b,0,none⟩)):=by
 obtain⟨j,hj,hjs⟩:=Option.map_eq_some_iff.1 (show(Tryz.prog.info? 149).map (·.size)=some 2 by kernel_rfl)
 have t70:=Tryz.underlying146
 have t164:=Tryz.underlying212
 go_enter Tryz.func127,Tryz.ntmps127
 go_wp2
 rw[Lib.run_to_unsafe w ⟨b,0,none⟩ t70 t164 hj (by rw[hjs];decide) hsh (Nat.zero_lt_succ 1)]
 simp only[Result.andThen]
 rw[Oper.upon_value]
 go_wp2
 rw[run_callFunc_extern Tryz.func148 (by kernel_rfl) (by kernel_rfl) (by kernel_rfl) (e:=Extern.AbiNoEscape.same) (by kernel_rfl)]
 rw[Lib.run_noEscape]
 simp only[Result.andThen]
 rw[Oper.upon_value]
 go_wp2
 rw[Lib.run_from_unsafe w ⟨b,0,none⟩ t164 t70 hj hsh (show liesAt Tryz.prog Tryz.prog.depth 149 (2 /Tryz.prog.cellsOf 149) 0 149 1=true by kernel_rfl)]
 simp only[Result.andThen]
 rw[Oper.upon_value]
 go_wp2
 go_end0
 exact⟨rfl,rfl⟩
set_option maxHeartbeats 1000000 in
set_option maxRecDepth 100000 in
theorem CX (b:Nat) (w:World) (h0:w.cell? ⟨b,0,none⟩=some (.pointer (some ⟨b,0,none⟩))):
 Calls Tryz.prog 127 #[.pointer (some ⟨b,0,none⟩)] w fun e w'=>e= .returned (.tuple #[])∧w'=w:=by
 obtain⟨j,hj,_⟩:=Option.map_eq_some_iff.1 (show(Tryz.prog.info? 149).map (·.size)=some 2 by kernel_rfl)
 go_enter Tryz.func127,Tryz.ntmps127
 go_wp2
 rw[Lib.run_neq_ptr_same w _ Tryz.underlying146 hj]
 go_wp2
 go_end0
 exact⟨rfl,rfl⟩
end Go.Proofs.YtekfmjjmihomlaaGreat
end
section
/- The library's text builder, in rows. -/
namespace Go.Proofs.YtekfmjjmihomlaaGreat
open Go Go.cZ Go.Proofs Go.RowKit
set_option linter.unusedVariables false
set_option linter.unusedSimpArgs false
theorem alone {w0:World} {c:Cx} (hS:dn w0 c) {b:Nat} {e:TypeId} {sz:Nat} {d x:AV} (hb:c.H b=some (.row e sz d [x])) (he:e∈XT) (hs:1<sz) (hq:c.ρ b≠none):
 ∃blk arr v,c.ρ b=some (blk,0,sz)∧w0.heap.size≤blk∧c.w.heap[blk]?=some (.cells arr e (0,0))∧arr.size=sz∧At c.w blk 0 sz v∧VR c x v:=by
 obtain⟨h1,h2,h3⟩:=hS.xu b _ _ _ _ hb (by omega)
 rcases h3 with⟨h4,_⟩|⟨blk,o,z,g1,g2,⟨arr,g3,g4,g5⟩,g6,g7⟩
 ·exact absurd h4 hq
 ·obtain⟨rfl,g8⟩:=g5 he
  have g9:arr.size=sz:=by rcases g8 with g8|g8<;>omega
  obtain⟨v,g10,g11⟩:=du g7 0 (by simp)
  simp only[List.length_cons,List.length_nil] at g6
  obtain rfl:z=sz:=by omega
  refine⟨blk,arr,v,g1,g2,g3,g9,by simpa using g10,by simpa using g11⟩
theorem JB {c:Cx} {b i:Nat} {e:TypeId} {sz:Nat} {d x:AV} {v:Value} (hb:c.H b=some (.row e sz d [x])) (hv:VR c (.pt b 1 0 0) v):c.U b∧∃blk o z,c.ρ b=some (blk,o,z)∧v= .pointer (some ⟨blk,o,none⟩):=by
 rw[VR] at hv
 obtain⟨hU0,_,ad,rfl,hrow⟩:=hv
 obtain⟨_,h⟩:=hrow _ _ _ _ hb
 obtain⟨_,blk,o,z,hρ,rfl⟩:=h rfl
 exact⟨hU0,blk,o,z,hρ,by simp⟩
theorem lz {b nx:Nat} {H:Hp} {d A S:AV} (hb:bn H b=some (.row 149 2 d [.agg [A,S]])) (hA:A= .sc (.pointer none)∨A= .pt b 1 0 0):
 cP Tryz.prog 127 [.pt b 1 0 0] H nx (fun r H2 n2=>r= .dV []∧H2=(b,some (.row 149 2 d [.agg [.pt b 1 0 0,S]]))::H∧n2=nx):=by
 refine⟨⟨_,Tryz.func127,by kernel_rfl,by kernel_rfl⟩,fun w0 c vs hS hH hU hv=> ?_⟩
 rw[cd] at hv
 obtain⟨v,vs',rfl,hv,hv'⟩:=hv
 rw[cd] at hv'
 subst hv'
 have hb':=hb
 rw[←hH] at hb'
 have hv0:=hv
 obtain⟨hU0,blk,o,z,hρ,rfl⟩:=JB (i:=0) hb' hv
 obtain⟨blk',arr,u,hρ',hlow,harr,hsz,hat,hu⟩:=alone hS hb' (by decide) (by omega) (by rw[hρ];simp)
 rw[hρ] at hρ'
 cases hρ'
 have hu0:=hu
 rw[VR] at hu
 obtain⟨us,rfl,hu⟩:=hu
 rw[cd] at hu
 obtain⟨va,us',hus,hva,hu⟩:=hu
 rw[cd] at hu
 obtain⟨vb,us'',rfl,hvb,hu⟩:=hu
 rw[cd] at hu
 subst hu
 obtain⟨a1,a2,a3⟩:=hat
 have hcells:us=#[va,vb]:=by rw[←Array.toArray_toList (xs:=us),hus]
 subst hcells
 have hget:∀{H2:Hp} {k:Option eV},H2=(b,k)::H→bn H2=fQ c.H b k:=fun h=>by
  subst h
  funext x
  by_cases hx:x=b
  ·subst hx;simp[bn]
  ·rw[eD _ _ hx,hH];simp[bn,hx]
 rcases hA with rfl|rfl
 ·rw[VR] at hva
  subst hva
  have hc0:=a2 0 (by omega)
  simp only[Nat.add_zero,Value.cells] at hc0
  refine(yi blk c.w hc0 (by simp[World.shape?,harr,hsz]) (by simp[World.frozen?,harr])).mono ?_
  rintro e w' ⟨rfl,rfl⟩
  rw[setCell_eq_setRow c.w blk 0 arr 149 (0,0) _ harr]
  have hbl:=setRow_heap c.w blk arr (arr.setIfInBounds 0 (.pointer (some ⟨blk,0,none⟩))) 149 (0,0) harr
  obtain⟨p1,p2⟩:=hS.put (b:=b) (e:=149) (sz:=2) d (es:=[.agg [.pt b 1 0 0,S]]) (w':=c.w.setRow blk (arr.setIfInBounds 0 (.pointer (some ⟨blk,0,none⟩)))) (blk:=blk) (o:=0) (z:=2) (by omega)
   (.inr ⟨_,_,_,hb', .inl ⟨rfl,hρ⟩⟩) (.inr ⟨_,_,_,hb',hρ⟩) rfl rfl rfl (by simp[World.setRow]) (fun k _ hne=>setRow_other c.w blk k _ hne) hbl ⟨by simp[hsz],fun _=>⟨rfl, .inl (by simp[hsz])⟩⟩ (by simp) (fun i hi=>by
    obtain rfl:i=0:=by simpa using hi
    refine⟨.agg #[.pointer (some ⟨blk,0,none⟩),vb],⟨rfl,fun j hj=> ?_,fun j x hx=> ?_⟩, ?_⟩
    ·rw[cell_of_row _ blk _ _ 149 (0,0) hbl]
     have h1:=a2 1 (by omega)
     rw[cell_of_row c.w blk _ arr 149 (0,0) harr] at h1
     rcases j with _|_|j
     ·simp[Value.cells,hsz]
     ·simpa[Value.cells] using h1
     ·omega
    ·rcases j with _|_|j
     ·simp[Value.cells] at hx;subst hx;rfl
     ·exact a3 1 x (by simpa[Value.cells] using hx)
     ·simp[Value.cells] at hx
    ·show VR c (.agg [.pt b 1 0 0,S]) _
     rw[VR]
     refine⟨_,rfl, ?_⟩
     rw[cd]
     refine⟨_,_,rfl,hv0, ?_⟩
     rw[cd]
     exact⟨_,_,rfl,hvb,by rw[cd]⟩)
  refine⟨.tuple #[], .dV [],_,nx,fQ c.ρ b (some (blk,0,2)),fun x=>c.U x∨x=b,rfl,⟨rfl,rfl,rfl⟩,fun x hx=> ?_, ?_, ?_, ?_⟩
  ·rcases hx with hx|rfl
   ·exact hU x hx
   ·exact hU _ hU0
  ·rw[hget rfl];exact p1
  ·rw[hget rfl];exact p2
  ·rw[VR];exact⟨_,rfl,by rw[cd]⟩
 ·obtain⟨_,blk2,o2,z2,hρ2,rfl⟩:=JB (i:=0) hb' hva
  rw[hρ] at hρ2
  cases hρ2
  have hc0:=a2 0 (by omega)
  simp only[Nat.add_zero,Value.cells] at hc0
  refine(CX blk c.w hc0).mono ?_
  rintro e w' ⟨rfl,rfl⟩
  have hsame:bn ((b,some (.row 149 2 d [.agg [.pt b 1 0 0,S]]))::H)=c.H:=by
   rw[hget rfl]
   funext x
   by_cases hx:x=b
   ·subst hx;rw[dP];exact hb'.symm
   ·rw[eD _ _ hx]
  refine⟨.tuple #[], .dV [],_,nx,c.ρ,c.U,rfl,⟨rfl,rfl,rfl⟩,hU, ?_, ?_, ?_⟩
  ·rw[hsame];exact hS
  ·rw[hsame];exact Cx.le.refl _
  ·rw[VR];exact⟨_,rfl,by rw[cd]⟩
end Go.Proofs.YtekfmjjmihomlaaGreat
end
section
/- The library's text builder: String. -/
namespace Go.Proofs.YtekfmjjmihomlaaGreat
open Go Go.cZ Go.Proofs Go.RowKit
set_option linter.unusedVariables false
set_option linter.unusedSimpArgs false
set_option maxHeartbeats 1000000 in
set_option maxRecDepth 100000 in
theorem yF (b g n cap:Nat) (p:Value) (cur:Array Value) (l:List UInt8) (w:World) (c1:w.drew.cell? ⟨b,1,none⟩=some (.slice (some ⟨g,0,none⟩) l.length cap)) (hg:w.heap[g]?=some (.cells cur 5 (0,0))) (h0:l≠[]) (hc:l.length≤cap) (hcm:cap≤maxLen) (dE:cap≤cur.size)
 (hl:∀j x,l[j]?=some x→w.cell? ⟨g,j,none⟩=some (.int .u8 x.toNat)):
 Calls Tryz.prog 95 #[.pointer (some ⟨b,0,none⟩)] w fun e w'=>e= .returned (.string ⟨l.toArray⟩)∧w'=w.drew.freeze ⟨g,0,none⟩ l.length:=by
 have hl0:l.length≠0:=by simpa using h0
 have hSD:(Builtin.unsafeSliceData_ #[147] 190 #[.slice (some ⟨g,0,none⟩) l.length cap]).run Tryz.prog w.drew= .ok (.pointer (some ⟨g,0,none⟩)) w.drew:=
  Lib.run_unsafeSliceData_row _ _ _ _ _ _ (by omega)
 have hUS:(Builtin.unsafeString_ #[190,3] 9 #[.pointer (some ⟨g,0,none⟩), .int .i64 l.length]).run Tryz.prog w.drew= .ok (.string ⟨l.toArray⟩) (w.drew.freeze ⟨g,0,none⟩ l.length):=by
  refine Lib.run_unsafeString_row w.drew 190 3 9 5 Tryz.underlying190 (by kernel_rfl) g cur.size (by have hg':w.drew.heap[g]?=some (.cells cur 5 (0,0)):=hg;simp[World.shape?,hg']) l h0 (by omega) (by unfold maxLen at hcm;omega) ?_
  intro j x hx
  have:=hl j x hx
  rw[show((⟨g,0,none⟩:Addr).add j)=⟨g,j,none⟩ by unfold Addr.add;split<;>simp_all]
  exact this
 have mixed:Tryz.prog.follows .mixedOrders=true:=by kernel_rfl
 go_enter Tryz.func95,Tryz.ntmps95
 go_wp2
 go_region_o
 all_goals (go_wp2;go_ret;exact⟨rfl,rfl⟩)
end Go.Proofs.YtekfmjjmihomlaaGreat
end
section
/- The library's text builder: String, in rows. -/
namespace Go.Proofs.YtekfmjjmihomlaaGreat
open Go Go.cZ Go.Proofs Go.RowKit
set_option linter.unusedVariables false
set_option linter.unusedSimpArgs false
theorem Q4 {w0:World} {c:Cx} (h:dn w0 c) {b blk o z:Nat} {k:eV} {w':World} (hb:c.H b=some k) (hρ:c.ρ b=some (blk,o,z)) (hos:w'.os=c.w.os) (htp:w'.tape=c.w.tape) (hout:w'.output=c.w.output) (hsz:w'.heap.size=c.w.heap.size)
 (hkeep:∀k,k≠blk→w'.heap[k]?=c.w.heap[k]?) {H':Nat→Option eV} (hH:H'=fQ c.H b none):dn w0 ⟨c.ρ,H',c.U,w',c.M0⟩∧c.le ⟨c.ρ,H',c.U,w',c.M0⟩:=by
 subst hH
 have hs:∀x k,fQ c.H b none x=some k→x≠b∧c.H x=some k:=fun x k hk=>by
  by_cases hx:x=b
  ·subst hx;simp at hk
  ·rw[eD _ _ hx] at hk;exact⟨hx,hk⟩
 have hlow:=(h.P1 hb hρ).1
 have hle:c.le ⟨c.ρ,fQ c.H b none,c.U,w',c.M0⟩:=by
  refine⟨fun _ h=>h,by simp[hsz],fun x hm _=>⟨hkeep x ?_, ?_⟩,fun x _ e sz d es he=>⟨_,_,_,(hs x _ he).2, .inl ⟨rfl,rfl⟩⟩⟩
  ·rintro rfl;exact hm (.inr ⟨b,k,o,z,hb,hρ⟩)
  ·rintro(h0|⟨y,k,o,z,hk,hr⟩)
   ·exact hm (.inl h0)
   ·exact hm (.inr ⟨y,k,o,z,(hs y k hk).2,hr⟩)
 refine⟨⟨h.below.trans ⟨hos,htp,hout,by rw[hsz];exact Nat.le_refl _,fun k hk=>hkeep k (by omega)⟩,h.m0,fun x e sz d es he=> ?_,fun x y k k' _ _ _ _ _ hk hk'=>h.inj x y k k' _ _ _ _ _ (hs _ _ hk).2 (hs _ _ hk').2⟩,hle⟩
 obtain⟨h1,h2⟩:=hs x _ he
 obtain⟨h3,h4⟩:=h.row x _ _ _ _ h2
 refine⟨h3,h4.cS hle rfl fun blk' o' z' hr hlt=>hkeep blk' ?_⟩
 rintro rfl
 exact h1 (h.inj x b _ _ _ _ _ _ _ h2 hb hr hρ)
theorem yE {b q nx:Nat} {H:Hp} {d d2 A:AV} {l:List UInt8} (hb:bn H b=some (.row 149 2 d [.agg [A, .sl q l.length]])) (hq:bn H q=some (.row 5 1 d2 (cM ⟨l.toArray⟩))) (h0:l≠[]):
 cP Tryz.prog 95 [.pt b 1 0 0] H nx (fun r H2 n2=>r= .sc (.string ⟨l.toArray⟩)∧H2=(q,none)::H∧n2=nx):=by
 refine⟨⟨_,Tryz.func95,by kernel_rfl,by kernel_rfl⟩,fun w0 c vs hS hH hU hv=> ?_⟩
 rw[cd] at hv
 obtain⟨v,vs',rfl,hv,hv'⟩:=hv
 rw[cd] at hv'
 subst hv'
 have hb':=hb
 rw[←hH] at hb'
 have hq':=hq
 rw[←hH] at hq'
 obtain⟨hU0,blk,o,z,hρ,rfl⟩:=JB (i:=0) hb' hv
 obtain⟨blk',arr,u,hρ',hlow,harr,hsz,hat,hu⟩:=alone hS hb' (by decide) (by omega) (by rw[hρ];simp)
 rw[hρ] at hρ'
 cases hρ'
 rw[VR] at hu
 obtain⟨us,rfl,hu⟩:=hu
 rw[cd] at hu
 obtain⟨va,us',hus,hva,hu⟩:=hu
 rw[cd] at hu
 obtain⟨vb,us'',rfl,hvb,hu⟩:=hu
 rw[cd] at hu
 subst hu
 obtain⟨a1,a2,a3⟩:=hat
 have hcells:us=#[va,vb]:=by rw[←Array.toArray_toList (xs:=us),hus]
 subst hcells
 have hlen:(cM ⟨l.toArray⟩).length=l.length:=by simp[cM]
 have hl0:l.length≠0:=by simpa using h0
 rw[VR] at hvb
 obtain⟨hUq,a,cap,rfl,hr⟩:=hvb
 obtain⟨_,hr⟩:=hr _ _ _ _ hq'
 obtain⟨r1,r2,r3⟩:=hS.xu q _ _ _ _ hq' (by omega)
 have hrow:∃g z2 cur,c.ρ q=some (g,0,z2)∧a=some ⟨g,0,none⟩∧l.length≤cap∧cap≤maxLen∧c.w.heap[g]?=some (.cells cur 5 (0,0))∧cap≤cur.size∧dv c 1 (cM ⟨l.toArray⟩) g 0:=by
  rcases r3 with⟨_,r3⟩|⟨g,o2,z2,r4,r5,⟨cur,r6,r7,r8⟩,r9,r10⟩
  ·have:=congrArg List.length r3;simp[hlen,hl0,h0] at this
  ·obtain⟨rfl,_⟩:=r8 (by decide)
   rcases hr hlen with⟨s1,_⟩|⟨g',o',z',s1,s2,s3,s4,s5,_⟩
   ·rw[r4] at s1;cases s1
   ·rw[r4] at s1
    cases s1
    exact⟨g,z2,cur,r4,s2,s3,s5,r6,by omega,r10⟩
 obtain⟨g,z2,cur,s1,rfl,s2,s3,s4,s5,s6⟩:=hrow
 have hc1:=a2 1 (by omega)
 simp only[Nat.zero_add,Value.cells] at hc1
 refine(yF blk g l.length cap va cur l c.w (by simpa using hc1) s4 h0 s2 s3 s5 fun j x hx=> ?_).mono ?_
 ·obtain⟨v,hv1,hv2⟩:=du s6 j (by rw[hlen];exact(List.getElem?_eq_some_iff.1 hx).1)
  have hg:(cM ⟨l.toArray⟩).getD j .any= .sc (.int .u8 (x.toNat:Int)):=by simp[cM,List.getD,hx]
  rw[hg,VR] at hv2
  subst hv2
  have:=hv1.2.1 0 (by omega)
  simpa[Value.cells] using this
 rintro e w' ⟨rfl,rfl⟩
 have hfz:c.w.drew.freeze ⟨g,0,none⟩ l.length={ c.w.drew with heap:=c.w.heap.modify g fun
  | .cells c elem (lo,hi)=> .cells c elem (if lo==hi then(0,0+l.length) else(min lo 0,max hi (0+l.length)))
  |o=>o }:=by
  unfold World.freeze
  rw[if_neg hl0]
  rfl
 obtain⟨p1,p2⟩:=Q4 hS hq' s1 (w':=c.w.drew.freeze ⟨g,0,none⟩ l.length) (by rw[hfz];rfl) (by rw[hfz];rfl) (by rw[hfz];rfl) (by rw[hfz];exact Array.size_modify)
  (fun k hk=>by
   rw[hfz]
   simp only[Array.getElem?_modify]
   rw[if_neg (by omega)]) (H':=bn ((q,none)::H)) (by
   funext x
   by_cases hx:x=q
   ·subst hx;simp[bn]
   ·rw[eD _ _ hx,hH];simp[bn,hx])
 refine⟨.string ⟨l.toArray⟩, .sc (.string ⟨l.toArray⟩),_,nx,c.ρ,c.U,rfl,⟨rfl,rfl,rfl⟩,hU,p1,p2, ?_⟩
 rw[VR]
end Go.Proofs.YtekfmjjmihomlaaGreat
end
