import Derived.Test.YtekfmjjmihomlaaGreatM39
import Derived.Test.YtekfmjjmihomlaaGreatM32
import Derived.Test.YtekfmjjmihomlaaGreatM30
import Derived.Test.YtekfmjjmihomlaaGreatM33
import Derived.Test.YtekfmjjmihomlaaGreatM38
import Derived.Test.YtekfmjjmihomlaaGreatM35
section
/- The document's Step. -/
namespace Go.Proofs.YtekfmjjmihomlaaGreat
open Go Go.cV Go.Proofs
set_option linter.unusedSimpArgs false
set_option linter.unusedVariables false
set_option maxRecDepth 8000
theorem DG (u:bj) (hr:ct u) (m:MS) (h:eN u m) (t:Int) (hb:m.mC u t≠0):Pure Tryz.prog 69 [m.av u,i64 t] (fun r=>r= .dH [m.av u,QP.av,i64 (m.mC u t)]):=by
 have c0:=oe u hr m h t
 have r0:=decide_eq_true hb
 refine dP ?_ (by simp[bw,cP,fC.cells])
 refine aQ CR rfl ?_
 refine cN ?_
 exact⟨cr 6 (by simp[bw,cP])⟩
theorem my {u:bj} {m:MS} {L:ML} {H H1:Hp} (hL:L.Nt u m H) (h1:∀y∈L.all,bd H1 y=bd H y) (l:List AV) (hl:cP 0 l):(m.rows u L.a L.s L.me L.ho L.pr::l).map (cV.dR H1 6)=m.av u::l:=by
 rw[List.map_cons,(hL.cO h1).JZ 3]
 congr 1
 exact qk fun a ha=>cr _ (nU hl a ha)
theorem HT {u:bj} {m:MS} {mr a s me ho pr:Nat} {ids:List Nat} {H H':Hp} (h:L4 u m mr a s me ho pr ids H) (b:Nat) (hb:b∉a::s::me::ho::pr::ids) (r:∃d,bd H' b=some (.row 80 8 d [m.rows u a s me ho pr])) (hk:∀y∈a::s::me::ho::pr::ids,bd H' y=bd H y):ML.Nt ⟨b,a,s,me,ho,pr,ids⟩ u m H':=by
 obtain⟨d2,h2⟩:=h.rA
 obtain⟨d3,h3⟩:=h.rS
 obtain⟨d4,h4⟩:=h.rE
 obtain⟨d5,h5⟩:=h.rH
 obtain⟨d6,h6⟩:=h.rP
 refine⟨r,⟨d2,(hk _ (by simp)).trans h2⟩,⟨d3,(hk _ (by simp)).trans h3⟩,fun t ht=> ?_,⟨d4,(hk _ (by simp)).trans h4⟩,⟨d5,(hk _ (by simp)).trans h5⟩,⟨d6,(hk _ (by simp)).trans h6⟩,h.len,List.nodup_cons.2 ⟨hb,(List.nodup_cons.1 h.nodup).2⟩⟩
 obtain⟨d,hd⟩:=h.rL t ht
 have:ids.getD t 0∈ids:=dU (by rw[h.len];exact ht)
 exact⟨d,(hk _ (by simp only[List.mem_cons];exact .inr (.inr (.inr (.inr (.inr this)))))).trans hd⟩
theorem gU {u:bj} {m:MS} {L:ML} {H:Hp} (hL:L.Nt u m H) (d:fC):cV.dR H 6 (.dH [m.rows u L.a L.s L.me L.ho L.pr,d.av,i64 0])= .dH [m.av u,d.av,i64 0]:=by
 show AV.dH (List.map (cV.dR H 5) [m.rows u L.a L.s L.me L.ho L.pr,d.av,i64 0])=_
 rw[List.map_cons,List.map_cons,List.map_cons,List.map_nil,hL.JZ 2,cr _ (show bw 0 d.av by simp[bw,cP,fC.cells]),cr _ (show bw 0 (i64 0) by simp[bw])]
set_option maxHeartbeats 4000000 in
theorem zP (u:bj) (hu:u.Wf) (hr:ct u) (m:MS) (h:eN u m) (hp:m.bk.length≤1048576) (t:Nat) (ht:t<u.bh.length) (hb:m.mC u t=0):Pure Tryz.prog 69 [m.av u,i64 t] (fun r=>r= .dH [(m.step u t).1.av u,(m.step u t).2.av,i64 0]):=by
 have c0:=oe u hr m h t
 rw[hb] at c0
 have hgl:=hr.tv
 have hal:=h.nD
 have hsl:=h.sl
 obtain⟨hk9,_⟩:=lA h ht hb
 have hao:=h.L6 hu hr ht hk9
 refine dP ?_ (by simp[bw,cP,fC.cells])
 refine aQ CR rfl ?_
 refine cN ?_
 refine aL (qw u hr m h (fun e=>by rw[e] at hal;simp at hal;omega) hp _ _) ?_
 rintro _ H1 n1 ⟨mr,a,s,me,ho,pr,ids,rfl,hN,hin,hn1,hk1⟩
 have q0:∃d,bd H1 0=some (.row 80 8 d [m.av u]):=⟨_,(hk1 0 (by omega)).trans bf⟩
 have q1:∃d,bd H1 1=some (.row 80 8 d [fU true [.slice none 0 0, .slice none 0 0, .slice none 0 0, .slice none 0 0, .slice none 0 0, .slice none 0 0, .slice none 0 0, .slice none 0 0]]):=⟨_,(hk1 1 (by omega)).trans bf⟩
 have q2:∃d,bd H1 2=some (.row 49 6 d [fU true [.int .i64 0, .int .i64 0, .int .u8 0, .int .i64 0, .int .i64 0, .int .i64 0]]):=⟨_,(hk1 2 (by omega)).trans bf⟩
 clear hk1
 obtain⟨d0,q0⟩:=q0
 obtain⟨d1,q1⟩:=q1
 obtain⟨d2,q2⟩:=q2
 have hno:=qx u m (by omega) h ht
 refine Eq.mpr (by rw[MS.rows]) (?_:Go _)
 refine cN ?_
 refine aS hno (my (L:=⟨0,a,s,me,ho,pr,ids⟩) (HT hN 0 ?_ ⟨_,(bf:bd _ 0=some (.row _ 8 _ [m.rows u a s me ho pr]))⟩ fun y hy=> ?_) (fun y hy=>rfl) [i64 t] (by simp[cP,bw])) (by simp[cP,bw]) (by simp[gp,s8,Node.cells]) ?_
 ·simp only[List.mem_cons,not_or]
  exact⟨by have:=hin a (by simp);omega,by have:=hin s (by simp);omega,by have:=hin me (by simp);omega,by have:=hin ho (by simp);omega,by have:=hin pr (by simp);omega,fun hy=>by have:=hin 0 (by simp[hy]);omega⟩
 ·have:=hin y (List.mem_cons_of_mem _ hy);exact br
 refine JB ?_
 have hz:(0:Nat)∉a::s::me::ho::pr::ids:=fun hy=>by have:=hin 0 (List.mem_cons_of_mem _ hy);omega
 refine BW (Rt.refl _ _ _) (fun H=>ML.Nt ⟨0,a,s,me,ho,pr,ids⟩ u m H∧(∃d,bd H 0=some (.row 80 8 d [.agg [bn u.shared,bn u.bo,cL u.bh, .sl a m.at_.length, .sl s m.bg.length, .sl me m.mem.length, .sl ho m.hold.length, .sl pr m.bk.length]]))∧(∃d,bd H 1=some (.row 80 8 d [fU true [.slice none 0 0, .slice none 0 0, .slice none 0 0, .slice none 0 0, .slice none 0 0, .slice none 0 0, .slice none 0 0, .slice none 0 0]]))∧(∃d,bd H 2=some (.row 49 6 d [fU true [.int .i64 0, .int .i64 0, .int .u8 0, .int .i64 0, .int .i64 0, .int .i64 0]]))∧∃d,bd H (n1+3)=some (.row 109 13 d [(m.node u t).av])) ⟨HT hN 0 hz ⟨_,(bf:bd _ 0=some (.row _ 8 _ [m.rows u a s me ho pr]))⟩ (fun y hy=>by have:=hin y (List.mem_cons_of_mem _ hy);exact br),⟨_,bf⟩,⟨_,Eq.trans br q1⟩,⟨_,Eq.trans br q2⟩,⟨_,bf⟩⟩ ?_
 clear q0 q1 q2 hN hz
 rintro H ⟨hL,⟨d0,r0'⟩,⟨d1,q1⟩,⟨d2,q2⟩,⟨d3,r3'⟩⟩
 have pa:=hin a (by simp)
 have ps:=hin s (by simp)
 have pme:=hin me (by simp)
 have pho:=hin ho (by simp)
 have ppr:=hin pr (by simp)
 have hil:ids.getD t 0∈ids:=dU (by have:=hL.len;simp only at this;omega)
 have pit:=hin (ids.getD t 0) (List.mem_cons_of_mem _ (List.mem_cons_of_mem _ (List.mem_cons_of_mem _ (List.mem_cons_of_mem _ (List.mem_cons_of_mem _ (List.mem_cons_of_mem _ hil))))))
 obtain⟨-,-,x1,x2,x3,x4,x5⟩:=jd hL (t:=t) (by omega)
 have x1:ids.getD t 0≠a:=x1
 have x2:ids.getD t 0≠s:=x2
 have x3:ids.getD t 0≠me:=x3
 have x4:ids.getD t 0≠ho:=x4
 have x5:ids.getD t 0≠pr:=x5
 have hdd:(a≠s∧a≠me∧a≠ho∧a≠pr)∧(s≠me∧s≠ho∧s≠pr)∧(me≠ho∧me≠pr)∧ho≠pr:=by
  have:=hL.nodup
  simp only[List.nodup_cons,List.mem_cons,not_or] at this
  exact⟨⟨this.2.1.1,this.2.1.2.1,this.2.1.2.2.1,this.2.1.2.2.2.1⟩,⟨this.2.2.1.1,this.2.2.1.2.1,this.2.2.1.2.2.1⟩,⟨this.2.2.2.1.1,this.2.2.2.1.2.1⟩,this.2.2.2.2.1.1⟩
 obtain⟨⟨y1,y2,y3,y4⟩,⟨y5,y6,y7⟩,⟨y8,y9⟩,y10⟩:=hdd
 have hall:∀y∈ML.all ⟨0,a,s,me,ho,pr,ids⟩,y=0∨3≤y∧y<n1:=fun y hy=>by
  rcases List.mem_cons.1 hy with e|hy
  ·exact .inl e
  ·have:=hin y (List.mem_cons_of_mem _ hy);omega
 obtain⟨da,ra⟩:∃d,bd H a=some (.row 3 1 d (m.at_.map i64)):=hL.rA
 obtain⟨ds,rs⟩:∃d,bd H s=some (.row 38 1 d (cx ids m.bg)):=hL.rS
 obtain⟨dt,rt⟩:∃d,bd H (ids.getD t 0)=some (.row 2 1 d ((m.bg.getD t []).map i64)):=hL.rL t (by omega)
 obtain⟨de,re⟩:∃d,bd H me=some (.row 2 1 d (m.mem.map i64)):=hL.rE
 obtain⟨dh,rh⟩:∃d,bd H ho=some (.row 3 1 d (m.hold.map i64)):=hL.rH
 obtain⟨dp,rp⟩:∃d,bd H pr=some (.row 89 2 d (m.bk.map cM.av)):=hL.rP
 have e0:∀d,(m.at_.map i64).getD ((t:Int)).toNat d=i64 (m.at_.getD t 0):=fun d=>eG (by omega) d
 have a0:(m.at_.map i64).length=m.at_.length:=by simp
 have a1:(m.mem.map i64).length=m.mem.length:=by simp
 have a2:(m.hold.map i64).length=m.hold.length:=by simp
 have a3:((m.bg.getD t []).map i64).length=(m.bg.getD t []).length:=by simp
 have a4:(cx ids m.bg).length=m.bg.length:=oh hL.len
 have hst:m.step u t=({ (m.act t (m.node u t)).1 with at_:=m.at_.set t (m.act t (m.node u t)).2.1 },⟨t,m.at_.getD t 0,(m.node u t).kind,(m.act t (m.node u t)).2.2.1,(m.act t (m.node u t)).2.2.2.1,(m.act t (m.node u t)).2.2.2.2⟩):=rfl
 rw[hst]
 clear hst c0 hno hb
 have hno':=h.node hr ht
 generalize m.node u t=n at *
 obtain⟨k1,k8⟩:=hao.kind
 have hkk:n.kind=1∨n.kind=2∨n.kind=3∨n.kind=4∨n.kind=5∨n.kind=6∨n.kind=7∨n.kind=8:=by omega
 rcases hkk with hk|hk|hk|hk|hk|hk|hk|hk
 case inr.inr.inr.inr.inl=>
  have r0:=hk
  obtain⟨g1,g2⟩:=hao.hold (.inl hk)
  have hact:m.act t n=({ m with hold:=m.hold.set n.bx.toNat (t:Int) },n.next,n.bx,0,0):=by unfold MS.act;simp[hk]
  rw[hact]
  have fin:∀(H':Hp) (d:fC),ML.Nt ⟨0,a,s,me,ho,pr,ids⟩ u ({ m with hold:=m.hold.set n.bx.toNat (t:Int),at_:=m.at_.set t n.next }) H'→cV.dR H' 6 (.dH [.agg [bn u.shared,bn u.bo,cL u.bh, .sl a m.at_.length, .sl s m.bg.length, .sl me m.mem.length, .sl ho m.hold.length, .sl pr m.bk.length],d.av,i64 0])= .dH [({ m with hold:=m.hold.set n.bx.toNat (t:Int),at_:=m.at_.set t n.next }:MS).av u,d.av,i64 0]:=fun H' d h=>by
   have:=gU h d
   rw[show({ m with hold:=m.hold.set n.bx.toNat (t:Int),at_:=m.at_.set t n.next }:MS).rows u a s me ho pr= .agg [bn u.shared,bn u.bo,cL u.bh, .sl a m.at_.length, .sl s m.bg.length, .sl me m.mem.length, .sl ho m.hold.length, .sl pr m.bk.length] by simp[MS.rows,MS.dS]] at this
   exact this
  have hm1:ML.Nt ⟨0,a,s,me,ho,pr,ids⟩ u ({ m with hold:=m.hold.set n.bx.toNat (t:Int) }) ((ho,some (.row 3 1 dh ((m.hold.map i64).set n.bx.toNat (i64 (t:Int)))))::H):=hL.v7 (t:=t) (by omega) n.bx (t:Int) ⟨_,cI _ _ _⟩ fun y hy hne=>bz hne
  refine cN ?_
  refine⟨fin _ ⟨_,_,_,_,_,_⟩ (ML.Nt.BO (t:=t) hm1 (by simp only[MS.dS,List.length_set];omega) t _ ⟨_,bf⟩ fun y hy hne=> ?_)⟩
  have:=hall y hy
  by_cases e:y=ho
  ·subst e;exact Eq.trans bf (cI _ _ _).symm
  ·rw[bz e];exact br
 case inr.inr.inr.inr.inr.inl=>
  have r0:=hk
  obtain⟨g1,g2⟩:=hao.hold (.inr hk)
  have hact:m.act t n=({ m with hold:=m.hold.set n.bx.toNat (-1) },n.next,n.bx,0,0):=by unfold MS.act;simp[hk]
  rw[hact]
  have fin:∀(H':Hp) (d:fC),ML.Nt ⟨0,a,s,me,ho,pr,ids⟩ u ({ m with hold:=m.hold.set n.bx.toNat (-1),at_:=m.at_.set t n.next }) H'→cV.dR H' 6 (.dH [.agg [bn u.shared,bn u.bo,cL u.bh, .sl a m.at_.length, .sl s m.bg.length, .sl me m.mem.length, .sl ho m.hold.length, .sl pr m.bk.length],d.av,i64 0])= .dH [({ m with hold:=m.hold.set n.bx.toNat (-1),at_:=m.at_.set t n.next }:MS).av u,d.av,i64 0]:=fun H' d h=>by
   have:=gU h d
   rw[show({ m with hold:=m.hold.set n.bx.toNat (-1),at_:=m.at_.set t n.next }:MS).rows u a s me ho pr= .agg [bn u.shared,bn u.bo,cL u.bh, .sl a m.at_.length, .sl s m.bg.length, .sl me m.mem.length, .sl ho m.hold.length, .sl pr m.bk.length] by simp[MS.rows,MS.dS]] at this
   exact this
  have hm1:ML.Nt ⟨0,a,s,me,ho,pr,ids⟩ u ({ m with hold:=m.hold.set n.bx.toNat (-1) }) ((ho,some (.row 3 1 dh ((m.hold.map i64).set n.bx.toNat (i64 (-1)))))::H):=hL.v7 (t:=t) (by omega) n.bx (-1) ⟨_,cI _ _ _⟩ fun y hy hne=>bz hne
  refine cN ?_
  refine⟨fin _ ⟨_,_,_,_,_,_⟩ (ML.Nt.BO (t:=t) hm1 (by simp only[MS.dS,List.length_set];omega) t _ ⟨_,bf⟩ fun y hy hne=> ?_)⟩
  have:=hall y hy
  by_cases e:y=ho
  ·subst e;exact Eq.trans bf (cI _ _ _).symm
  ·rw[bz e];exact br
 case inl=>
  have r0:=hk
  have r1:n.bx=0:=hno'.bx.2 (by unfold eS;exact decide_eq_false (by omega))
  obtain⟨g3,g4⟩:=hao.slot (by omega)
  have e2:∀d,(cx ids m.bg).getD ((t:Int)).toNat d= .sl (ids.getD t 0) (m.bg.getD t []).length:=fun d=>by rw[Int.toNat_natCast];exact oG (L:=⟨0,a,s,me,ho,pr,ids⟩) hL.len (by omega) d
  have hact:m.act t n=(m.dS t n.slot (m.lQ t n),n.next,0,(m.lQ t n),0):=by unfold MS.act;simp[hk]
  rw[hact]
  have fin:∀(H':Hp) (d:fC),ML.Nt ⟨0,a,s,me,ho,pr,ids⟩ u ({ m.dS t n.slot (m.lQ t n) with at_:=m.at_.set t n.next }) H'→cV.dR H' 6 (.dH [.agg [bn u.shared,bn u.bo,cL u.bh, .sl a m.at_.length, .sl s m.bg.length, .sl me m.mem.length, .sl ho m.hold.length, .sl pr m.bk.length],d.av,i64 0])= .dH [({ m.dS t n.slot (m.lQ t n) with at_:=m.at_.set t n.next }:MS).av u,d.av,i64 0]:=fun H' d h=>by
   have:=gU h d
   rw[show({ m.dS t n.slot (m.lQ t n) with at_:=m.at_.set t n.next }:MS).rows u a s me ho pr= .agg [bn u.shared,bn u.bo,cL u.bh, .sl a m.at_.length, .sl s m.bg.length, .sl me m.mem.length, .sl ho m.hold.length, .sl pr m.bk.length] by simp[MS.rows,MS.dS]] at this
   exact this
  have hm1:ML.Nt ⟨0,a,s,me,ho,pr,ids⟩ u (m.dS t n.slot (m.lQ t n)) ((ids.getD t 0,some (.row 2 1 dt (((m.bg.getD t []).map i64).set n.slot.toNat (i64 (m.lQ t n)))))::H):=hL.dS (t:=t) (by omega) n.slot (m.lQ t n) ⟨dt,cI _ _ _⟩ fun y hy hne=>bz hne
  refine cN ?_
  refine aS (uS u m n (by omega) (by omega) (hao.a (by omega)) (hao.b hk) (hao.op hk)) (my hL (fun y hy=> ?_) [i64 t,n.av] (by simp[cP,bw])) (by simp[cP,bw]) trivial ?_
  ·have:=hall y hy;exact br
  refine cN ?_
  refine⟨fin _ ⟨_,_,_,_,_,_⟩ (ML.Nt.BO (t:=t) hm1 (by simp only[MS.dS,List.length_set];omega) t _ ⟨_,bf⟩ fun y hy hne=> ?_)⟩
  have:=hall y hy
  by_cases e:y=ids.getD t 0
  ·rw[e];exact Eq.trans bf (cI _ _ _).symm
  ·rw[bz e];exact br
 case inr.inl=>
  have r0:=hk
  obtain⟨g1,g2⟩:=hao.mem (by omega)
  obtain⟨g3,g4⟩:=hao.slot (by omega)
  have e1:∀d,(m.mem.map i64).getD n.bx.toNat d=i64 (m.mem.getD n.bx.toNat 0):=fun d=>gW (by omega) d
  have e2:∀d,(cx ids m.bg).getD ((t:Int)).toNat d= .sl (ids.getD t 0) (m.bg.getD t []).length:=fun d=>by rw[Int.toNat_natCast];exact oG (L:=⟨0,a,s,me,ho,pr,ids⟩) hL.len (by omega) d
  have hact:m.act t n=(m.dS t n.slot (m.mem.getD n.bx.toNat 0),n.next,n.bx,(m.mem.getD n.bx.toNat 0),0):=by unfold MS.act;simp[hk]
  rw[hact]
  have fin:∀(H':Hp) (d:fC),ML.Nt ⟨0,a,s,me,ho,pr,ids⟩ u ({ m.dS t n.slot (m.mem.getD n.bx.toNat 0) with at_:=m.at_.set t n.next }) H'→cV.dR H' 6 (.dH [.agg [bn u.shared,bn u.bo,cL u.bh, .sl a m.at_.length, .sl s m.bg.length, .sl me m.mem.length, .sl ho m.hold.length, .sl pr m.bk.length],d.av,i64 0])= .dH [({ m.dS t n.slot (m.mem.getD n.bx.toNat 0) with at_:=m.at_.set t n.next }:MS).av u,d.av,i64 0]:=fun H' d h=>by
   have:=gU h d
   rw[show({ m.dS t n.slot (m.mem.getD n.bx.toNat 0) with at_:=m.at_.set t n.next }:MS).rows u a s me ho pr= .agg [bn u.shared,bn u.bo,cL u.bh, .sl a m.at_.length, .sl s m.bg.length, .sl me m.mem.length, .sl ho m.hold.length, .sl pr m.bk.length] by simp[MS.rows,MS.dS]] at this
   exact this
  have hm1:ML.Nt ⟨0,a,s,me,ho,pr,ids⟩ u (m.dS t n.slot (m.mem.getD n.bx.toNat 0)) ((ids.getD t 0,some (.row 2 1 dt (((m.bg.getD t []).map i64).set n.slot.toNat (i64 (m.mem.getD n.bx.toNat 0)))))::H):=hL.dS (t:=t) (by omega) n.slot (m.mem.getD n.bx.toNat 0) ⟨dt,cI _ _ _⟩ fun y hy hne=>bz hne
  refine cN ?_
  refine⟨fin _ ⟨_,_,_,_,_,_⟩ (ML.Nt.BO (t:=t) hm1 (by simp only[MS.dS,List.length_set];omega) t _ ⟨_,bf⟩ fun y hy hne=> ?_)⟩
  have:=hall y hy
  by_cases e:y=ids.getD t 0
  ·rw[e];exact Eq.trans bf (cI _ _ _).symm
  ·rw[bz e];exact br
 case inr.inr.inl=>
  have r0:=hk
  obtain⟨g1,g2⟩:=hao.mem (by omega)
  have hact:m.act t n=({ m with mem:=m.mem.set n.bx.toNat (m.val t n.a) },n.next,n.bx,m.val t n.a,0):=by unfold MS.act;simp[hk]
  rw[hact]
  have fin:∀(H':Hp) (d:fC),ML.Nt ⟨0,a,s,me,ho,pr,ids⟩ u ({ m with mem:=m.mem.set n.bx.toNat (m.val t n.a),at_:=m.at_.set t n.next }) H'→cV.dR H' 6 (.dH [.agg [bn u.shared,bn u.bo,cL u.bh, .sl a m.at_.length, .sl s m.bg.length, .sl me m.mem.length, .sl ho m.hold.length, .sl pr m.bk.length],d.av,i64 0])= .dH [({ m with mem:=m.mem.set n.bx.toNat (m.val t n.a),at_:=m.at_.set t n.next }:MS).av u,d.av,i64 0]:=fun H' d h=>by
   have:=gU h d
   rw[show({ m with mem:=m.mem.set n.bx.toNat (m.val t n.a),at_:=m.at_.set t n.next }:MS).rows u a s me ho pr= .agg [bn u.shared,bn u.bo,cL u.bh, .sl a m.at_.length, .sl s m.bg.length, .sl me m.mem.length, .sl ho m.hold.length, .sl pr m.bk.length] by simp[MS.rows,MS.dS]] at this
   exact this
  have hm1:ML.Nt ⟨0,a,s,me,ho,pr,ids⟩ u ({ m with mem:=m.mem.set n.bx.toNat (m.val t n.a) }) ((me,some (.row 2 1 de ((m.mem.map i64).set n.bx.toNat (i64 (m.val t n.a)))))::H):=hL.fQ (t:=t) (by omega) n.bx (m.val t n.a) ⟨_,cI _ _ _⟩ fun y hy hne=>bz hne
  refine cN ?_
  refine aS (ej u m n.a (by omega) (by omega) (hao.a (by omega))) (my hL (fun y hy=> ?_) [i64 t,n.a.av] (by simp[cP,bw])) (by simp[cP,bw]) trivial ?_
  ·have:=hall y hy;exact br
  refine cN ?_
  refine⟨fin _ ⟨_,_,_,_,_,_⟩ (ML.Nt.BO (t:=t) hm1 (by simp only[MS.dS,List.length_set];omega) t _ ⟨_,bf⟩ fun y hy hne=> ?_)⟩
  have:=hall y hy
  by_cases e:y=me
  ·subst e;exact Eq.trans bf (cI _ _ _).symm
  ·rw[bz e];exact br
 case inr.inr.inr.inl=>
  have r0:=hk
  obtain⟨g1,g2⟩:=hao.mem (by omega)
  obtain⟨g3,g4⟩:=hao.slot (by omega)
  have e1:∀d,(m.mem.map i64).getD n.bx.toNat d=i64 (m.mem.getD n.bx.toNat 0):=fun d=>gW (by omega) d
  have e2:∀d,(cx ids m.bg).getD ((t:Int)).toNat d= .sl (ids.getD t 0) (m.bg.getD t []).length:=fun d=>by rw[Int.toNat_natCast];exact oG (L:=⟨0,a,s,me,ho,pr,ids⟩) hL.len (by omega) d
  have hact:m.act t n=({ m.dS t n.slot (m.mem.getD n.bx.toNat 0) with mem:=m.mem.set n.bx.toNat (m.val t n.a) },n.next,n.bx,(m.mem.getD n.bx.toNat 0),m.val t n.a):=by unfold MS.act;simp[hk]
  rw[hact]
  have fin:∀(H':Hp) (d:fC),ML.Nt ⟨0,a,s,me,ho,pr,ids⟩ u ({ m.dS t n.slot (m.mem.getD n.bx.toNat 0) with mem:=m.mem.set n.bx.toNat (m.val t n.a),at_:=m.at_.set t n.next }) H'→cV.dR H' 6 (.dH [.agg [bn u.shared,bn u.bo,cL u.bh, .sl a m.at_.length, .sl s m.bg.length, .sl me m.mem.length, .sl ho m.hold.length, .sl pr m.bk.length],d.av,i64 0])= .dH [({ m.dS t n.slot (m.mem.getD n.bx.toNat 0) with mem:=m.mem.set n.bx.toNat (m.val t n.a),at_:=m.at_.set t n.next }:MS).av u,d.av,i64 0]:=fun H' d h=>by
   have:=gU h d
   rw[show({ m.dS t n.slot (m.mem.getD n.bx.toNat 0) with mem:=m.mem.set n.bx.toNat (m.val t n.a),at_:=m.at_.set t n.next }:MS).rows u a s me ho pr= .agg [bn u.shared,bn u.bo,cL u.bh, .sl a m.at_.length, .sl s m.bg.length, .sl me m.mem.length, .sl ho m.hold.length, .sl pr m.bk.length] by simp[MS.rows,MS.dS]] at this
   exact this
  have hm0:ML.Nt ⟨0,a,s,me,ho,pr,ids⟩ u (m.dS t n.slot (m.mem.getD n.bx.toNat 0)) ((ids.getD t 0,some (.row 2 1 dt (((m.bg.getD t []).map i64).set n.slot.toNat (i64 (m.mem.getD n.bx.toNat 0)))))::H):=hL.dS (t:=t) (by omega) n.slot (m.mem.getD n.bx.toNat 0) ⟨dt,cI _ _ _⟩ fun y hy hne=>bz hne
  have hm1:ML.Nt ⟨0,a,s,me,ho,pr,ids⟩ u ({ m.dS t n.slot (m.mem.getD n.bx.toNat 0) with mem:=m.mem.set n.bx.toNat (m.val t n.a) }) ((me,some (.row 2 1 de ((m.mem.map i64).set n.bx.toNat (i64 (m.val t n.a)))))::((ids.getD t 0,some (.row 2 1 dt (((m.bg.getD t []).map i64).set n.slot.toNat (i64 (m.mem.getD n.bx.toNat 0)))))::H)):=hm0.fQ (t:=t) (by simp only[MS.dS,List.length_set];omega) n.bx (m.val t n.a) ⟨_,cI _ _ _⟩ fun y hy hne=>bz hne
  refine cN ?_
  refine aS (ej u m n.a (by omega) (by omega) (hao.a (by omega))) (my hL (fun y hy=> ?_) [i64 t,n.a.av] (by simp[cP,bw])) (by simp[cP,bw]) trivial ?_
  ·have:=hall y hy;exact br
  refine cN ?_
  refine⟨fin _ ⟨_,_,_,_,_,_⟩ (ML.Nt.BO (t:=t) hm1 (by simp only[MS.dS,List.length_set];omega) t _ ⟨_,bf⟩ fun y hy hne=> ?_)⟩
  have:=hall y hy
  by_cases e:y=me
  ·subst e;exact Eq.trans bf (cI _ _ _).symm
  ·rw[bz e]
   by_cases e:y=ids.getD t 0
   ·rw[e];exact Eq.trans bf (cI _ _ _).symm
   ·rw[bz e];exact br
 case inr.inr.inr.inr.inr.inr.inl=>
  have r0:=hk
  have r1:n.bx=0:=hno'.bx.2 (by unfold eS;exact decide_eq_false (by omega))
  have hact:m.act t n=({ m with bk:=m.bk++[⟨(t:Int),m.val t n.a⟩] },n.next,0,m.val t n.a,0):=by unfold MS.act;simp[hk]
  rw[hact]
  have fin:∀(H':Hp) (d:fC),ML.Nt ⟨0,a,s,me,ho,pr,ids⟩ u ({ m with bk:=m.bk++[⟨(t:Int),m.val t n.a⟩],at_:=m.at_.set t n.next }) H'→cV.dR H' 6 (.dH [.agg [bn u.shared,bn u.bo,cL u.bh, .sl a m.at_.length, .sl s m.bg.length, .sl me m.mem.length, .sl ho m.hold.length, .sl pr (m.bk.length+1)],d.av,i64 0])= .dH [({ m with bk:=m.bk++[⟨(t:Int),m.val t n.a⟩],at_:=m.at_.set t n.next }:MS).av u,d.av,i64 0]:=fun H' d h=>by
   have:=gU h d
   rw[show({ m with bk:=m.bk++[⟨(t:Int),m.val t n.a⟩],at_:=m.at_.set t n.next }:MS).rows u a s me ho pr= .agg [bn u.shared,bn u.bo,cL u.bh, .sl a m.at_.length, .sl s m.bg.length, .sl me m.mem.length, .sl ho m.hold.length, .sl pr (m.bk.length+1)] by simp[MS.rows,MS.dS]] at this
   exact this
  have hm1:ML.Nt ⟨0,a,s,me,ho,pr,ids⟩ u ({ m with bk:=m.bk++[⟨(t:Int),m.val t n.a⟩] }) ((0,some (.row 80 8 d0 [.agg [bn u.shared,bn u.bo,cL u.bh, .sl a m.at_.length, .sl s m.bg.length, .sl me m.mem.length, .sl ho m.hold.length, .sl pr (m.bk.length+1)]]))::(pr,some (.row 89 2 dp (m.bk.map cM.av++[(⟨(t:Int),m.val t n.a⟩:cM).av])))::H):=hL.yr (t:=t) (by omega) ⟨(t:Int),m.val t n.a⟩ ⟨d0,by rw[show({ m with bk:=m.bk++[⟨(t:Int),m.val t n.a⟩] }:MS).rows u (ML.a ⟨0,a,s,me,ho,pr,ids⟩) (ML.s ⟨0,a,s,me,ho,pr,ids⟩) (ML.me ⟨0,a,s,me,ho,pr,ids⟩) (ML.ho ⟨0,a,s,me,ho,pr,ids⟩) (ML.pr ⟨0,a,s,me,ho,pr,ids⟩)= .agg [bn u.shared,bn u.bo,cL u.bh, .sl a m.at_.length, .sl s m.bg.length, .sl me m.mem.length, .sl ho m.hold.length, .sl pr (m.bk.length+1)] by simp[MS.rows]];exact cI _ _ _⟩ ⟨dp,(bz (by show pr≠0;omega)).trans (cI _ _ _)⟩ fun y hy h1 h2=>(bz h2).trans (bz h1)
  have a5:(m.bk.map cM.av).length=m.bk.length:=by simp
  refine cN ?_
  refine aS (ej u m n.a (by omega) (by omega) (hao.a (by omega))) (my hL (fun y hy=> ?_) [i64 t,n.a.av] (by simp[cP,bw])) (by simp[cP,bw]) trivial ?_
  ·have:=hall y hy;exact br
  refine cN ?_
  refine⟨fin _ ⟨_,_,_,_,_,_⟩ (ML.Nt.BO (t:=t) hm1 (by simp only[MS.dS,List.length_set];omega) t _ ⟨_,bf⟩ fun y hy hne=> ?_)⟩
  have:=hall y hy
  by_cases e:y=0
  ·subst e;exact Eq.trans bf (cI _ _ _).symm
  ·rw[bz e]
   by_cases e:y=pr
   ·subst e;exact Eq.trans bf (cI _ _ _).symm
   ·rw[bz e];exact br
 case inr.inr.inr.inr.inr.inr.inr=>
  have r0:=hk
  have r1:n.bx=0:=hno'.bx.2 (by unfold eS;exact decide_eq_false (by omega))
  have hv:=hao.a (by omega)
  by_cases hz0:m.val t n.a=0
  ·have hact:m.act t n=(m,n.oV,0,m.val t n.a,0):=by unfold MS.act;simp[hk,hz0]
   rw[hact]
   have fin:∀(H':Hp) (d:fC),ML.Nt ⟨0,a,s,me,ho,pr,ids⟩ u ({ m with at_:=m.at_.set t n.oV }) H'→cV.dR H' 6 (.dH [.agg [bn u.shared,bn u.bo,cL u.bh, .sl a m.at_.length, .sl s m.bg.length, .sl me m.mem.length, .sl ho m.hold.length, .sl pr m.bk.length],d.av,i64 0])= .dH [({ m with at_:=m.at_.set t n.oV }:MS).av u,d.av,i64 0]:=fun H' d h=>by
    have:=gU h d
    rw[show({ m with at_:=m.at_.set t n.oV }:MS).rows u a s me ho pr= .agg [bn u.shared,bn u.bo,cL u.bh, .sl a m.at_.length, .sl s m.bg.length, .sl me m.mem.length, .sl ho m.hold.length, .sl pr m.bk.length] by simp[MS.rows,MS.dS]] at this
    exact this
   refine cN ?_
   refine aS (ej u m n.a (by omega) (by omega) hv) (my hL (fun y hy=> ?_) [i64 t,n.a.av] (by simp[cP,bw])) (by simp[cP,bw]) trivial ?_
   ·have:=hall y hy;exact br
   rw[hz0]
   refine cN ?_
   refine⟨fin _ ⟨_,_,_,_,_,_⟩ (ML.Nt.BO (t:=t) hL (by omega) t _ ⟨_,bf⟩ fun y hy hne=> ?_)⟩
   have:=hall y hy
   exact br
  ·have hact:m.act t n=(m,n.next,0,m.val t n.a,0):=by unfold MS.act;simp[hk,hz0]
   rw[hact]
   have fin:∀(H':Hp) (d:fC),ML.Nt ⟨0,a,s,me,ho,pr,ids⟩ u ({ m with at_:=m.at_.set t n.next }) H'→cV.dR H' 6 (.dH [.agg [bn u.shared,bn u.bo,cL u.bh, .sl a m.at_.length, .sl s m.bg.length, .sl me m.mem.length, .sl ho m.hold.length, .sl pr m.bk.length],d.av,i64 0])= .dH [({ m with at_:=m.at_.set t n.next }:MS).av u,d.av,i64 0]:=fun H' d h=>by
    have:=gU h d
    rw[show({ m with at_:=m.at_.set t n.next }:MS).rows u a s me ho pr= .agg [bn u.shared,bn u.bo,cL u.bh, .sl a m.at_.length, .sl s m.bg.length, .sl me m.mem.length, .sl ho m.hold.length, .sl pr m.bk.length] by simp[MS.rows,MS.dS]] at this
    exact this
   refine cN ?_
   refine aS (ej u m n.a (by omega) (by omega) hv) (my hL (fun y hy=> ?_) [i64 t,n.a.av] (by simp[cP,bw])) (by simp[cP,bw]) trivial ?_
   ·have:=hall y hy;exact br
   refine cN ?_
   refine⟨fin _ ⟨_,_,_,_,_,_⟩ (ML.Nt.BO (t:=t) hL (by omega) t _ ⟨_,bf⟩ fun y hy hne=> ?_)⟩
   have:=hall y hy
   exact br
end Go.Proofs.YtekfmjjmihomlaaGreat
end
section
/- The document's Copy as a value; an end. -/
namespace Go.Proofs.YtekfmjjmihomlaaGreat
open Go Go.cV Go.Proofs
set_option linter.unusedSimpArgs false
set_option linter.unusedVariables false
set_option maxRecDepth 8000
theorem zB (u:bj) (hr:ct u) (m:MS) (h:eN u m) (hne:m.at_≠[]) (hp:m.bk.length≤1048576):Pure Tryz.prog 70 [m.av u] (fun r=>r=m.av u):=
 dP ((qw u hr m h hne hp [] 0).mono fun r H n ⟨mr,a,s,me,ho,pr,ids,hr,hN,_⟩=>by rw[hr];exact hN.JZ 3) (AA 0 u m)
theorem J0 {H:Hp} {a b:Nat} {ps:List cM} {ws:List Int} {x:Bool} (h1:∃d,bd H a=some (.row 89 2 d (ps.map cM.av))) (h2:∃d,bd H b=some (.row 2 1 d (ws.map i64))):cV.dR H 6 (.agg [.sl a (0+(ps.map cM.av).length), .sl b (0+(ws.map i64).length),bl x])= .agg [dE ps,cW ws,bl x]:=by
 obtain⟨d1,h1⟩:=h1
 obtain⟨d2,h2⟩:=h2
 rw[lh,List.map_cons,List.map_cons,List.map_cons,List.map_nil,dG h1 (by simp),dG h2 (by simp),cc _ ((bu _ _).2 fun _ _=>by simp[bw]),cc _ ((bu _ _).2 fun _ _=>by simp[bw]),cr _ (show bw 0 (bl x) by simp[bw])]
theorem DA (u:bj) (hr:ct u) (m:MS) (h:eN u m) (hp:m.bk.length≤1048576):Pure Tryz.prog 40 [m.av u] (fun r=>r=(m.end_ u).av):=by
 have hgl:=hr.tv
 have hml:=h.ml
 have a0:(m.bk.map cM.av).length=m.bk.length:=by simp
 have a1:(m.mem.map i64).length=m.mem.length:=by simp
 have c0:=xI u hr m h
 refine dP ?_ (by simp[bw,cP,bu,dc.cells])
 refine aQ GC rfl ?_
 refine cN ?_
 exact⟨J0 (x:=m.ended u) ⟨_,bf⟩ ⟨_,bf⟩⟩
theorem rn (a b:List cM) (hl:a.length≤140737488355328):Pure Tryz.prog 62 [dE a,dE b] (fun r=>r=bl (decide (a=b))):=by
 have a0:(a.map cM.av).length=a.length:=by simp
 have a1:(b.map cM.av).length=b.length:=by simp
 refine aI GQ rfl ?_
 by_cases hne:a.length=b.length
 ·refine cN ?_
  rw[List.length_map]
  refine aP (fun i:Nat=>[(0,dE a),(1,dE b),(12,i64 a.length),(13,i64 i)]) (fun i H n=>i≤a.length∧∀j:Nat,j<i→a.getD j default=b.getD j default) (fun i=>a.length - i) 0 cC ⟨Nat.zero_le _,fun j hj=>by omega⟩ ?_
  rintro i H n ⟨hi,hall⟩
  by_cases hil:i<a.length
  ·have e0:∀d,(a.map cM.av).getD ((i:Int)).toNat d=(a.getD i default).av:=fun d=>by rw[Int.toNat_natCast];exact cu cM.av a i d hil
   have e1:∀d,(b.map cM.av).getD ((i:Int)).toNat d=(b.getD i default).av:=fun d=>by rw[Int.toNat_natCast];exact cu cM.av b i d (by omega)
   by_cases hx:a.getD i default=b.getD i default
   ·have r0:(!(decide ((a.getD i default).cS=(b.getD i default).cS)&&(decide ((a.getD i default).word=(b.getD i default).word)&&true)))=false:=by rw[hx];simp
    refine cN ?_
    exact⟨i+1,by omega,cC,by omega,fun j hj=>by
     by_cases e:j=i
     ·rw[e];exact hx
     ·exact hall j (by omega)⟩
   ·have r0:(!(decide ((a.getD i default).cS=(b.getD i default).cS)&&(decide ((a.getD i default).word=(b.getD i default).word)&&true)))=true:=by
     rw[Bool.not_eq_true',Bool.and_true,Bool.and_eq_false_iff,decide_eq_false_iff_not,decide_eq_false_iff_not]
     refine Decidable.byContradiction fun hn=>hx ?_
     have h1:(a.getD i default).cS=(b.getD i default).cS:=Decidable.byContradiction fun h=>hn (.inl h)
     have h2:(a.getD i default).word=(b.getD i default).word:=Decidable.byContradiction fun h=>hn (.inr h)
     generalize a.getD i default=x at *
     generalize b.getD i default=y at *
     obtain⟨x1,x2⟩:=x
     obtain⟨y1,y2⟩:=y
     simp only at h1 h2
     rw[h1,h2]
    refine cN ?_
    refine dW (Eq.symm ?_)
    exact decide_eq_false fun e=>hx (by rw[e])
  ·refine cN ?_
   refine dW (Eq.symm ?_)
   refine decide_eq_true ?_
   apply List.ext_getElem hne
   intro j q1 q2
   have:=hall j (by omega)
   simpa[List.getD,q1,q2] using this
 ·refine cN ?_
  refine dW (Eq.symm ?_)
  exact decide_eq_false fun e=>hne (by rw[e])
theorem nC (a b:List Int) (hl:a.length≤140737488355328):Pure Tryz.prog 29 [cW a,cW b] (fun r=>r=bl (decide (a=b))):=by
 have a0:(a.map i64).length=a.length:=by simp
 have a1:(b.map i64).length=b.length:=by simp
 refine aI F7 rfl ?_
 by_cases hne:a.length=b.length
 ·refine cN ?_
  rw[List.length_map]
  refine aP (fun i:Nat=>[(0,cW a),(1,cW b),(12,i64 a.length),(13,i64 i)]) (fun i H n=>i≤a.length∧∀j:Nat,j<i→a.getD j 0=b.getD j 0) (fun i=>a.length - i) 0 cC ⟨Nat.zero_le _,fun j hj=>by omega⟩ ?_
  rintro i H n ⟨hi,hall⟩
  by_cases hil:i<a.length
  ·have e0:=fun d=>eG (l:=a) hil d
   have e1:=fun d=>eG (l:=b) (k:=i) (by omega) d
   by_cases hx:a.getD i 0=b.getD i 0
   ·have r0:=hx
    refine cN ?_
    exact⟨i+1,by omega,cC,by omega,fun j hj=>by
     by_cases e:j=i
     ·rw[e];exact hx
     ·exact hall j (by omega)⟩
   ·refine cN ?_
    refine dW (Eq.symm ?_)
    exact decide_eq_false fun e=>hx (by rw[e])
  ·refine cN ?_
   refine dW (Eq.symm ?_)
   refine decide_eq_true ?_
   apply List.ext_getElem hne
   intro j q1 q2
   have:=hall j (by omega)
   simpa[List.getD,q1,q2] using this
 ·refine cN ?_
  refine dW (Eq.symm ?_)
  exact decide_eq_false fun e=>hne (by rw[e])
end Go.Proofs.YtekfmjjmihomlaaGreat
end
section
/- The order of texts; Spot. -/
namespace Go.Proofs.YtekfmjjmihomlaaGreat
open Go Go.cV Go.Proofs
set_option linter.unusedSimpArgs false
set_option linter.unusedVariables false
set_option maxRecDepth 8000
abbrev gI (x y:List UInt8):Bool:=Op.bytesLess x y
theorem sI:∀x:List UInt8,gI x x=false
 |[]=>rfl
 |a::x=>by
  have:=sI x
  simp only[gI,Op.bytesLess] at this ⊢
  simp[this]
theorem qF:∀{x y z:List UInt8},gI x y=true→gI y z=true→gI x z=true
 |_,[],_,h,_=>by simp[gI,Op.bytesLess] at h
 |_,_::_,[],_,h=>by simp[gI,Op.bytesLess] at h
 |[],_::_,_::_,_,_=>by simp[gI,Op.bytesLess]
 |a::x,b::y,c::z,h1,h2=>by
  have ih:=fun h1 h2=>qF (x:=x) (y:=y) (z:=z) h1 h2
  simp only[gI,Op.bytesLess,Bool.or_eq_true,Bool.and_eq_true,decide_eq_true_eq,beq_iff_eq] at h1 h2 ih ⊢
  rcases h1 with h1|⟨rfl,h1⟩<;>rcases h2 with h2|⟨rfl,h2⟩
  ·exact .inl (UInt8.lt_trans h1 h2)
  ·exact .inl h1
  ·exact .inl h2
  ·exact .inr ⟨rfl,ih h1 h2⟩
theorem sJ:∀{x y:List UInt8},x≠y→gI x y=true∨gI y x=true
 |[],[],h=>absurd rfl h
 |[],_::_,_=>by simp[gI,Op.bytesLess]
 |_::_,[],_=>by simp[gI,Op.bytesLess]
 |a::x,b::y,h=>by
  simp only[gI,Op.bytesLess,Bool.or_eq_true,Bool.and_eq_true,decide_eq_true_eq,beq_iff_eq]
  by_cases e:a=b
  ·subst e
   have:=sJ (x:=x) (y:=y) (fun e=>h (by rw[e]))
   rcases this with h1|h1
   ·exact .inl (.inr ⟨rfl,h1⟩)
   ·exact .inr (.inr ⟨rfl,h1⟩)
  ·rcases UInt8.lt_or_lt_of_ne e with h1|h1
   ·exact .inl (.inl h1)
   ·exact .inr (.inl h1)
def ud (l:List (List UInt8)):Prop:=l.Pairwise fun x y=>gI x y=true
def spot (l:List (List UInt8)) (k:List UInt8):Nat:=l.countP fun x=>gI x k
theorem pe (l:List (List UInt8)) (k:List UInt8):spot l k≤l.length:=List.countP_le_length
theorem kC {k:List UInt8}:∀{l:List (List UInt8)},ud l→∀j,j<l.length→(gI (l.getD j []) k=true↔j<spot l k)
 |[],_,j,h=>by simp at h
 |x::l,hr,j,h=>by
  obtain⟨h1,h2⟩:=List.pairwise_cons.1 hr
  unfold spot
  rw[List.countP_cons]
  by_cases hx:gI x k=true
  ·rw[if_pos hx]
   cases j with
   |zero=>simp[List.getD,hx]
   |succ j=>
    have:=kC (k:=k) h2 j (by simpa using h)
    unfold spot at this
    rw[show(x::l).getD (j+1) []=l.getD j [] by simp[List.getD]]
    rw[this];omega
  ·rw[if_neg hx]
   have h0:l.countP (fun x=>gI x k)=0:=by
    rw[List.countP_eq_zero]
    exact fun y hy hyk=>hx (qF (h1 y hy) hyk)
   rw[h0]
   cases j with
   |zero=>simp[List.getD,hx]
   |succ j=>
    rw[show(x::l).getD (j+1) []=l.getD j [] by simp[List.getD]]
    have hj:j<l.length:=by simpa using h
    constructor
    ·intro hyk
     exact absurd (qF (h1 _ (cX [] hj)) hyk) hx
    ·intro h;omega
theorem mm {l:List (List UInt8)} (hr:ud l) (k:List UInt8):k∈l↔spot l k<l.length∧l.getD (spot l k) []=k:=by
 constructor
 ·intro h
  obtain⟨j,hj,rfl⟩:=List.mem_iff_getElem.1 h
  have e:l.getD j []=l[j]:=by simp[List.getD,hj]
  have h1:¬j<spot l l[j]:=fun h=>by
   have:=(kC hr j hj).2 h
   rw[e,sI] at this
   cases this
  have h2:¬spot l l[j]<j:=fun h=>by
   have:=List.pairwise_iff_getElem.1 hr (spot l l[j]) j (by omega) hj h
   have h3:=(kC (k:=l[j]) hr (spot l l[j]) (by omega)).1 (by rw[List.getD,List.getElem?_eq_getElem (by omega)];exact this)
   omega
  have h3:spot l l[j]=j:=by omega
  rw[h3]
  exact⟨hj,e⟩
 ·rintro⟨h1,h2⟩
  rw[←h2]
  exact cX [] h1
end Go.Proofs.YtekfmjjmihomlaaGreat
end
section
/- Spot walked. -/
namespace Go.Proofs.YtekfmjjmihomlaaGreat
open Go Go.cV Go.Proofs
set_option linter.unusedSimpArgs false
set_option linter.unusedVariables false
set_option maxRecDepth 8000
abbrev dw (k:List UInt8):AV:= .sc (.string (eL k))
abbrev II (l:List (List UInt8)):AV:= .im 1 .any (l.map dw)
theorem k9 (k:List UInt8):(eL k).toList=k:=by rw[ByteArray.toList_eq]
theorem QQ (a b:ByteArray):(a==b)=decide (a=b):=by
 obtain⟨d⟩:=a
 obtain⟨d'⟩:=b
 show(d==d')=_
 rw[Bool.eq_iff_iff]
 simp
set_option maxHeartbeats 2000000 in
theorem DO (l:List (List UInt8)) (k:List UInt8) (hr:ud l) (hl:l.length≤65536):Pure Tryz.prog 71 [II l,dw k] (fun r=>r= .dH [i64 (spot l k),bl (decide (k∈l))]):=by
 have hs:=pe l k
 have a0:(l.map dw).length=l.length:=by simp
 refine aI GZ rfl ?_
 refine cN ?_
 simp only[List.length_map]
 refine aP (fun σ:Nat×Nat=>[(0,II l),(1,dw k),(6,i64 σ.1),(7,i64 σ.2)]) (fun σ H n=>σ.1≤spot l k∧spot l k≤σ.2∧σ.2≤l.length) (fun σ=>σ.2 - σ.1) (0,l.length) cC ⟨Nat.zero_le _,hs,Nat.le_refl _⟩ ?_
 rintro⟨lo,hi⟩ H n ⟨h1,h2,h3⟩
 dsimp only at h1 h2 h3 ⊢
 by_cases hlt:lo<hi
 ·have r1:((lo:Int)+(hi:Int)).tdiv 2=(((lo+hi) /2:Nat):Int):=by rw[Int.tdiv_eq_ediv_of_nonneg (by omega)];omega
  have hm:(lo+hi) /2<l.length:=by omega
  have e0:∀d,(l.map dw).getD (((lo+hi) /2:Nat):Int).toNat d=dw (l.getD ((lo+hi) /2) []):=fun d=>by rw[Int.toNat_natCast];exact cu dw l _ d hm
  have hiff:=kC (k:=k) hr _ hm
  have r2:IntKind.i64.wrap (((lo+hi) /2:Nat):Int)=(((lo+hi) /2:Nat):Int):=by rw[IntKind.wrap_i64];omega
  have hb1:lo≤(lo+hi) /2∧(lo+hi) /2<hi:=by omega
  by_cases hb:gI (l.getD ((lo+hi) /2) []) k=true
  ·have r0:Op.bytesLess (eL (l.getD ((((lo+hi) /2:Nat):Int)).toNat default)).toList (eL k).toList=true:=by rw[Int.toNat_natCast,k9,k9];exact hb
   have:=hiff.1 hb
   refine cN ?_
   exact⟨((lo+hi) /2+1,hi),by dsimp only;omega,cC,by dsimp only;omega,h2,h3⟩
  ·have r0:Op.bytesLess (eL (l.getD ((((lo+hi) /2:Nat):Int)).toNat default)).toList (eL k).toList=false:=by rw[Int.toNat_natCast,k9,k9];exact Bool.eq_false_iff.2 hb
   have:¬(lo+hi) /2<spot l k:=fun h=>hb (hiff.2 h)
   refine cN ?_
   exact⟨(lo,(lo+hi) /2),by dsimp only;omega,cC,h1,by dsimp only;omega,by dsimp only;omega⟩
 ·have e:lo=spot l k:=by omega
  subst e
  by_cases hlt2:spot l k<l.length
  ·have e0:∀d,(l.map dw).getD ((spot l k:Nat):Int).toNat d=dw (l.getD (spot l k) []):=fun d=>by rw[Int.toNat_natCast];exact cu dw l _ d hlt2
   have hth:(k∈l)↔l.getD (spot l k) []=k:=⟨fun h=>((mm hr k).1 h).2,fun h=>(mm hr k).2 ⟨hlt2,h⟩⟩
   have r0:decide (((spot l k:Nat):Int)<(((l.map dw).length:Nat):Int))=true:=decide_eq_true (by rw[a0];omega)
   refine cN ?_
   have hq:(eL (l.getD (spot l k) [])==eL k)=decide (k∈l):=by
    rw[QQ]
    by_cases h:l.getD (spot l k) []=k
    ·rw[h,decide_eq_true rfl,decide_eq_true (hth.2 h)]
    ·rw[decide_eq_false (fun e=>h (hth.1 e)),decide_eq_false fun e=>h (BC e)]
   first|(rw[hq];exact rfl)|(rw[←hq];exact rfl)
  ·have hth:¬k∈l:=fun h=>hlt2 ((mm hr k).1 h).1
   rw[decide_eq_false hth]
   have r0:decide (((spot l k:Nat):Int)<(((l.map dw).length:Nat):Int))=false:=decide_eq_false (by rw[a0];omega)
   refine cN ?_
   first|exact rfl|trivial
end Go.Proofs.YtekfmjjmihomlaaGreat
end
section
/- Insert walked. -/
namespace Go.Proofs.YtekfmjjmihomlaaGreat
open Go Go.cV Go.Proofs
set_option linter.unusedSimpArgs false
set_option linter.unusedVariables false
set_option maxRecDepth 8000
def eY (l:List (List UInt8)) (i:Nat) (x:List UInt8):List (List UInt8):=l.take i++x::l.drop i
theorem jF {l:List (List UInt8)} {i:Nat} {x:List UInt8} (hi:i≤l.length):(eY l i x).length=l.length+1:=by
 unfold eY;rw[List.length_append,List.length_cons,List.length_take,List.length_drop];omega
theorem C8 (l:List (List UInt8)) (x:List UInt8):eY l l.length x=l++[x]:=by simp[eY]
theorem tF {l:List (List UInt8)} {i:Nat} {x y:List UInt8} (hi:i≤l.length):(eY l i x).set i y=eY l i y:=by
 unfold eY
 rw[List.set_append,if_neg (by rw[List.length_take];omega),List.length_take,Nat.min_eq_left hi,Nat.sub_self,List.set_cons_zero]
theorem yz {l:List (List UInt8)} {i:Nat} (hi:i<l.length):eY l (i+1) (l.getD i [])=eY l i (l.getD i []):=by
 unfold eY
 rw[List.take_succ_eq_append_getElem hi,List.append_assoc,List.drop_eq_getElem_cons hi]
 simp[List.getD,hi]
theorem H8 {l:List (List UInt8)} {i:Nat} {x:List UInt8} (hi:i<l.length):(eY l (i+1) x).getD i []=l.getD i []:=by
 unfold eY
 rw[List.getD,List.getElem?_append_left (by rw[List.length_take];omega),List.getElem?_take,if_pos (by omega)]
 rfl
theorem yy {l:List (List UInt8)} (hr:ud l) {k:List UInt8} (hk:k∉l):ud (eY l (spot l k) k):=by
 have hs:=pe l k
 unfold eY ud
 rw[List.pairwise_append,List.pairwise_cons]
 refine⟨hr.sublist (List.take_sublist _ _),⟨fun y hy=> ?_,hr.sublist (List.drop_sublist _ _)⟩,fun a ha b hb=> ?_⟩
 ·obtain⟨j,hj,rfl⟩:=List.mem_iff_getElem.1 hy
  rw[List.length_drop] at hj
  rw[List.getElem_drop]
  have h1:=(kC (k:=k) hr (spot l k+j) (by omega))
  rw[show l.getD (spot l k+j) []=l[spot l k+j]'(by omega) by simp[List.getD,show spot l k+j<l.length by omega]] at h1
  rcases sJ (x:=k) (y:=l[spot l k+j]'(by omega)) (fun e=>hk (by rw[e];exact List.getElem_mem _)) with h|h
  ·exact h
  ·have:=h1.1 h;omega
 ·obtain⟨j,hj,rfl⟩:=List.mem_iff_getElem.1 ha
  rw[List.length_take] at hj
  have h1:=(kC (k:=k) hr j (by omega)).2 (by omega)
  rw[show l.getD j []=l[j]'(by omega) by simp[List.getD,show j<l.length by omega]] at h1
  rw[List.getElem_take]
  rcases List.mem_cons.1 hb with rfl|hb
  ·exact h1
  ·obtain⟨q,hq,rfl⟩:=List.mem_iff_getElem.1 hb
   rw[List.length_drop] at hq
   rw[List.getElem_drop]
   exact List.pairwise_iff_getElem.1 hr j (spot l k+q) (by omega) (by omega) (by omega)
set_option maxHeartbeats 2000000 in
theorem ve (l:List (List UInt8)) (p:Nat) (k:List UInt8) (hp:p≤l.length) (hl:l.length≤65536) {b nx:Nat} {H:Hp} (hb:b<nx) (r:∃d,bd H b=some (.row 9 1 d (l.map dw))):
 cJ Tryz.prog 72 [.sl b l.length,i64 p,dw k] H nx (fun r H' n=>r= .sl b (l.length+1)∧(∃d,bd H' b=some (.row 9 1 d ((eY l p k).map dw)))∧nx≤n∧∀y,y<nx→y≠b→bd H' y=bd H y):=by
 obtain⟨d,r⟩:=r
 have a0:(l.map dw).length=l.length:=by simp
 refine aQ G0 rfl ?_
 refine cN ?_
 refine aP (fun i:Nat=>[(0, .sl b (l.length+1)),(1,i64 p),(2,dw k),(7,i64 i)]) (fun i H' n=>p≤i∧i≤l.length∧nx≤n∧(∃x d,bd H' b=some (.row 9 1 d ((eY l i x).map dw)))∧∀y,y<nx→y≠b→bd H' y=bd H y) (fun i=>i) l.length ⟨rfl,rfl,rfl,by show i64 (IntKind.i64.wrap (((l.length+1:Nat):Int) - 1))=i64 l.length;rw[IntKind.wrap_i64];congr 3;omega,trivial⟩ ⟨hp,Nat.le_refl _,cU,⟨k,_,by rw[C8,List.map_append];exact bf⟩,fun y y1 y2=>br⟩ ?_
 rintro i H' n ⟨h1,h2,hn,⟨x,d2,r2⟩,hkp⟩
 have a1:((eY l i x).map dw).length=l.length+1:=by rw[List.length_map,jF h2]
 by_cases hlt:p<i
 ·obtain⟨j,rfl⟩:∃j,i=j+1:=⟨i - 1,by omega⟩
  have e0:∀d,((eY l (j+1) x).map dw).getD (((j+1:Nat):Int) - 1).toNat d=dw (l.getD j []):=fun d=>by
   rw[show(((j+1:Nat):Int) - 1).toNat=j by omega,cu dw _ j d (by rw[jF h2];omega)]
   exact congrArg dw (H8 (by omega))
  have e1:∀d,((eY l (j+1) x).map dw).getD (((j+1:Nat):Int)).toNat d=dw ((eY l (j+1) x).getD (j+1) []):=fun d=>by rw[Int.toNat_natCast];exact cu dw _ _ d (by rw[jF h2];omega)
  have hnx:((eY l (j+1) x).map dw).set (((j+1:Nat):Int)).toNat (dw (l.getD j []))=(eY l j (l.getD j [])).map dw:=by rw[Int.toNat_natCast,←List.map_set,tF (by omega),yz (by omega)]
  refine cN ?_
  exact⟨j,by omega,cC,by omega,by omega,cU,⟨_,_,by rw[←hnx];exact bf⟩,fun y y1 y2=>Eq.trans br (hkp y y1 y2)⟩
 ·obtain rfl:i=p:=by omega
  have e1:∀d,((eY l i x).map dw).getD ((i:Int)).toNat d=dw ((eY l i x).getD i []):=fun d=>by rw[Int.toNat_natCast];exact cu dw _ _ d (by rw[jF h2];omega)
  have hnx:((eY l i x).map dw).set ((i:Int)).toNat (dw k)=(eY l i k).map dw:=by rw[Int.toNat_natCast,←List.map_set,tF h2]
  refine cN ?_
  exact⟨⟨rfl,⟨_,by rw[←hnx];exact bf⟩,cU,fun y y1 y2=>Eq.trans br (hkp y y1 y2)⟩⟩
end Go.Proofs.YtekfmjjmihomlaaGreat
end
section
/- More is the same: the least that is enough. -/
namespace Go.Proofs.YtekfmjjmihomlaaGreat
open Go Go.cV Go.Proofs
set_option linter.unusedSimpArgs false
set_option linter.unusedVariables false
set_option maxRecDepth 8000
theorem mP (u:bj) (hu:u.Wf) (most:Int):((eo u most).1≠0∧(eo u most).2=[])∨∃l,ct u∧1≤most∧most≤65536∧fp u most.toNat=some l∧eo u most=(0,l)∧gR u l∧l.length≤most.toNat:=by
 by_cases hr:ct u
 ·by_cases hm:1≤most∧most≤65536
  ·rw[iX hr hm]
   cases h:fp u most.toNat with
   |none=>exact .inl ⟨by decide,rfl⟩
   |some l=>
    obtain⟨h1,h2,_⟩:=nM hu hr (by omega) h
    exact .inr ⟨l,hr,hm.1,hm.2,rfl,rfl,h1,h2⟩
  ·rw[iA hr hm]
   exact .inl ⟨by decide,rfl⟩
 ·rw[jm hr]
  exact .inl ⟨by decide,rfl⟩
end Go.Proofs.YtekfmjjmihomlaaGreat
end
