import Derived.Test.YtekfmjjmihomlaaGreatM39
import Derived.Test.YtekfmjjmihomlaaGreatM32
import Derived.Test.YtekfmjjmihomlaaGreatM30
import Derived.Test.YtekfmjjmihomlaaGreatM33
import Derived.Test.YtekfmjjmihomlaaGreatM38
import Derived.Test.YtekfmjjmihomlaaGreatM35
section
/- The document's Step. -/
namespace Go.Proofs.YtekfmjjmihomlaaGreat
open Go Go.cZ Go.Proofs
set_option linter.unusedSimpArgs false
set_option linter.unusedVariables false
set_option maxRecDepth 8000
theorem EH (u:bt) (hr:dC u) (m:MS) (h:eU u m) (t:Int) (hb:m.mQ u t≠0):Pure Tryz.prog 69 [m.av u,i64 t] (fun r=>r= .dV [m.av u,RZ.av,i64 (m.mQ u t)]):=by
 have c0:=pK u hr m h t
 have r0:=decide_eq_true hb
 refine dY ?_ (by simp[cE,cT,fJ.cells])
 refine aQ DS rfl ?_
 refine cV ?_
 exact⟨cx 6 (by simp[cE,cT])⟩
theorem nT {u:bt} {m:MS} {L:ML} {H H1:Hp} (hL:L.Nt u m H) (h1:∀y∈L.all,bn H1 y=bn H y) (l:List AV) (hl:cT 0 l):(m.rows u L.a L.s L.me L.ho L.pr::l).map (cZ.dX H1 6)=m.av u::l:=by
 rw[List.map_cons,(hL.cS h1).K8 3]
 congr 1
 exact rY fun a ha=>cx _ (nr hl a ha)
theorem I3 {u:bt} {m:MS} {mr a s me ho pr:Nat} {ids:List Nat} {H H':Hp} (h:NC u m mr a s me ho pr ids H) (b:Nat) (hb:b∉a::s::me::ho::pr::ids) (r:∃d,bn H' b=some (.row 80 8 d [m.rows u a s me ho pr])) (hk:∀y∈a::s::me::ho::pr::ids,bn H' y=bn H y):ML.Nt ⟨b,a,s,me,ho,pr,ids⟩ u m H':=by
 obtain⟨d2,h2⟩:=h.rA
 obtain⟨d3,h3⟩:=h.rS
 obtain⟨d4,h4⟩:=h.rE
 obtain⟨d5,h5⟩:=h.rH
 obtain⟨d6,h6⟩:=h.rP
 refine⟨r,⟨d2,(hk _ (by simp)).trans h2⟩,⟨d3,(hk _ (by simp)).trans h3⟩,fun t ht=> ?_,⟨d4,(hk _ (by simp)).trans h4⟩,⟨d5,(hk _ (by simp)).trans h5⟩,⟨d6,(hk _ (by simp)).trans h6⟩,h.len,List.nodup_cons.2 ⟨hb,(List.nodup_cons.1 h.nodup).2⟩⟩
 obtain⟨d,hd⟩:=h.rL t ht
 have:ids.getD t 0∈ids:=dN (by rw[h.len];exact ht)
 exact⟨d,(hk _ (by simp only[List.mem_cons];exact .inr (.inr (.inr (.inr (.inr this)))))).trans hd⟩
theorem gk {u:bt} {m:MS} {L:ML} {H:Hp} (hL:L.Nt u m H) (d:fJ):cZ.dX H 6 (.dV [m.rows u L.a L.s L.me L.ho L.pr,d.av,i64 0])= .dV [m.av u,d.av,i64 0]:=by
 show AV.dV (List.map (cZ.dX H 5) [m.rows u L.a L.s L.me L.ho L.pr,d.av,i64 0])=_
 rw[List.map_cons,List.map_cons,List.map_cons,List.map_nil,hL.K8 2,cx _ (show cE 0 d.av by simp[cE,cT,fJ.cells]),cx _ (show cE 0 (i64 0) by simp[cE])]
set_option maxHeartbeats 4000000 in
theorem AA (u:bt) (hu:u.Wf) (hr:dC u) (m:MS) (h:eU u m) (hp:m.bu.length≤1048576) (t:Nat) (ht:t<u.bo.length) (hb:m.mQ u t=0):Pure Tryz.prog 69 [m.av u,i64 t] (fun r=>r= .dV [(m.step u t).1.av u,(m.step u t).2.av,i64 0]):=by
 have c0:=pK u hr m h t
 rw[hb] at c0
 have hgl:=hr.vO
 have hal:=h.nX
 have hsl:=h.sl
 obtain⟨hk9,_⟩:=lN h ht hb
 have hao:=h.NG hu hr ht hk9
 refine dY ?_ (by simp[cE,cT,fJ.cells])
 refine aQ DS rfl ?_
 refine cV ?_
 refine aO (ru u hr m h (fun e=>by rw[e] at hal;simp at hal;omega) hp _ _) ?_
 rintro _ H1 n1 ⟨mr,a,s,me,ho,pr,ids,rfl,hN,hin,hn1,hk1⟩
 have q0:∃d,bn H1 0=some (.row 80 8 d [m.av u]):=⟨_,(hk1 0 (by omega)).trans bq⟩
 have q1:∃d,bn H1 1=some (.row 80 8 d [fZ true [.slice none 0 0, .slice none 0 0, .slice none 0 0, .slice none 0 0, .slice none 0 0, .slice none 0 0, .slice none 0 0, .slice none 0 0]]):=⟨_,(hk1 1 (by omega)).trans bq⟩
 have q2:∃d,bn H1 2=some (.row 49 6 d [fZ true [.int .i64 0, .int .i64 0, .int .u8 0, .int .i64 0, .int .i64 0, .int .i64 0]]):=⟨_,(hk1 2 (by omega)).trans bq⟩
 clear hk1
 obtain⟨d0,q0⟩:=q0
 obtain⟨d1,q1⟩:=q1
 obtain⟨d2,q2⟩:=q2
 have hno:=rv u m (by omega) h ht
 refine Eq.mpr (by rw[MS.rows]) (?_:Go _)
 refine cV ?_
 refine aS hno (nT (L:=⟨0,a,s,me,ho,pr,ids⟩) (I3 hN 0 ?_ ⟨_,(bq:bn _ 0=some (.row _ 8 _ [m.rows u a s me ho pr]))⟩ fun y hy=> ?_) (fun y hy=>rfl) [i64 t] (by simp[cT,cE])) (by simp[cT,cE]) (by simp[fw,nt,Node.cells]) ?_
 ·simp only[List.mem_cons,not_or]
  exact⟨by have:=hin a (by simp);omega,by have:=hin s (by simp);omega,by have:=hin me (by simp);omega,by have:=hin ho (by simp);omega,by have:=hin pr (by simp);omega,fun hy=>by have:=hin 0 (by simp[hy]);omega⟩
 ·have:=hin y (List.mem_cons_of_mem _ hy);exact cB
 refine KJ ?_
 have hz:(0:Nat)∉a::s::me::ho::pr::ids:=fun hy=>by have:=hin 0 (List.mem_cons_of_mem _ hy);omega
 refine CY (Rt.refl _ _ _) (fun H=>ML.Nt ⟨0,a,s,me,ho,pr,ids⟩ u m H∧(∃d,bn H 0=some (.row 80 8 d [.agg [bw u.shared,bw u.bx,cR u.bo, .sl a m.at_.length, .sl s m.br.length, .sl me m.mem.length, .sl ho m.hold.length, .sl pr m.bu.length]]))∧(∃d,bn H 1=some (.row 80 8 d [fZ true [.slice none 0 0, .slice none 0 0, .slice none 0 0, .slice none 0 0, .slice none 0 0, .slice none 0 0, .slice none 0 0, .slice none 0 0]]))∧(∃d,bn H 2=some (.row 49 6 d [fZ true [.int .i64 0, .int .i64 0, .int .u8 0, .int .i64 0, .int .i64 0, .int .i64 0]]))∧∃d,bn H (n1+3)=some (.row 109 13 d [(m.node u t).av])) ⟨I3 hN 0 hz ⟨_,(bq:bn _ 0=some (.row _ 8 _ [m.rows u a s me ho pr]))⟩ (fun y hy=>by have:=hin y (List.mem_cons_of_mem _ hy);exact cB),⟨_,bq⟩,⟨_,Eq.trans cB q1⟩,⟨_,Eq.trans cB q2⟩,⟨_,bq⟩⟩ ?_
 clear q0 q1 q2 hN hz
 rintro H ⟨hL,⟨d0,r0'⟩,⟨d1,q1⟩,⟨d2,q2⟩,⟨d3,r3'⟩⟩
 have pa:=hin a (by simp)
 have ps:=hin s (by simp)
 have pme:=hin me (by simp)
 have pho:=hin ho (by simp)
 have ppr:=hin pr (by simp)
 have hil:ids.getD t 0∈ids:=dN (by have:=hL.len;simp only at this;omega)
 have pit:=hin (ids.getD t 0) (List.mem_cons_of_mem _ (List.mem_cons_of_mem _ (List.mem_cons_of_mem _ (List.mem_cons_of_mem _ (List.mem_cons_of_mem _ (List.mem_cons_of_mem _ hil))))))
 obtain⟨-,-,x1,x2,x3,x4,x5⟩:=jm hL (t:=t) (by omega)
 have x1:ids.getD t 0≠a:=x1
 have x2:ids.getD t 0≠s:=x2
 have x3:ids.getD t 0≠me:=x3
 have x4:ids.getD t 0≠ho:=x4
 have x5:ids.getD t 0≠pr:=x5
 have hdd:(a≠s∧a≠me∧a≠ho∧a≠pr)∧(s≠me∧s≠ho∧s≠pr)∧(me≠ho∧me≠pr)∧ho≠pr:=by
  have:=hL.nodup
  simp only[List.nodup_cons,List.mem_cons,not_or] at this
  exact⟨⟨this.2.1.1,this.2.1.2.1,this.2.1.2.2.1,this.2.1.2.2.2.1⟩,⟨this.2.2.1.1,this.2.2.1.2.1,this.2.2.1.2.2.1⟩,⟨this.2.2.2.1.1,this.2.2.2.1.2.1⟩,this.2.2.2.2.1.1⟩
 obtain⟨⟨y1,y2,y3,y4⟩,⟨y5,y6,y7⟩,⟨y8,y9⟩,y10⟩:=hdd
 have hall:∀y∈ML.all ⟨0,a,s,me,ho,pr,ids⟩,y=0∨3≤y∧y<n1:=fun y hy=>by
  rcases List.mem_cons.1 hy with e|hy
  ·exact .inl e
  ·have:=hin y (List.mem_cons_of_mem _ hy);omega
 obtain⟨da,ra⟩:∃d,bn H a=some (.row 3 1 d (m.at_.map i64)):=hL.rA
 obtain⟨ds,rs⟩:∃d,bn H s=some (.row 38 1 d (dG ids m.br)):=hL.rS
 obtain⟨dt,rt⟩:∃d,bn H (ids.getD t 0)=some (.row 2 1 d ((m.br.getD t []).map i64)):=hL.rL t (by omega)
 obtain⟨de,re⟩:∃d,bn H me=some (.row 2 1 d (m.mem.map i64)):=hL.rE
 obtain⟨dh,rh⟩:∃d,bn H ho=some (.row 3 1 d (m.hold.map i64)):=hL.rH
 obtain⟨dp,rp⟩:∃d,bn H pr=some (.row 89 2 d (m.bu.map cg.av)):=hL.rP
 have e0:∀d,(m.at_.map i64).getD ((t:Int)).toNat d=i64 (m.at_.getD t 0):=fun d=>eX (by omega) d
 have a0:(m.at_.map i64).length=m.at_.length:=by simp
 have a1:(m.mem.map i64).length=m.mem.length:=by simp
 have a2:(m.hold.map i64).length=m.hold.length:=by simp
 have a3:((m.br.getD t []).map i64).length=(m.br.getD t []).length:=by simp
 have a4:(dG ids m.br).length=m.br.length:=pL hL.len
 have hst:m.step u t=({ (m.act t (m.node u t)).1 with at_:=m.at_.set t (m.act t (m.node u t)).2.1 },⟨t,m.at_.getD t 0,(m.node u t).kind,(m.act t (m.node u t)).2.2.1,(m.act t (m.node u t)).2.2.2.1,(m.act t (m.node u t)).2.2.2.2⟩):=rfl
 rw[hst]
 clear hst c0 hno hb
 have hno':=h.node hr ht
 generalize m.node u t=n at *
 obtain⟨k1,k8⟩:=hao.kind
 have hkk:n.kind=1∨n.kind=2∨n.kind=3∨n.kind=4∨n.kind=5∨n.kind=6∨n.kind=7∨n.kind=8:=by omega
 rcases hkk with hk|hk|hk|hk|hk|hk|hk|hk
 case inr.inr.inr.inr.inl=>
  have r0:=hk
  obtain⟨g1,g2⟩:=hao.hold (.inl hk)
  have hact:m.act t n=({ m with hold:=m.hold.set n.cH.toNat (t:Int) },n.next,n.cH,0,0):=by unfold MS.act;simp[hk]
  rw[hact]
  have fin:∀(H':Hp) (d:fJ),ML.Nt ⟨0,a,s,me,ho,pr,ids⟩ u ({ m with hold:=m.hold.set n.cH.toNat (t:Int),at_:=m.at_.set t n.next }) H'→cZ.dX H' 6 (.dV [.agg [bw u.shared,bw u.bx,cR u.bo, .sl a m.at_.length, .sl s m.br.length, .sl me m.mem.length, .sl ho m.hold.length, .sl pr m.bu.length],d.av,i64 0])= .dV [({ m with hold:=m.hold.set n.cH.toNat (t:Int),at_:=m.at_.set t n.next }:MS).av u,d.av,i64 0]:=fun H' d h=>by
   have:=gk h d
   rw[show({ m with hold:=m.hold.set n.cH.toNat (t:Int),at_:=m.at_.set t n.next }:MS).rows u a s me ho pr= .agg [bw u.shared,bw u.bx,cR u.bo, .sl a m.at_.length, .sl s m.br.length, .sl me m.mem.length, .sl ho m.hold.length, .sl pr m.bu.length] by simp[MS.rows,MS.dc]] at this
   exact this
  have hm1:ML.Nt ⟨0,a,s,me,ho,pr,ids⟩ u ({ m with hold:=m.hold.set n.cH.toNat (t:Int) }) ((ho,some (.row 3 1 dh ((m.hold.map i64).set n.cH.toNat (i64 (t:Int)))))::H):=hL.wM (t:=t) (by omega) n.cH (t:Int) ⟨_,cO _ _ _⟩ fun y hy hne=>cG hne
  refine cV ?_
  refine⟨fin _ ⟨_,_,_,_,_,_⟩ (ML.Nt.CO (t:=t) hm1 (by simp only[MS.dc,List.length_set];omega) t _ ⟨_,bq⟩ fun y hy hne=> ?_)⟩
  have:=hall y hy
  by_cases e:y=ho
  ·subst e;exact Eq.trans bq (cO _ _ _).symm
  ·rw[cG e];exact cB
 case inr.inr.inr.inr.inr.inl=>
  have r0:=hk
  obtain⟨g1,g2⟩:=hao.hold (.inr hk)
  have hact:m.act t n=({ m with hold:=m.hold.set n.cH.toNat (-1) },n.next,n.cH,0,0):=by unfold MS.act;simp[hk]
  rw[hact]
  have fin:∀(H':Hp) (d:fJ),ML.Nt ⟨0,a,s,me,ho,pr,ids⟩ u ({ m with hold:=m.hold.set n.cH.toNat (-1),at_:=m.at_.set t n.next }) H'→cZ.dX H' 6 (.dV [.agg [bw u.shared,bw u.bx,cR u.bo, .sl a m.at_.length, .sl s m.br.length, .sl me m.mem.length, .sl ho m.hold.length, .sl pr m.bu.length],d.av,i64 0])= .dV [({ m with hold:=m.hold.set n.cH.toNat (-1),at_:=m.at_.set t n.next }:MS).av u,d.av,i64 0]:=fun H' d h=>by
   have:=gk h d
   rw[show({ m with hold:=m.hold.set n.cH.toNat (-1),at_:=m.at_.set t n.next }:MS).rows u a s me ho pr= .agg [bw u.shared,bw u.bx,cR u.bo, .sl a m.at_.length, .sl s m.br.length, .sl me m.mem.length, .sl ho m.hold.length, .sl pr m.bu.length] by simp[MS.rows,MS.dc]] at this
   exact this
  have hm1:ML.Nt ⟨0,a,s,me,ho,pr,ids⟩ u ({ m with hold:=m.hold.set n.cH.toNat (-1) }) ((ho,some (.row 3 1 dh ((m.hold.map i64).set n.cH.toNat (i64 (-1)))))::H):=hL.wM (t:=t) (by omega) n.cH (-1) ⟨_,cO _ _ _⟩ fun y hy hne=>cG hne
  refine cV ?_
  refine⟨fin _ ⟨_,_,_,_,_,_⟩ (ML.Nt.CO (t:=t) hm1 (by simp only[MS.dc,List.length_set];omega) t _ ⟨_,bq⟩ fun y hy hne=> ?_)⟩
  have:=hall y hy
  by_cases e:y=ho
  ·subst e;exact Eq.trans bq (cO _ _ _).symm
  ·rw[cG e];exact cB
 case inl=>
  have r0:=hk
  have r1:n.cH=0:=hno'.cH.2 (by unfold e8;exact decide_eq_false (by omega))
  obtain⟨g3,g4⟩:=hao.slot (by omega)
  have e2:∀d,(dG ids m.br).getD ((t:Int)).toNat d= .sl (ids.getD t 0) (m.br.getD t []).length:=fun d=>by rw[Int.toNat_natCast];exact o5 (L:=⟨0,a,s,me,ho,pr,ids⟩) hL.len (by omega) d
  have hact:m.act t n=(m.dc t n.slot (m.l9 t n),n.next,0,(m.l9 t n),0):=by unfold MS.act;simp[hk]
  rw[hact]
  have fin:∀(H':Hp) (d:fJ),ML.Nt ⟨0,a,s,me,ho,pr,ids⟩ u ({ m.dc t n.slot (m.l9 t n) with at_:=m.at_.set t n.next }) H'→cZ.dX H' 6 (.dV [.agg [bw u.shared,bw u.bx,cR u.bo, .sl a m.at_.length, .sl s m.br.length, .sl me m.mem.length, .sl ho m.hold.length, .sl pr m.bu.length],d.av,i64 0])= .dV [({ m.dc t n.slot (m.l9 t n) with at_:=m.at_.set t n.next }:MS).av u,d.av,i64 0]:=fun H' d h=>by
   have:=gk h d
   rw[show({ m.dc t n.slot (m.l9 t n) with at_:=m.at_.set t n.next }:MS).rows u a s me ho pr= .agg [bw u.shared,bw u.bx,cR u.bo, .sl a m.at_.length, .sl s m.br.length, .sl me m.mem.length, .sl ho m.hold.length, .sl pr m.bu.length] by simp[MS.rows,MS.dc]] at this
   exact this
  have hm1:ML.Nt ⟨0,a,s,me,ho,pr,ids⟩ u (m.dc t n.slot (m.l9 t n)) ((ids.getD t 0,some (.row 2 1 dt (((m.br.getD t []).map i64).set n.slot.toNat (i64 (m.l9 t n)))))::H):=hL.dc (t:=t) (by omega) n.slot (m.l9 t n) ⟨dt,cO _ _ _⟩ fun y hy hne=>cG hne
  refine cV ?_
  refine aS (vG u m n (by omega) (by omega) (hao.a (by omega)) (hao.b hk) (hao.op hk)) (nT hL (fun y hy=> ?_) [i64 t,n.av] (by simp[cT,cE])) (by simp[cT,cE]) trivial ?_
  ·have:=hall y hy;exact cB
  refine cV ?_
  refine⟨fin _ ⟨_,_,_,_,_,_⟩ (ML.Nt.CO (t:=t) hm1 (by simp only[MS.dc,List.length_set];omega) t _ ⟨_,bq⟩ fun y hy hne=> ?_)⟩
  have:=hall y hy
  by_cases e:y=ids.getD t 0
  ·rw[e];exact Eq.trans bq (cO _ _ _).symm
  ·rw[cG e];exact cB
 case inr.inl=>
  have r0:=hk
  obtain⟨g1,g2⟩:=hao.mem (by omega)
  obtain⟨g3,g4⟩:=hao.slot (by omega)
  have e1:∀d,(m.mem.map i64).getD n.cH.toNat d=i64 (m.mem.getD n.cH.toNat 0):=fun d=>iO (by omega) d
  have e2:∀d,(dG ids m.br).getD ((t:Int)).toNat d= .sl (ids.getD t 0) (m.br.getD t []).length:=fun d=>by rw[Int.toNat_natCast];exact o5 (L:=⟨0,a,s,me,ho,pr,ids⟩) hL.len (by omega) d
  have hact:m.act t n=(m.dc t n.slot (m.mem.getD n.cH.toNat 0),n.next,n.cH,(m.mem.getD n.cH.toNat 0),0):=by unfold MS.act;simp[hk]
  rw[hact]
  have fin:∀(H':Hp) (d:fJ),ML.Nt ⟨0,a,s,me,ho,pr,ids⟩ u ({ m.dc t n.slot (m.mem.getD n.cH.toNat 0) with at_:=m.at_.set t n.next }) H'→cZ.dX H' 6 (.dV [.agg [bw u.shared,bw u.bx,cR u.bo, .sl a m.at_.length, .sl s m.br.length, .sl me m.mem.length, .sl ho m.hold.length, .sl pr m.bu.length],d.av,i64 0])= .dV [({ m.dc t n.slot (m.mem.getD n.cH.toNat 0) with at_:=m.at_.set t n.next }:MS).av u,d.av,i64 0]:=fun H' d h=>by
   have:=gk h d
   rw[show({ m.dc t n.slot (m.mem.getD n.cH.toNat 0) with at_:=m.at_.set t n.next }:MS).rows u a s me ho pr= .agg [bw u.shared,bw u.bx,cR u.bo, .sl a m.at_.length, .sl s m.br.length, .sl me m.mem.length, .sl ho m.hold.length, .sl pr m.bu.length] by simp[MS.rows,MS.dc]] at this
   exact this
  have hm1:ML.Nt ⟨0,a,s,me,ho,pr,ids⟩ u (m.dc t n.slot (m.mem.getD n.cH.toNat 0)) ((ids.getD t 0,some (.row 2 1 dt (((m.br.getD t []).map i64).set n.slot.toNat (i64 (m.mem.getD n.cH.toNat 0)))))::H):=hL.dc (t:=t) (by omega) n.slot (m.mem.getD n.cH.toNat 0) ⟨dt,cO _ _ _⟩ fun y hy hne=>cG hne
  refine cV ?_
  refine⟨fin _ ⟨_,_,_,_,_,_⟩ (ML.Nt.CO (t:=t) hm1 (by simp only[MS.dc,List.length_set];omega) t _ ⟨_,bq⟩ fun y hy hne=> ?_)⟩
  have:=hall y hy
  by_cases e:y=ids.getD t 0
  ·rw[e];exact Eq.trans bq (cO _ _ _).symm
  ·rw[cG e];exact cB
 case inr.inr.inl=>
  have r0:=hk
  obtain⟨g1,g2⟩:=hao.mem (by omega)
  have hact:m.act t n=({ m with mem:=m.mem.set n.cH.toNat (m.val t n.a) },n.next,n.cH,m.val t n.a,0):=by unfold MS.act;simp[hk]
  rw[hact]
  have fin:∀(H':Hp) (d:fJ),ML.Nt ⟨0,a,s,me,ho,pr,ids⟩ u ({ m with mem:=m.mem.set n.cH.toNat (m.val t n.a),at_:=m.at_.set t n.next }) H'→cZ.dX H' 6 (.dV [.agg [bw u.shared,bw u.bx,cR u.bo, .sl a m.at_.length, .sl s m.br.length, .sl me m.mem.length, .sl ho m.hold.length, .sl pr m.bu.length],d.av,i64 0])= .dV [({ m with mem:=m.mem.set n.cH.toNat (m.val t n.a),at_:=m.at_.set t n.next }:MS).av u,d.av,i64 0]:=fun H' d h=>by
   have:=gk h d
   rw[show({ m with mem:=m.mem.set n.cH.toNat (m.val t n.a),at_:=m.at_.set t n.next }:MS).rows u a s me ho pr= .agg [bw u.shared,bw u.bx,cR u.bo, .sl a m.at_.length, .sl s m.br.length, .sl me m.mem.length, .sl ho m.hold.length, .sl pr m.bu.length] by simp[MS.rows,MS.dc]] at this
   exact this
  have hm1:ML.Nt ⟨0,a,s,me,ho,pr,ids⟩ u ({ m with mem:=m.mem.set n.cH.toNat (m.val t n.a) }) ((me,some (.row 2 1 de ((m.mem.map i64).set n.cH.toNat (i64 (m.val t n.a)))))::H):=hL.fV (t:=t) (by omega) n.cH (m.val t n.a) ⟨_,cO _ _ _⟩ fun y hy hne=>cG hne
  refine cV ?_
  refine aS (fC u m n.a (by omega) (by omega) (hao.a (by omega))) (nT hL (fun y hy=> ?_) [i64 t,n.a.av] (by simp[cT,cE])) (by simp[cT,cE]) trivial ?_
  ·have:=hall y hy;exact cB
  refine cV ?_
  refine⟨fin _ ⟨_,_,_,_,_,_⟩ (ML.Nt.CO (t:=t) hm1 (by simp only[MS.dc,List.length_set];omega) t _ ⟨_,bq⟩ fun y hy hne=> ?_)⟩
  have:=hall y hy
  by_cases e:y=me
  ·subst e;exact Eq.trans bq (cO _ _ _).symm
  ·rw[cG e];exact cB
 case inr.inr.inr.inl=>
  have r0:=hk
  obtain⟨g1,g2⟩:=hao.mem (by omega)
  obtain⟨g3,g4⟩:=hao.slot (by omega)
  have e1:∀d,(m.mem.map i64).getD n.cH.toNat d=i64 (m.mem.getD n.cH.toNat 0):=fun d=>iO (by omega) d
  have e2:∀d,(dG ids m.br).getD ((t:Int)).toNat d= .sl (ids.getD t 0) (m.br.getD t []).length:=fun d=>by rw[Int.toNat_natCast];exact o5 (L:=⟨0,a,s,me,ho,pr,ids⟩) hL.len (by omega) d
  have hact:m.act t n=({ m.dc t n.slot (m.mem.getD n.cH.toNat 0) with mem:=m.mem.set n.cH.toNat (m.val t n.a) },n.next,n.cH,(m.mem.getD n.cH.toNat 0),m.val t n.a):=by unfold MS.act;simp[hk]
  rw[hact]
  have fin:∀(H':Hp) (d:fJ),ML.Nt ⟨0,a,s,me,ho,pr,ids⟩ u ({ m.dc t n.slot (m.mem.getD n.cH.toNat 0) with mem:=m.mem.set n.cH.toNat (m.val t n.a),at_:=m.at_.set t n.next }) H'→cZ.dX H' 6 (.dV [.agg [bw u.shared,bw u.bx,cR u.bo, .sl a m.at_.length, .sl s m.br.length, .sl me m.mem.length, .sl ho m.hold.length, .sl pr m.bu.length],d.av,i64 0])= .dV [({ m.dc t n.slot (m.mem.getD n.cH.toNat 0) with mem:=m.mem.set n.cH.toNat (m.val t n.a),at_:=m.at_.set t n.next }:MS).av u,d.av,i64 0]:=fun H' d h=>by
   have:=gk h d
   rw[show({ m.dc t n.slot (m.mem.getD n.cH.toNat 0) with mem:=m.mem.set n.cH.toNat (m.val t n.a),at_:=m.at_.set t n.next }:MS).rows u a s me ho pr= .agg [bw u.shared,bw u.bx,cR u.bo, .sl a m.at_.length, .sl s m.br.length, .sl me m.mem.length, .sl ho m.hold.length, .sl pr m.bu.length] by simp[MS.rows,MS.dc]] at this
   exact this
  have hm0:ML.Nt ⟨0,a,s,me,ho,pr,ids⟩ u (m.dc t n.slot (m.mem.getD n.cH.toNat 0)) ((ids.getD t 0,some (.row 2 1 dt (((m.br.getD t []).map i64).set n.slot.toNat (i64 (m.mem.getD n.cH.toNat 0)))))::H):=hL.dc (t:=t) (by omega) n.slot (m.mem.getD n.cH.toNat 0) ⟨dt,cO _ _ _⟩ fun y hy hne=>cG hne
  have hm1:ML.Nt ⟨0,a,s,me,ho,pr,ids⟩ u ({ m.dc t n.slot (m.mem.getD n.cH.toNat 0) with mem:=m.mem.set n.cH.toNat (m.val t n.a) }) ((me,some (.row 2 1 de ((m.mem.map i64).set n.cH.toNat (i64 (m.val t n.a)))))::((ids.getD t 0,some (.row 2 1 dt (((m.br.getD t []).map i64).set n.slot.toNat (i64 (m.mem.getD n.cH.toNat 0)))))::H)):=hm0.fV (t:=t) (by simp only[MS.dc,List.length_set];omega) n.cH (m.val t n.a) ⟨_,cO _ _ _⟩ fun y hy hne=>cG hne
  refine cV ?_
  refine aS (fC u m n.a (by omega) (by omega) (hao.a (by omega))) (nT hL (fun y hy=> ?_) [i64 t,n.a.av] (by simp[cT,cE])) (by simp[cT,cE]) trivial ?_
  ·have:=hall y hy;exact cB
  refine cV ?_
  refine⟨fin _ ⟨_,_,_,_,_,_⟩ (ML.Nt.CO (t:=t) hm1 (by simp only[MS.dc,List.length_set];omega) t _ ⟨_,bq⟩ fun y hy hne=> ?_)⟩
  have:=hall y hy
  by_cases e:y=me
  ·subst e;exact Eq.trans bq (cO _ _ _).symm
  ·rw[cG e]
   by_cases e:y=ids.getD t 0
   ·rw[e];exact Eq.trans bq (cO _ _ _).symm
   ·rw[cG e];exact cB
 case inr.inr.inr.inr.inr.inr.inl=>
  have r0:=hk
  have r1:n.cH=0:=hno'.cH.2 (by unfold e8;exact decide_eq_false (by omega))
  have hact:m.act t n=({ m with bu:=m.bu++[⟨(t:Int),m.val t n.a⟩] },n.next,0,m.val t n.a,0):=by unfold MS.act;simp[hk]
  rw[hact]
  have fin:∀(H':Hp) (d:fJ),ML.Nt ⟨0,a,s,me,ho,pr,ids⟩ u ({ m with bu:=m.bu++[⟨(t:Int),m.val t n.a⟩],at_:=m.at_.set t n.next }) H'→cZ.dX H' 6 (.dV [.agg [bw u.shared,bw u.bx,cR u.bo, .sl a m.at_.length, .sl s m.br.length, .sl me m.mem.length, .sl ho m.hold.length, .sl pr (m.bu.length+1)],d.av,i64 0])= .dV [({ m with bu:=m.bu++[⟨(t:Int),m.val t n.a⟩],at_:=m.at_.set t n.next }:MS).av u,d.av,i64 0]:=fun H' d h=>by
   have:=gk h d
   rw[show({ m with bu:=m.bu++[⟨(t:Int),m.val t n.a⟩],at_:=m.at_.set t n.next }:MS).rows u a s me ho pr= .agg [bw u.shared,bw u.bx,cR u.bo, .sl a m.at_.length, .sl s m.br.length, .sl me m.mem.length, .sl ho m.hold.length, .sl pr (m.bu.length+1)] by simp[MS.rows,MS.dc]] at this
   exact this
  have hm1:ML.Nt ⟨0,a,s,me,ho,pr,ids⟩ u ({ m with bu:=m.bu++[⟨(t:Int),m.val t n.a⟩] }) ((0,some (.row 80 8 d0 [.agg [bw u.shared,bw u.bx,cR u.bo, .sl a m.at_.length, .sl s m.br.length, .sl me m.mem.length, .sl ho m.hold.length, .sl pr (m.bu.length+1)]]))::(pr,some (.row 89 2 dp (m.bu.map cg.av++[(⟨(t:Int),m.val t n.a⟩:cg).av])))::H):=hL.zb (t:=t) (by omega) ⟨(t:Int),m.val t n.a⟩ ⟨d0,by rw[show({ m with bu:=m.bu++[⟨(t:Int),m.val t n.a⟩] }:MS).rows u (ML.a ⟨0,a,s,me,ho,pr,ids⟩) (ML.s ⟨0,a,s,me,ho,pr,ids⟩) (ML.me ⟨0,a,s,me,ho,pr,ids⟩) (ML.ho ⟨0,a,s,me,ho,pr,ids⟩) (ML.pr ⟨0,a,s,me,ho,pr,ids⟩)= .agg [bw u.shared,bw u.bx,cR u.bo, .sl a m.at_.length, .sl s m.br.length, .sl me m.mem.length, .sl ho m.hold.length, .sl pr (m.bu.length+1)] by simp[MS.rows]];exact cO _ _ _⟩ ⟨dp,(cG (by show pr≠0;omega)).trans (cO _ _ _)⟩ fun y hy h1 h2=>(cG h2).trans (cG h1)
  have a5:(m.bu.map cg.av).length=m.bu.length:=by simp
  refine cV ?_
  refine aS (fC u m n.a (by omega) (by omega) (hao.a (by omega))) (nT hL (fun y hy=> ?_) [i64 t,n.a.av] (by simp[cT,cE])) (by simp[cT,cE]) trivial ?_
  ·have:=hall y hy;exact cB
  refine cV ?_
  refine⟨fin _ ⟨_,_,_,_,_,_⟩ (ML.Nt.CO (t:=t) hm1 (by simp only[MS.dc,List.length_set];omega) t _ ⟨_,bq⟩ fun y hy hne=> ?_)⟩
  have:=hall y hy
  by_cases e:y=0
  ·subst e;exact Eq.trans bq (cO _ _ _).symm
  ·rw[cG e]
   by_cases e:y=pr
   ·subst e;exact Eq.trans bq (cO _ _ _).symm
   ·rw[cG e];exact cB
 case inr.inr.inr.inr.inr.inr.inr=>
  have r0:=hk
  have r1:n.cH=0:=hno'.cH.2 (by unfold e8;exact decide_eq_false (by omega))
  have hv:=hao.a (by omega)
  by_cases hz0:m.val t n.a=0
  ·have hact:m.act t n=(m,n.nq,0,m.val t n.a,0):=by unfold MS.act;simp[hk,hz0]
   rw[hact]
   have fin:∀(H':Hp) (d:fJ),ML.Nt ⟨0,a,s,me,ho,pr,ids⟩ u ({ m with at_:=m.at_.set t n.nq }) H'→cZ.dX H' 6 (.dV [.agg [bw u.shared,bw u.bx,cR u.bo, .sl a m.at_.length, .sl s m.br.length, .sl me m.mem.length, .sl ho m.hold.length, .sl pr m.bu.length],d.av,i64 0])= .dV [({ m with at_:=m.at_.set t n.nq }:MS).av u,d.av,i64 0]:=fun H' d h=>by
    have:=gk h d
    rw[show({ m with at_:=m.at_.set t n.nq }:MS).rows u a s me ho pr= .agg [bw u.shared,bw u.bx,cR u.bo, .sl a m.at_.length, .sl s m.br.length, .sl me m.mem.length, .sl ho m.hold.length, .sl pr m.bu.length] by simp[MS.rows,MS.dc]] at this
    exact this
   refine cV ?_
   refine aS (fC u m n.a (by omega) (by omega) hv) (nT hL (fun y hy=> ?_) [i64 t,n.a.av] (by simp[cT,cE])) (by simp[cT,cE]) trivial ?_
   ·have:=hall y hy;exact cB
   rw[hz0]
   refine cV ?_
   refine⟨fin _ ⟨_,_,_,_,_,_⟩ (ML.Nt.CO (t:=t) hL (by omega) t _ ⟨_,bq⟩ fun y hy hne=> ?_)⟩
   have:=hall y hy
   exact cB
  ·have hact:m.act t n=(m,n.next,0,m.val t n.a,0):=by unfold MS.act;simp[hk,hz0]
   rw[hact]
   have fin:∀(H':Hp) (d:fJ),ML.Nt ⟨0,a,s,me,ho,pr,ids⟩ u ({ m with at_:=m.at_.set t n.next }) H'→cZ.dX H' 6 (.dV [.agg [bw u.shared,bw u.bx,cR u.bo, .sl a m.at_.length, .sl s m.br.length, .sl me m.mem.length, .sl ho m.hold.length, .sl pr m.bu.length],d.av,i64 0])= .dV [({ m with at_:=m.at_.set t n.next }:MS).av u,d.av,i64 0]:=fun H' d h=>by
    have:=gk h d
    rw[show({ m with at_:=m.at_.set t n.next }:MS).rows u a s me ho pr= .agg [bw u.shared,bw u.bx,cR u.bo, .sl a m.at_.length, .sl s m.br.length, .sl me m.mem.length, .sl ho m.hold.length, .sl pr m.bu.length] by simp[MS.rows,MS.dc]] at this
    exact this
   refine cV ?_
   refine aS (fC u m n.a (by omega) (by omega) hv) (nT hL (fun y hy=> ?_) [i64 t,n.a.av] (by simp[cT,cE])) (by simp[cT,cE]) trivial ?_
   ·have:=hall y hy;exact cB
   refine cV ?_
   refine⟨fin _ ⟨_,_,_,_,_,_⟩ (ML.Nt.CO (t:=t) hL (by omega) t _ ⟨_,bq⟩ fun y hy hne=> ?_)⟩
   have:=hall y hy
   exact cB
end Go.Proofs.YtekfmjjmihomlaaGreat
end
section
/- The document's Copy as a value; an end. -/
namespace Go.Proofs.YtekfmjjmihomlaaGreat
open Go Go.cZ Go.Proofs
set_option linter.unusedSimpArgs false
set_option linter.unusedVariables false
set_option maxRecDepth 8000
theorem zi (u:bt) (hr:dC u) (m:MS) (h:eU u m) (hne:m.at_≠[]) (hp:m.bu.length≤1048576):Pure Tryz.prog 70 [m.av u] (fun r=>r=m.av u):=
 dY ((ru u hr m h hne hp [] 0).mono fun r H n ⟨mr,a,s,me,ho,pr,ids,hr,hN,_⟩=>by rw[hr];exact hN.K8 3) (BA 0 u m)
theorem K9 {H:Hp} {a b:Nat} {ps:List cg} {ws:List Int} {x:Bool} (h1:∃d,bn H a=some (.row 89 2 d (ps.map cg.av))) (h2:∃d,bn H b=some (.row 2 1 d (ws.map i64))):cZ.dX H 6 (.agg [.sl a (0+(ps.map cg.av).length), .sl b (0+(ws.map i64).length),bl x])= .agg [ez ps,cm ws,bl x]:=by
 obtain⟨d1,h1⟩:=h1
 obtain⟨d2,h2⟩:=h2
 rw[j4,List.map_cons,List.map_cons,List.map_cons,List.map_nil,dF h1 (by simp),dF h2 (by simp),cc _ ((cC _ _).2 fun _ _=>by simp[cE]),cc _ ((cC _ _).2 fun _ _=>by simp[cE]),cx _ (show cE 0 (bl x) by simp[cE])]
theorem EB (u:bt) (hr:dC u) (m:MS) (h:eU u m) (hp:m.bu.length≤1048576):Pure Tryz.prog 40 [m.av u] (fun r=>r=(m.end_ u).av):=by
 have hgl:=hr.vO
 have hml:=h.ml
 have a0:(m.bu.map cg.av).length=m.bu.length:=by simp
 have a1:(m.mem.map i64).length=m.mem.length:=by simp
 have c0:=xo u hr m h
 refine dY ?_ (by simp[cE,cT,cC,cj.cells])
 refine aQ HH rfl ?_
 refine cV ?_
 exact⟨K9 (x:=m.ended u) ⟨_,bq⟩ ⟨_,bq⟩⟩
end Go.Proofs.YtekfmjjmihomlaaGreat
end
section
/- The order of texts; Spot. -/
namespace Go.Proofs.YtekfmjjmihomlaaGreat
open Go Go.cZ Go.Proofs
set_option linter.unusedSimpArgs false
set_option linter.unusedVariables false
set_option maxRecDepth 8000
abbrev gR (x y:List UInt8):Bool:=Op.bytesLess x y
theorem su:∀x:List UInt8,gR x x=false
 |[]=>rfl
 |a::x=>by
  have:=su x
  simp only[gR,Op.bytesLess] at this ⊢
  simp[this]
theorem qh:∀{x y z:List UInt8},gR x y=true→gR y z=true→gR x z=true
 |_,[],_,h,_=>by simp[gR,Op.bytesLess] at h
 |_,_::_,[],_,h=>by simp[gR,Op.bytesLess] at h
 |[],_::_,_::_,_,_=>by simp[gR,Op.bytesLess]
 |a::x,b::y,c::z,h1,h2=>by
  have ih:=fun h1 h2=>qh (x:=x) (y:=y) (z:=z) h1 h2
  simp only[gR,Op.bytesLess,Bool.or_eq_true,Bool.and_eq_true,decide_eq_true_eq,beq_iff_eq] at h1 h2 ih ⊢
  rcases h1 with h1|⟨rfl,h1⟩<;>rcases h2 with h2|⟨rfl,h2⟩
  ·exact .inl (UInt8.lt_trans h1 h2)
  ·exact .inl h1
  ·exact .inl h2
  ·exact .inr ⟨rfl,ih h1 h2⟩
theorem sx:∀{x y:List UInt8},x≠y→gR x y=true∨gR y x=true
 |[],[],h=>absurd rfl h
 |[],_::_,_=>by simp[gR,Op.bytesLess]
 |_::_,[],_=>by simp[gR,Op.bytesLess]
 |a::x,b::y,h=>by
  simp only[gR,Op.bytesLess,Bool.or_eq_true,Bool.and_eq_true,decide_eq_true_eq,beq_iff_eq]
  by_cases e:a=b
  ·subst e
   have:=sx (x:=x) (y:=y) (fun e=>h (by rw[e]))
   rcases this with h1|h1
   ·exact .inl (.inr ⟨rfl,h1⟩)
   ·exact .inr (.inr ⟨rfl,h1⟩)
  ·rcases UInt8.lt_or_lt_of_ne e with h1|h1
   ·exact .inl (.inl h1)
   ·exact .inr (.inl h1)
def vT (l:List (List UInt8)):Prop:=l.Pairwise fun x y=>gR x y=true
def spot (l:List (List UInt8)) (k:List UInt8):Nat:=l.countP fun x=>gR x k
theorem qT (l:List (List UInt8)) (k:List UInt8):spot l k≤l.length:=List.countP_le_length
theorem kN {k:List UInt8}:∀{l:List (List UInt8)},vT l→∀j,j<l.length→(gR (l.getD j []) k=true↔j<spot l k)
 |[],_,j,h=>by simp at h
 |x::l,hr,j,h=>by
  obtain⟨h1,h2⟩:=List.pairwise_cons.1 hr
  unfold spot
  rw[List.countP_cons]
  by_cases hx:gR x k=true
  ·rw[if_pos hx]
   cases j with
   |zero=>simp[List.getD,hx]
   |succ j=>
    have:=kN (k:=k) h2 j (by simpa using h)
    unfold spot at this
    rw[show(x::l).getD (j+1) []=l.getD j [] by simp[List.getD]]
    rw[this];omega
  ·rw[if_neg hx]
   have h0:l.countP (fun x=>gR x k)=0:=by
    rw[List.countP_eq_zero]
    exact fun y hy hyk=>hx (qh (h1 y hy) hyk)
   rw[h0]
   cases j with
   |zero=>simp[List.getD,hx]
   |succ j=>
    rw[show(x::l).getD (j+1) []=l.getD j [] by simp[List.getD]]
    have hj:j<l.length:=by simpa using h
    constructor
    ·intro hyk
     exact absurd (qh (h1 _ (cW [] hj)) hyk) hx
    ·intro h;omega
theorem nP {l:List (List UInt8)} (hr:vT l) (k:List UInt8):k∈l↔spot l k<l.length∧l.getD (spot l k) []=k:=by
 constructor
 ·intro h
  obtain⟨j,hj,rfl⟩:=List.mem_iff_getElem.1 h
  have e:l.getD j []=l[j]:=by simp[List.getD,hj]
  have h1:¬j<spot l l[j]:=fun h=>by
   have:=(kN hr j hj).2 h
   rw[e,su] at this
   cases this
  have h2:¬spot l l[j]<j:=fun h=>by
   have:=List.pairwise_iff_getElem.1 hr (spot l l[j]) j (by omega) hj h
   have h3:=(kN (k:=l[j]) hr (spot l l[j]) (by omega)).1 (by rw[List.getD,List.getElem?_eq_getElem (by omega)];exact this)
   omega
  have h3:spot l l[j]=j:=by omega
  rw[h3]
  exact⟨hj,e⟩
 ·rintro⟨h1,h2⟩
  rw[←h2]
  exact cW [] h1
end Go.Proofs.YtekfmjjmihomlaaGreat
end
section
/- Spot walked. -/
namespace Go.Proofs.YtekfmjjmihomlaaGreat
open Go Go.cZ Go.Proofs
set_option linter.unusedSimpArgs false
set_option linter.unusedVariables false
set_option maxRecDepth 8000
abbrev eC (k:List UInt8):AV:= .sc (.string (eR k))
abbrev JP (l:List (List UInt8)):AV:= .im 1 .any (l.map eC)
theorem lB (k:List UInt8):(eR k).toList=k:=by rw[ByteArray.toList_eq]
theorem KN (a b:ByteArray):(a==b)=decide (a=b):=by
 obtain⟨d⟩:=a
 obtain⟨d'⟩:=b
 show(d==d')=_
 rw[Bool.eq_iff_iff]
 simp
set_option maxHeartbeats 2000000 in
theorem EO (l:List (List UInt8)) (k:List UInt8) (hr:vT l) (hl:l.length≤65536):Pure Tryz.prog 71 [JP l,eC k] (fun r=>r= .dV [i64 (spot l k),bl (decide (k∈l))]):=by
 have hs:=qT l k
 have a0:(l.map eC).length=l.length:=by simp
 refine aI IB rfl ?_
 refine cV ?_
 simp only[List.length_map]
 refine aP (fun σ:Nat×Nat=>[(0,JP l),(1,eC k),(6,i64 σ.1),(7,i64 σ.2)]) (fun σ H n=>σ.1≤spot l k∧spot l k≤σ.2∧σ.2≤l.length) (fun σ=>σ.2 - σ.1) (0,l.length) cI ⟨Nat.zero_le _,hs,Nat.le_refl _⟩ ?_
 rintro⟨lo,hi⟩ H n ⟨h1,h2,h3⟩
 dsimp only at h1 h2 h3 ⊢
 by_cases hlt:lo<hi
 ·have r1:((lo:Int)+(hi:Int)).tdiv 2=(((lo+hi) /2:Nat):Int):=by rw[Int.tdiv_eq_ediv_of_nonneg (by omega)];omega
  have hm:(lo+hi) /2<l.length:=by omega
  have e0:∀d,(l.map eC).getD (((lo+hi) /2:Nat):Int).toNat d=eC (l.getD ((lo+hi) /2) []):=fun d=>by rw[Int.toNat_natCast];exact dB eC l _ d hm
  have hiff:=kN (k:=k) hr _ hm
  have r2:IntKind.i64.wrap (((lo+hi) /2:Nat):Int)=(((lo+hi) /2:Nat):Int):=by rw[IntKind.wrap_i64];omega
  have hb1:lo≤(lo+hi) /2∧(lo+hi) /2<hi:=by omega
  by_cases hb:gR (l.getD ((lo+hi) /2) []) k=true
  ·have r0:Op.bytesLess (eR (l.getD ((((lo+hi) /2:Nat):Int)).toNat default)).toList (eR k).toList=true:=by rw[Int.toNat_natCast,lB,lB];exact hb
   have:=hiff.1 hb
   refine cV ?_
   exact⟨((lo+hi) /2+1,hi),by dsimp only;omega,cI,by dsimp only;omega,h2,h3⟩
  ·have r0:Op.bytesLess (eR (l.getD ((((lo+hi) /2:Nat):Int)).toNat default)).toList (eR k).toList=false:=by rw[Int.toNat_natCast,lB,lB];exact Bool.eq_false_iff.2 hb
   have:¬(lo+hi) /2<spot l k:=fun h=>hb (hiff.2 h)
   refine cV ?_
   exact⟨(lo,(lo+hi) /2),by dsimp only;omega,cI,h1,by dsimp only;omega,by dsimp only;omega⟩
 ·have e:lo=spot l k:=by omega
  subst e
  by_cases hlt2:spot l k<l.length
  ·have e0:∀d,(l.map eC).getD ((spot l k:Nat):Int).toNat d=eC (l.getD (spot l k) []):=fun d=>by rw[Int.toNat_natCast];exact dB eC l _ d hlt2
   have hth:(k∈l)↔l.getD (spot l k) []=k:=⟨fun h=>((nP hr k).1 h).2,fun h=>(nP hr k).2 ⟨hlt2,h⟩⟩
   have r0:decide (((spot l k:Nat):Int)<(((l.map eC).length:Nat):Int))=true:=decide_eq_true (by rw[a0];omega)
   refine cV ?_
   have hq:(eR (l.getD (spot l k) [])==eR k)=decide (k∈l):=by
    rw[KN]
    by_cases h:l.getD (spot l k) []=k
    ·rw[h,decide_eq_true rfl,decide_eq_true (hth.2 h)]
    ·rw[decide_eq_false (fun e=>h (hth.1 e)),decide_eq_false fun e=>h (CB e)]
   first|(rw[hq];exact rfl)|(rw[←hq];exact rfl)
  ·have hth:¬k∈l:=fun h=>hlt2 ((nP hr k).1 h).1
   rw[decide_eq_false hth]
   have r0:decide (((spot l k:Nat):Int)<(((l.map eC).length:Nat):Int))=false:=decide_eq_false (by rw[a0];omega)
   refine cV ?_
   first|exact rfl|trivial
end Go.Proofs.YtekfmjjmihomlaaGreat
end
section
/- Insert walked. -/
namespace Go.Proofs.YtekfmjjmihomlaaGreat
open Go Go.cZ Go.Proofs
set_option linter.unusedSimpArgs false
set_option linter.unusedVariables false
set_option maxRecDepth 8000
def eo (l:List (List UInt8)) (i:Nat) (x:List UInt8):List (List UInt8):=l.take i++x::l.drop i
theorem jI {l:List (List UInt8)} {i:Nat} {x:List UInt8} (hi:i≤l.length):(eo l i x).length=l.length+1:=by
 unfold eo;rw[List.length_append,List.length_cons,List.length_take,List.length_drop];omega
theorem D9 (l:List (List UInt8)) (x:List UInt8):eo l l.length x=l++[x]:=by simp[eo]
theorem tu {l:List (List UInt8)} {i:Nat} {x y:List UInt8} (hi:i≤l.length):(eo l i x).set i y=eo l i y:=by
 unfold eo
 rw[List.set_append,if_neg (by rw[List.length_take];omega),List.length_take,Nat.min_eq_left hi,Nat.sub_self,List.set_cons_zero]
theorem zh {l:List (List UInt8)} {i:Nat} (hi:i<l.length):eo l (i+1) (l.getD i [])=eo l i (l.getD i []):=by
 unfold eo
 rw[List.take_succ_eq_append_getElem hi,List.append_assoc,List.drop_eq_getElem_cons hi]
 simp[List.getD,hi]
theorem JE {l:List (List UInt8)} {i:Nat} {x:List UInt8} (hi:i<l.length):(eo l (i+1) x).getD i []=l.getD i []:=by
 unfold eo
 rw[List.getD,List.getElem?_append_left (by rw[List.length_take];omega),List.getElem?_take,if_pos (by omega)]
 rfl
theorem zg {l:List (List UInt8)} (hr:vT l) {k:List UInt8} (hk:k∉l):vT (eo l (spot l k) k):=by
 have hs:=qT l k
 unfold eo vT
 rw[List.pairwise_append,List.pairwise_cons]
 refine⟨hr.sublist (List.take_sublist _ _),⟨fun y hy=> ?_,hr.sublist (List.drop_sublist _ _)⟩,fun a ha b hb=> ?_⟩
 ·obtain⟨j,hj,rfl⟩:=List.mem_iff_getElem.1 hy
  rw[List.length_drop] at hj
  rw[List.getElem_drop]
  have h1:=(kN (k:=k) hr (spot l k+j) (by omega))
  rw[show l.getD (spot l k+j) []=l[spot l k+j]'(by omega) by simp[List.getD,show spot l k+j<l.length by omega]] at h1
  rcases sx (x:=k) (y:=l[spot l k+j]'(by omega)) (fun e=>hk (by rw[e];exact List.getElem_mem _)) with h|h
  ·exact h
  ·have:=h1.1 h;omega
 ·obtain⟨j,hj,rfl⟩:=List.mem_iff_getElem.1 ha
  rw[List.length_take] at hj
  have h1:=(kN (k:=k) hr j (by omega)).2 (by omega)
  rw[show l.getD j []=l[j]'(by omega) by simp[List.getD,show j<l.length by omega]] at h1
  rw[List.getElem_take]
  rcases List.mem_cons.1 hb with rfl|hb
  ·exact h1
  ·obtain⟨q,hq,rfl⟩:=List.mem_iff_getElem.1 hb
   rw[List.length_drop] at hq
   rw[List.getElem_drop]
   exact List.pairwise_iff_getElem.1 hr j (spot l k+q) (by omega) (by omega) (by omega)
set_option maxHeartbeats 2000000 in
theorem wQ (l:List (List UInt8)) (p:Nat) (k:List UInt8) (hp:p≤l.length) (hl:l.length≤65536) {b nx:Nat} {H:Hp} (hb:b<nx) (r:∃d,bn H b=some (.row 9 1 d (l.map eC))):
 cP Tryz.prog 72 [.sl b l.length,i64 p,eC k] H nx (fun r H' n=>r= .sl b (l.length+1)∧(∃d,bn H' b=some (.row 9 1 d ((eo l p k).map eC)))∧nx≤n∧∀y,y<nx→y≠b→bn H' y=bn H y):=by
 obtain⟨d,r⟩:=r
 have a0:(l.map eC).length=l.length:=by simp
 refine aQ IC rfl ?_
 refine cV ?_
 refine aP (fun i:Nat=>[(0, .sl b (l.length+1)),(1,i64 p),(2,eC k),(7,i64 i)]) (fun i H' n=>p≤i∧i≤l.length∧nx≤n∧(∃x d,bn H' b=some (.row 9 1 d ((eo l i x).map eC)))∧∀y,y<nx→y≠b→bn H' y=bn H y) (fun i=>i) l.length ⟨rfl,rfl,rfl,by show i64 (IntKind.i64.wrap (((l.length+1:Nat):Int) - 1))=i64 l.length;rw[IntKind.wrap_i64];congr 3;omega,trivial⟩ ⟨hp,Nat.le_refl _,c8,⟨k,_,by rw[D9,List.map_append];exact bq⟩,fun y y1 y2=>cB⟩ ?_
 rintro i H' n ⟨h1,h2,hn,⟨x,d2,r2⟩,hkp⟩
 have a1:((eo l i x).map eC).length=l.length+1:=by rw[List.length_map,jI h2]
 by_cases hlt:p<i
 ·obtain⟨j,rfl⟩:∃j,i=j+1:=⟨i - 1,by omega⟩
  have e0:∀d,((eo l (j+1) x).map eC).getD (((j+1:Nat):Int) - 1).toNat d=eC (l.getD j []):=fun d=>by
   rw[show(((j+1:Nat):Int) - 1).toNat=j by omega,dB eC _ j d (by rw[jI h2];omega)]
   exact congrArg eC (JE (by omega))
  have e1:∀d,((eo l (j+1) x).map eC).getD (((j+1:Nat):Int)).toNat d=eC ((eo l (j+1) x).getD (j+1) []):=fun d=>by rw[Int.toNat_natCast];exact dB eC _ _ d (by rw[jI h2];omega)
  have hnx:((eo l (j+1) x).map eC).set (((j+1:Nat):Int)).toNat (eC (l.getD j []))=(eo l j (l.getD j [])).map eC:=by rw[Int.toNat_natCast,←List.map_set,tu (by omega),zh (by omega)]
  refine cV ?_
  exact⟨j,by omega,cI,by omega,by omega,c8,⟨_,_,by rw[←hnx];exact bq⟩,fun y y1 y2=>Eq.trans cB (hkp y y1 y2)⟩
 ·obtain rfl:i=p:=by omega
  have e1:∀d,((eo l i x).map eC).getD ((i:Int)).toNat d=eC ((eo l i x).getD i []):=fun d=>by rw[Int.toNat_natCast];exact dB eC _ _ d (by rw[jI h2];omega)
  have hnx:((eo l i x).map eC).set ((i:Int)).toNat (eC k)=(eo l i k).map eC:=by rw[Int.toNat_natCast,←List.map_set,tu h2]
  refine cV ?_
  exact⟨⟨rfl,⟨_,by rw[←hnx];exact bq⟩,c8,fun y y1 y2=>Eq.trans cB (hkp y y1 y2)⟩⟩
end Go.Proofs.YtekfmjjmihomlaaGreat
end
section
/- More is the same: the least that is enough. -/
namespace Go.Proofs.YtekfmjjmihomlaaGreat
open Go Go.cZ Go.Proofs
set_option linter.unusedSimpArgs false
set_option linter.unusedVariables false
set_option maxRecDepth 8000
theorem mi (u:bt) (hu:u.Wf) (most:Int):((gB u most).1≠0∧(gB u most).2=[])∨∃l,dC u∧1≤most∧most≤65536∧gN u most.toNat=some l∧gB u most=(0,l)∧gw u l∧l.length≤most.toNat:=by
 by_cases hr:dC u
 ·by_cases hm:1≤most∧most≤65536
  ·rw[j3 hr hm]
   cases h:gN u most.toNat with
   |none=>exact .inl ⟨by decide,rfl⟩
   |some l=>
    obtain⟨h1,h2,_⟩:=qE hu hr (by omega) h
    exact .inr ⟨l,hr,hm.1,hm.2,rfl,rfl,h1,h2⟩
  ·rw[jL hr hm]
   exact .inl ⟨by decide,rfl⟩
 ·rw[lM hr]
  exact .inl ⟨by decide,rfl⟩
theorem oX (a b:List cj) (ha:∀e∈a,vR e) (hl:a.length≤65536) (hl2:b.length≤65536):Pure Tryz.prog 15 [jh a,jh b] (fun r=>r=bl (decide (a=b))):=by
 have a0:(a.map cj.av).length=a.length:=by simp
 have a1:(b.map cj.av).length=b.length:=by simp
 refine aI G2 rfl ?_
 by_cases hne:a.length=b.length
 ·refine cV ?_
  refine aP (fun i:Nat=>[(0,jh a),(1,jh b),(5,i64 i)]) (fun i H n=>i≤a.length∧∀j:Nat,j<i→a.getD j default=b.getD j default) (fun i=>a.length - i) 0 cI ⟨Nat.zero_le _,fun j hj=>by omega⟩ ?_
  rintro i H n ⟨hi,hall⟩
  by_cases hil:i<a.length
  ·have e0:∀d,(a.map cj.av).getD ((i:Int)).toNat d=(a.getD i default).av:=fun d=>by rw[Int.toNat_natCast];exact dB cj.av a i d hil
   have e1:∀d,(b.map cj.av).getD ((i:Int)).toNat d=(b.getD i default).av:=fun d=>by rw[Int.toNat_natCast];exact dB cj.av b i d (by omega)
   obtain⟨q1,q2⟩:=ha _ (cW default hil)
   have c0:=nL (a.getD i default) (b.getD i default) q1 q2
   by_cases hc0:dz (a.getD i default) (b.getD i default)=0
   ·have r0:=hc0
    refine cV ?_
    exact⟨i+1,by omega,cI,by omega,fun j hj=>by
     by_cases e:j=i
     ·rw[e];exact(gJ.zero _ _).1 hc0
     ·exact hall j (by omega)⟩
   ·refine cV ?_
    refine db (Eq.symm ?_)
    exact decide_eq_false fun e=>hc0 ((gJ.zero _ _).2 (by rw[e]))
  ·refine cV ?_
   refine db (Eq.symm ?_)
   refine decide_eq_true ?_
   apply List.ext_getElem hne
   intro j q1 q2
   have:=hall j (by omega)
   simpa[List.getD,q1,q2] using this
 ·refine cV ?_
  refine db (Eq.symm ?_)
  exact decide_eq_false fun e=>hne (by rw[e])
end Go.Proofs.YtekfmjjmihomlaaGreat
end
