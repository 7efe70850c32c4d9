import Derived.Test.YtjopoheligmmoaaGreatDoorM30
namespace Go.Proofs.YtjopoheligmmoaaGreatDoor
open Go Go.cp Go.Proofs
set_option linter.unusedSimpArgs false
set_option linter.unusedVariables false
set_option maxRecDepth 8000
set_option maxHeartbeats 2000000
theorem ER {u:bx} {m:MS} {t:Nat} {n:Node} {d:gR} {ab:Nat} {L:ML} {H:Hp} {nx:Nat} (h:tW u m t n d ab L H) (hlt:∀y∈ab::L.all,y<nx) (ht:t<m.cC.length) (hl:m.cC.length<=8) (hth:0<=n.cR/\n.cR<m.hold.length):
 cO Tryz.prog 110 [.pt ab 1 0 0] H nx (fun r H' k=>r=i64 n.next/\tE u { m with hold:=m.hold.set n.cR.toNat t } t n { d with cR:=n.cR } ab L H nx H' k):=by
 have hfr:∀(v:lX) (H1:Hp),(∀y∈ab::L.all,bw H1 y=bw H y)->[.pt ab 1 0 0,v.av].map (cp.dX H1 6)=[nD u m t n d,v.av]:=fun v H1 h1=>by
  rw[List.map_cons,List.map_cons,List.map_nil,(h.cT h1).dX,dj _ (show cK 0 v.av by simp[cK])]
 have h0:=h
 obtain⟨hM,⟨dd,ra⟩,hout⟩:=h
 obtain⟨⟨a1,a2,a3,a4,a5,b1,b2,b3,b4,c1,c2,c3,e1',e2',f1⟩,n1,n2,n3,n4,n5,n6⟩:=apart hM ht
 have hmem:=hM.mem
 have k0:=hlt ab (by simp)
 have km:=hlt L.mr (by simp)
 have ke:=hlt L.me (List.mem_cons_of_mem _ (hmem _ (by simp)))
 have kh:=hlt L.ho (List.mem_cons_of_mem _ (hmem _ (by simp)))
 have kp:=hlt L.pr (List.mem_cons_of_mem _ (hmem _ (by simp)))
 have o1:=dP hout (List.mem_cons_self (a:=L.mr))
 have o2:=dP hout (hmem L.me (by simp))
 have o3:=dP hout (hmem L.ho (by simp))
 have o4:=dP hout (hmem L.pr (by simp))
 clear a1 a2 a4 b1 b2 b3 b4 c1 c2 c3 e1' e2' f1 n1 n2 n3 n4 n5 n6
 obtain⟨d1,r1⟩:=hM.rM
 obtain⟨d3,r4⟩:=hM.rE
 obtain⟨d5,r5⟩:=hM.rH
 obtain⟨d6,r6⟩:=hM.rP
 have q1:(m.mem.map i64).length=m.mem.length:=by simp
 have q2:(m.hold.map i64).length=m.hold.length:=by simp
 have q3:(m.cQ.map dW.av).length=m.cQ.length:=by simp
 refine aJ RD rfl ?_
 refine cV ?_
 exact⟨⟨rfl,⟨hM.NN ht _ _ ⟨_,cA⟩ fun y hy hne=>by have:=dP hout hy;exact cB,⟨_,cA⟩,hout⟩,ca,fun y y1 y2 y3=>by have y4:=dP y3 (hmem L.ho (by simp));exact cB⟩⟩
theorem y7 {u:bx} {m:MS} {t:Nat} {n:Node} {d:gR} {ab:Nat} {L:ML} {H:Hp} {nx:Nat} (h:tW u m t n d ab L H) (hlt:∀y∈ab::L.all,y<nx) (ht:t<m.cC.length) (hl:m.cC.length<=8) (hth:0<=n.cR/\n.cR<m.hold.length):
 cO Tryz.prog 111 [.pt ab 1 0 0] H nx (fun r H' k=>r=i64 n.next/\tE u { m with hold:=m.hold.set n.cR.toNat (-1) } t n { d with cR:=n.cR } ab L H nx H' k):=by
 have hfr:∀(v:lX) (H1:Hp),(∀y∈ab::L.all,bw H1 y=bw H y)->[.pt ab 1 0 0,v.av].map (cp.dX H1 6)=[nD u m t n d,v.av]:=fun v H1 h1=>by
  rw[List.map_cons,List.map_cons,List.map_nil,(h.cT h1).dX,dj _ (show cK 0 v.av by simp[cK])]
 have h0:=h
 obtain⟨hM,⟨dd,ra⟩,hout⟩:=h
 obtain⟨⟨a1,a2,a3,a4,a5,b1,b2,b3,b4,c1,c2,c3,e1',e2',f1⟩,n1,n2,n3,n4,n5,n6⟩:=apart hM ht
 have hmem:=hM.mem
 have k0:=hlt ab (by simp)
 have km:=hlt L.mr (by simp)
 have ke:=hlt L.me (List.mem_cons_of_mem _ (hmem _ (by simp)))
 have kh:=hlt L.ho (List.mem_cons_of_mem _ (hmem _ (by simp)))
 have kp:=hlt L.pr (List.mem_cons_of_mem _ (hmem _ (by simp)))
 have o1:=dP hout (List.mem_cons_self (a:=L.mr))
 have o2:=dP hout (hmem L.me (by simp))
 have o3:=dP hout (hmem L.ho (by simp))
 have o4:=dP hout (hmem L.pr (by simp))
 clear a1 a2 a4 b1 b2 b3 b4 c1 c2 c3 e1' e2' f1 n1 n2 n3 n4 n5 n6
 obtain⟨d1,r1⟩:=hM.rM
 obtain⟨d3,r4⟩:=hM.rE
 obtain⟨d5,r5⟩:=hM.rH
 obtain⟨d6,r6⟩:=hM.rP
 have q1:(m.mem.map i64).length=m.mem.length:=by simp
 have q2:(m.hold.map i64).length=m.hold.length:=by simp
 have q3:(m.cQ.map dW.av).length=m.cQ.length:=by simp
 refine aJ RE rfl ?_
 refine cV ?_
 exact⟨⟨rfl,⟨hM.NN ht _ _ ⟨_,cA⟩ fun y hy hne=>by have:=dP hout hy;exact cB,⟨_,cA⟩,hout⟩,ca,fun y y1 y2 y3=>by have y4:=dP y3 (hmem L.ho (by simp));exact cB⟩⟩
theorem wm {u:bx} {m:MS} {t:Nat} {n:Node} {d:gR} {ab:Nat} {L:ML} {H:Hp} {nx:Nat} (h:tW u m t n d ab L H) (hlt:∀y∈ab::L.all,y<nx) (ht:t<m.cC.length) (hl:m.cC.length<=8) (hva:nC m t n.a):
 cO Tryz.prog 113 [.pt ab 1 0 0] H nx (fun r H' k=>r=i64 (if m.val t n.a=0 then n.rk else n.next)/\tE u m t n { d with word:=m.val t n.a } ab L H nx H' k):=by
 have hfr:∀(v:lX) (H1:Hp),(∀y∈ab::L.all,bw H1 y=bw H y)->[.pt ab 1 0 0,v.av].map (cp.dX H1 6)=[nD u m t n d,v.av]:=fun v H1 h1=>by
  rw[List.map_cons,List.map_cons,List.map_nil,(h.cT h1).dX,dj _ (show cK 0 v.av by simp[cK])]
 have h0:=h
 obtain⟨hM,⟨dd,ra⟩,hout⟩:=h
 obtain⟨⟨a1,a2,a3,a4,a5,b1,b2,b3,b4,c1,c2,c3,e1',e2',f1⟩,n1,n2,n3,n4,n5,n6⟩:=apart hM ht
 have hmem:=hM.mem
 have k0:=hlt ab (by simp)
 have km:=hlt L.mr (by simp)
 have ke:=hlt L.me (List.mem_cons_of_mem _ (hmem _ (by simp)))
 have kh:=hlt L.ho (List.mem_cons_of_mem _ (hmem _ (by simp)))
 have kp:=hlt L.pr (List.mem_cons_of_mem _ (hmem _ (by simp)))
 have o1:=dP hout (List.mem_cons_self (a:=L.mr))
 have o2:=dP hout (hmem L.me (by simp))
 have o3:=dP hout (hmem L.ho (by simp))
 have o4:=dP hout (hmem L.pr (by simp))
 clear a1 a2 a4 b1 b2 b3 b4 c1 c2 c3 e1' e2' f1 n1 n2 n3 n4 n5 n6
 obtain⟨d1,r1⟩:=hM.rM
 obtain⟨d3,r4⟩:=hM.rE
 obtain⟨d5,r5⟩:=hM.rH
 obtain⟨d6,r6⟩:=hM.rP
 have q1:(m.mem.map i64).length=m.mem.length:=by simp
 have q2:(m.hold.map i64).length=m.hold.length:=by simp
 have q3:(m.cQ.map dW.av).length=m.cQ.length:=by simp
 by_cases hz:m.val t n.a=0
 ·rw[if_pos hz]
  refine aJ NQ rfl ?_
  refine cV ?_
  refine aS (iq u m n d n.a ht hl hva) (hfr n.a _ ?_) (by simp[c8,cK]) trivial ?_
  ·exact fun y hy=>rfl
  refine cV ?_
  exact⟨⟨rfl,⟨hM.cT fun y hy=>by have:=dP hout hy;exact cB,⟨_,cA⟩,hout⟩,ca,fun y y1 y2 y3=>cB⟩⟩
 ·rw[if_neg hz]
  refine aJ NQ rfl ?_
  refine cV ?_
  refine aS (iq u m n d n.a ht hl hva) (hfr n.a _ ?_) (by simp[c8,cK]) trivial ?_
  ·exact fun y hy=>rfl
  refine cV ?_
  exact⟨⟨rfl,⟨hM.cT fun y hy=>by have:=dP hout hy;exact cB,⟨_,cA⟩,hout⟩,ca,fun y y1 y2 y3=>cB⟩⟩
theorem EP {u:bx} {m:MS} {t:Nat} {n:Node} {d:gR} {ab:Nat} {L:ML} {H:Hp} {nx:Nat} (h:tW u m t n d ab L H) (hlt:∀y∈ab::L.all,y<nx) (ht:t<m.cC.length) (hl:m.cC.length<=8) (hs:0<=n.slot/\n.slot<(m.cC.getD t []).length) (hth:0<=n.cR/\n.cR<m.mem.length):
 cO Tryz.prog 107 [.pt ab 1 0 0] H nx (fun r H' k=>r=i64 n.next/\tE u (m.gb t n.slot (m.mem.getD n.cR.toNat 0)) t n { d with cR:=n.cR,word:=m.mem.getD n.cR.toNat 0 } ab L H nx H' k):=by
 have hfr:∀(v:lX) (H1:Hp),(∀y∈ab::L.all,bw H1 y=bw H y)->[.pt ab 1 0 0,v.av].map (cp.dX H1 6)=[nD u m t n d,v.av]:=fun v H1 h1=>by
  rw[List.map_cons,List.map_cons,List.map_nil,(h.cT h1).dX,dj _ (show cK 0 v.av by simp[cK])]
 have h0:=h
 obtain⟨hM,⟨dd,ra⟩,hout⟩:=h
 obtain⟨⟨a1,a2,a3,a4,a5,b1,b2,b3,b4,c1,c2,c3,e1',e2',f1⟩,n1,n2,n3,n4,n5,n6⟩:=apart hM ht
 have hmem:=hM.mem
 have k0:=hlt ab (by simp)
 have km:=hlt L.mr (by simp)
 have ke:=hlt L.me (List.mem_cons_of_mem _ (hmem _ (by simp)))
 have kh:=hlt L.ho (List.mem_cons_of_mem _ (hmem _ (by simp)))
 have kp:=hlt L.pr (List.mem_cons_of_mem _ (hmem _ (by simp)))
 have o1:=dP hout (List.mem_cons_self (a:=L.mr))
 have o2:=dP hout (hmem L.me (by simp))
 have o3:=dP hout (hmem L.ho (by simp))
 have o4:=dP hout (hmem L.pr (by simp))
 clear a1 a2 a4 b1 b2 b3 b4 c1 c2 c3 e1' e2' f1 n1 n2 n3 n4 n5 n6
 obtain⟨d1,r1⟩:=hM.rM
 obtain⟨d3,r4⟩:=hM.rE
 obtain⟨d5,r5⟩:=hM.rH
 obtain⟨d6,r6⟩:=hM.rP
 have q1:(m.mem.map i64).length=m.mem.length:=by simp
 have q2:(m.hold.map i64).length=m.hold.length:=by simp
 have q3:(m.cQ.map dW.av).length=m.cQ.length:=by simp
 have e0:=fun d=>oV (l:=m.mem) (k:=n.cR) (by omega) d
 refine aJ RA rfl ?_
 refine cV ?_
 refine aI (kN (u:=u) (t:=t) (n:=n) (d:={ d with cR:=n.cR }) (L:=L) (m:=m) (ab:=ab) ?_ ?_ ht hl hs _) ?_
 ·exact⟨hM.cT fun y hy=>by have:=dP hout hy;exact cB,⟨_,cA⟩,hout⟩
 ·exact fun y hy=>Nat.lt_of_lt_of_le (hlt y hy) ca
 rintro _ H2 n2 ⟨hA,hn2,hk2⟩
 obtain⟨dd2,ra2⟩:=hA.row
 refine cV ?_
 exact⟨⟨rfl,hA.cT fun y hy=>cB,ca,fun y y1 y2 y3=>Eq.trans cB ((hk2 y (Nat.lt_of_lt_of_le y1 ca) y2 y3).trans cB)⟩⟩
theorem BH {u:bx} {m:MS} {t:Nat} {n:Node} {d:gR} {ab:Nat} {L:ML} {H:Hp} {nx:Nat} (h:tW u m t n d ab L H) (hlt:∀y∈ab::L.all,y<nx) (ht:t<m.cC.length) (hl:m.cC.length<=8) (hva:nC m t n.a) (hth:0<=n.cR/\n.cR<m.mem.length):
 cO Tryz.prog 108 [.pt ab 1 0 0] H nx (fun r H' k=>r=i64 n.next/\tE u { m with mem:=m.mem.set n.cR.toNat (m.val t n.a) } t n { d with cR:=n.cR,word:=m.val t n.a } ab L H nx H' k):=by
 have hfr:∀(v:lX) (H1:Hp),(∀y∈ab::L.all,bw H1 y=bw H y)->[.pt ab 1 0 0,v.av].map (cp.dX H1 6)=[nD u m t n d,v.av]:=fun v H1 h1=>by
  rw[List.map_cons,List.map_cons,List.map_nil,(h.cT h1).dX,dj _ (show cK 0 v.av by simp[cK])]
 have h0:=h
 obtain⟨hM,⟨dd,ra⟩,hout⟩:=h
 obtain⟨⟨a1,a2,a3,a4,a5,b1,b2,b3,b4,c1,c2,c3,e1',e2',f1⟩,n1,n2,n3,n4,n5,n6⟩:=apart hM ht
 have hmem:=hM.mem
 have k0:=hlt ab (by simp)
 have km:=hlt L.mr (by simp)
 have ke:=hlt L.me (List.mem_cons_of_mem _ (hmem _ (by simp)))
 have kh:=hlt L.ho (List.mem_cons_of_mem _ (hmem _ (by simp)))
 have kp:=hlt L.pr (List.mem_cons_of_mem _ (hmem _ (by simp)))
 have o1:=dP hout (List.mem_cons_self (a:=L.mr))
 have o2:=dP hout (hmem L.me (by simp))
 have o3:=dP hout (hmem L.ho (by simp))
 have o4:=dP hout (hmem L.pr (by simp))
 clear a1 a2 a4 b1 b2 b3 b4 c1 c2 c3 e1' e2' f1 n1 n2 n3 n4 n5 n6
 obtain⟨d1,r1⟩:=hM.rM
 obtain⟨d3,r4⟩:=hM.rE
 obtain⟨d5,r5⟩:=hM.rH
 obtain⟨d6,r6⟩:=hM.rP
 have q1:(m.mem.map i64).length=m.mem.length:=by simp
 have q2:(m.hold.map i64).length=m.hold.length:=by simp
 have q3:(m.cQ.map dW.av).length=m.cQ.length:=by simp
 refine aJ RB rfl ?_
 refine cV ?_
 refine aZ (ab::L.all) (iq u m n d n.a ht hl hva) (fun H1 h1=>hfr n.a H1 h1) (by simp[c8,cK]) trivial ?_
 refine Eq.mpr (sY (ab::L.all) _) (su ?_)
 refine cV ?_
 exact⟨⟨rfl,⟨hM.jX ht _ _ ⟨_,cA⟩ fun y hy hne=>by have:=dP hout hy;exact cB,⟨_,cA⟩,hout⟩,ca,fun y y1 y2 y3=>by have y4:=dP y3 (hmem L.me (by simp));exact cB⟩⟩
theorem AI {u:bx} {m:MS} {t:Nat} {n:Node} {d:gR} {ab:Nat} {L:ML} {H:Hp} {nx:Nat} (h:tW u m t n d ab L H) (hlt:∀y∈ab::L.all,y<nx) (ht:t<m.cC.length) (hl:m.cC.length<=8) (hva:nC m t n.a) (hpl:m.cQ.length<=1048576):
 cO Tryz.prog 112 [.pt ab 1 0 0] H nx (fun r H' k=>r=i64 n.next/\tE u { m with cQ:=m.cQ++[⟨t,m.val t n.a⟩] } t n { d with word:=m.val t n.a } ab L H nx H' k):=by
 have hfr:∀(v:lX) (H1:Hp),(∀y∈ab::L.all,bw H1 y=bw H y)->[.pt ab 1 0 0,v.av].map (cp.dX H1 6)=[nD u m t n d,v.av]:=fun v H1 h1=>by
  rw[List.map_cons,List.map_cons,List.map_nil,(h.cT h1).dX,dj _ (show cK 0 v.av by simp[cK])]
 have h0:=h
 obtain⟨hM,⟨dd,ra⟩,hout⟩:=h
 obtain⟨⟨a1,a2,a3,a4,a5,b1,b2,b3,b4,c1,c2,c3,e1',e2',f1⟩,n1,n2,n3,n4,n5,n6⟩:=apart hM ht
 have hmem:=hM.mem
 have k0:=hlt ab (by simp)
 have km:=hlt L.mr (by simp)
 have ke:=hlt L.me (List.mem_cons_of_mem _ (hmem _ (by simp)))
 have kh:=hlt L.ho (List.mem_cons_of_mem _ (hmem _ (by simp)))
 have kp:=hlt L.pr (List.mem_cons_of_mem _ (hmem _ (by simp)))
 have o1:=dP hout (List.mem_cons_self (a:=L.mr))
 have o2:=dP hout (hmem L.me (by simp))
 have o3:=dP hout (hmem L.ho (by simp))
 have o4:=dP hout (hmem L.pr (by simp))
 clear a1 a2 a4 b1 b2 b3 b4 c1 c2 c3 e1' e2' f1 n1 n2 n3 n4 n5 n6
 obtain⟨d1,r1⟩:=hM.rM
 obtain⟨d3,r4⟩:=hM.rE
 obtain⟨d5,r5⟩:=hM.rH
 obtain⟨d6,r6⟩:=hM.rP
 have q1:(m.mem.map i64).length=m.mem.length:=by simp
 have q2:(m.hold.map i64).length=m.hold.length:=by simp
 have q3:(m.cQ.map dW.av).length=m.cQ.length:=by simp
 refine aJ RF rfl ?_
 refine cV ?_
 refine aS (iq u m n d n.a ht hl hva) (hfr n.a _ ?_) (by simp[c8,cK]) trivial ?_
 ·exact fun y hy=>rfl
 refine cV ?_
 exact⟨⟨rfl,⟨hM.PD ht _ ⟨_,by simp only[MS.rows,List.length_append,List.length_cons,List.length_nil];exact cA⟩ ⟨_,cA⟩ fun y hy hne hn2=>by have:=dP hout hy;have:=hlt y (List.mem_cons_of_mem _ hy);exact cB,⟨_,cA⟩,hout⟩,ca,fun y y1 y2 y3=>by have y4:=dP y3 (List.mem_cons_self (a:=L.mr));have y5:=dP y3 (hmem L.pr (by simp));exact cB⟩⟩
theorem FT {u:bx} {m:MS} {t:Nat} {n:Node} {d:gR} {ab:Nat} {L:ML} {H:Hp} {nx:Nat} (h:tW u m t n d ab L H) (hlt:∀y∈ab::L.all,y<nx) (ht:t<m.cC.length) (hl:m.cC.length<=8) (hva:nC m t n.a) (hs:0<=n.slot/\n.slot<(m.cC.getD t []).length) (hth:0<=n.cR/\n.cR<m.mem.length):
 cO Tryz.prog 109 [.pt ab 1 0 0] H nx (fun r H' k=>r=i64 n.next/\tE u { m.gb t n.slot (m.mem.getD n.cR.toNat 0) with mem:=m.mem.set n.cR.toNat (m.val t n.a) } t n { d with cR:=n.cR,word:=m.mem.getD n.cR.toNat 0,put:=m.val t n.a } ab L H nx H' k):=by
 have hfr:∀(v:lX) (H1:Hp),(∀y∈ab::L.all,bw H1 y=bw H y)->[.pt ab 1 0 0,v.av].map (cp.dX H1 6)=[nD u m t n d,v.av]:=fun v H1 h1=>by
  rw[List.map_cons,List.map_cons,List.map_nil,(h.cT h1).dX,dj _ (show cK 0 v.av by simp[cK])]
 have h0:=h
 obtain⟨hM,⟨dd,ra⟩,hout⟩:=h
 obtain⟨⟨a1,a2,a3,a4,a5,b1,b2,b3,b4,c1,c2,c3,e1',e2',f1⟩,n1,n2,n3,n4,n5,n6⟩:=apart hM ht
 have hmem:=hM.mem
 have k0:=hlt ab (by simp)
 have km:=hlt L.mr (by simp)
 have ke:=hlt L.me (List.mem_cons_of_mem _ (hmem _ (by simp)))
 have kh:=hlt L.ho (List.mem_cons_of_mem _ (hmem _ (by simp)))
 have kp:=hlt L.pr (List.mem_cons_of_mem _ (hmem _ (by simp)))
 have o1:=dP hout (List.mem_cons_self (a:=L.mr))
 have o2:=dP hout (hmem L.me (by simp))
 have o3:=dP hout (hmem L.ho (by simp))
 have o4:=dP hout (hmem L.pr (by simp))
 clear a1 a2 a4 b1 b2 b3 b4 c1 c2 c3 e1' e2' f1 n1 n2 n3 n4 n5 n6
 obtain⟨d1,r1⟩:=hM.rM
 obtain⟨d3,r4⟩:=hM.rE
 obtain⟨d5,r5⟩:=hM.rH
 obtain⟨d6,r6⟩:=hM.rP
 have q1:(m.mem.map i64).length=m.mem.length:=by simp
 have q2:(m.hold.map i64).length=m.hold.length:=by simp
 have q3:(m.cQ.map dW.av).length=m.cQ.length:=by simp
 have e0:=fun d=>oV (l:=m.mem) (k:=n.cR) (by omega) d
 refine aJ RC rfl ?_
 refine cV ?_
 refine aZ (ab::L.all) (iq u m n d n.a ht hl hva) (fun H1 h1=>hfr n.a H1 h1) (by simp[c8,cK]) trivial ?_
 refine Eq.mpr (sY (ab::L.all) _) (su ?_)
 refine cV ?_
 refine aI (kN (u:=u) (t:=t) (n:=n) (d:={ d with cR:=n.cR,put:=m.val t n.a }) (L:=L) (m:=m) (ab:=ab) ?_ ?_ ht hl hs _) ?_
 ·exact⟨hM.cT fun y hy=>by have:=dP hout hy;exact cB,⟨_,cA⟩,hout⟩
 ·exact fun y hy=>Nat.lt_of_lt_of_le (hlt y hy) ca
 rintro _ H2 n2 ⟨hA,hn2,hk2⟩
 obtain⟨dd2,ra2⟩:=hA.row
 obtain⟨d8,r8⟩:=hA.M.rM
 obtain⟨d9,r9⟩:=hA.M.rE
 refine cV ?_
 have ht2:t<(m.gb t n.slot (m.mem.getD n.cR.toNat 0)).cC.length:=by simp only[MS.gb,List.length_set];exact ht
 exact⟨⟨rfl,⟨hA.M.jX ht2 _ _ ⟨_,cA⟩ fun y hy hne=>by have:=dP hout hy;exact cB,⟨_,cA⟩,hout⟩,ca,fun y y1 y2 y3=>by have y4:=dP y3 (hmem L.me (by simp));exact Eq.trans cB ((hk2 y (Nat.lt_of_lt_of_le y1 ca) y2 y3).trans cB)⟩⟩
theorem JV {u:bx} {m:MS} {t:Nat} {n:Node} {d:gR} {ab:Nat} {L:ML} {H:Hp} {nx:Nat} (h:tW u m t n d ab L H) (hlt:∀y∈ab::L.all,y<nx) (ht:t<m.cC.length) (hl:m.cC.length<=8) (hs:0<=n.slot/\n.slot<(m.cC.getD t []).length) (hva:nC m t n.a) (hvb:eA n.op=true->nC m t n.b) (hop:0<=n.op/\n.op<19):
 cO Tryz.prog 106 [.pt ab 1 0 0] H nx (fun r H' k=>r=i64 n.next/\tE u (m.gb t n.slot (m.AZ t n)) t n { d with word:=m.AZ t n } ab L H nx H' k):=by
 have hfr:∀(v:lX) (H1:Hp),(∀y∈ab::L.all,bw H1 y=bw H y)->[.pt ab 1 0 0,v.av].map (cp.dX H1 6)=[nD u m t n d,v.av]:=fun v H1 h1=>by
  rw[List.map_cons,List.map_cons,List.map_nil,(h.cT h1).dX,dj _ (show cK 0 v.av by simp[cK])]
 have h0:=h
 obtain⟨hM,⟨dd,ra⟩,hout⟩:=h
 obtain⟨⟨a1,a2,a3,a4,a5,b1,b2,b3,b4,c1,c2,c3,e1',e2',f1⟩,n1,n2,n3,n4,n5,n6⟩:=apart hM ht
 have hmem:=hM.mem
 have k0:=hlt ab (by simp)
 have km:=hlt L.mr (by simp)
 have ke:=hlt L.me (List.mem_cons_of_mem _ (hmem _ (by simp)))
 have kh:=hlt L.ho (List.mem_cons_of_mem _ (hmem _ (by simp)))
 have kp:=hlt L.pr (List.mem_cons_of_mem _ (hmem _ (by simp)))
 have o1:=dP hout (List.mem_cons_self (a:=L.mr))
 have o2:=dP hout (hmem L.me (by simp))
 have o3:=dP hout (hmem L.ho (by simp))
 have o4:=dP hout (hmem L.pr (by simp))
 clear a1 a2 a4 b1 b2 b3 b4 c1 c2 c3 e1' e2' f1 n1 n2 n3 n4 n5 n6
 obtain⟨d1,r1⟩:=hM.rM
 obtain⟨d3,r4⟩:=hM.rE
 obtain⟨d5,r5⟩:=hM.rH
 obtain⟨d6,r6⟩:=hM.rP
 have q1:(m.mem.map i64).length=m.mem.length:=by simp
 have q2:(m.hold.map i64).length=m.hold.length:=by simp
 have q3:(m.cQ.map dW.av).length=m.cQ.length:=by simp
 have c0:=fN n.op hop.1
 unfold MS.AZ
 cases h2:eA n.op with
 |true=>
  rw[h2] at c0
  have c1:=N1 n.op (m.val t n.a) (m.val t n.b) h2
  have hvb:=hvb h2
  rw[if_pos rfl]
  refine aJ I1 rfl ?_
  refine cV ?_
  refine aS (iq u m n d n.a ht hl hva) (hfr n.a _ ?_) (by simp[c8,cK]) trivial ?_
  ·exact fun y hy=>rfl
  refine cV ?_
  refine aZ (ab::L.all) (iq u m n d n.b ht hl hvb) (fun H1 h1=>hfr n.b H1 h1) (by simp[c8,cK]) trivial ?_
  refine Eq.mpr (sY (ab::L.all) _) (su ?_)
  refine cV ?_
  refine aI (kN (u:=u) (t:=t) (n:=n) (d:=d) (L:=L) (m:=m) (ab:=ab) ?_ ?_ ht hl hs _) ?_
  ·exact⟨hM.cT fun y hy=>by have:=dP hout hy;exact cB,⟨_,cA⟩,hout⟩
  ·exact fun y hy=>Nat.lt_of_lt_of_le (hlt y hy) ca
  rintro _ H2 n2 ⟨hA,hn2,hk2⟩
  obtain⟨dd2,ra2⟩:=hA.row
  refine cV ?_
  exact⟨⟨rfl,hA.cT fun y hy=>cB,ca,fun y y1 y2 y3=>Eq.trans cB ((hk2 y (Nat.lt_of_lt_of_le y1 ca) y2 y3).trans cB)⟩⟩
 |false=>
  rw[h2] at c0
  rw[if_neg (by decide)]
  by_cases h0':n.op=0
  ·rw[if_neg (fun e=>e h0')]
   refine aJ I1 rfl ?_
   refine cV ?_
   refine aS (iq u m n d n.a ht hl hva) (hfr n.a _ ?_) (by simp[c8,cK]) trivial ?_
   ·exact fun y hy=>rfl
   refine cV ?_
   refine aI (kN (u:=u) (t:=t) (n:=n) (d:=d) (L:=L) (m:=m) (ab:=ab) ?_ ?_ ht hl hs _) ?_
   ·exact⟨hM.cT fun y hy=>by have:=dP hout hy;exact cB,⟨_,cA⟩,hout⟩
   ·exact fun y hy=>Nat.lt_of_lt_of_le (hlt y hy) ca
   rintro _ H2 n2 ⟨hA,hn2,hk2⟩
   obtain⟨dd2,ra2⟩:=hA.row
   refine cV ?_
   exact⟨⟨rfl,hA.cT fun y hy=>cB,ca,fun y y1 y2 y3=>Eq.trans cB ((hk2 y (Nat.lt_of_lt_of_le y1 ca) y2 y3).trans cB)⟩⟩
  ·rw[if_pos h0']
   have c1:=KJ n.op (m.val t n.a) (by unfold eA at h2;simp only[Bool.and_eq_false_iff,decide_eq_false_iff_not] at h2;omega)
   refine aJ I1 rfl ?_
   refine cV ?_
   refine aS (iq u m n d n.a ht hl hva) (hfr n.a _ ?_) (by simp[c8,cK]) trivial ?_
   ·exact fun y hy=>rfl
   refine cV ?_
   refine aI (kN (u:=u) (t:=t) (n:=n) (d:=d) (L:=L) (m:=m) (ab:=ab) ?_ ?_ ht hl hs _) ?_
   ·exact⟨hM.cT fun y hy=>by have:=dP hout hy;exact cB,⟨_,cA⟩,hout⟩
   ·exact fun y hy=>Nat.lt_of_lt_of_le (hlt y hy) ca
   rintro _ H2 n2 ⟨hA,hn2,hk2⟩
   obtain⟨dd2,ra2⟩:=hA.row
   refine cV ?_
   exact⟨⟨rfl,hA.cT fun y hy=>cB,ca,fun y y1 y2 y3=>Eq.trans cB ((hk2 y (Nat.lt_of_lt_of_le y1 ca) y2 y3).trans cB)⟩⟩
section
def kD (k:Int):Nat:=if k=1 then 106 else if k=2 then 107 else if k=3 then 108 else if k=4 then 109 else if k=5 then 110 else if k=6 then 111 else if k=7 then 112 else 113
def qz:AV:= .agg [.sc .nilFunc, .fn (.func 106) [] [], .fn (.func 107) [] [], .fn (.func 108) [] [], .fn (.func 109) [] [], .fn (.func 110) [] [], .fn (.func 111) [] [], .fn (.func 112) [] [], .fn (.func 113) [] [], .sc .nilFunc]
theorem vJ:Pure Tryz.prog 70 [] (fun r=>r=qz):=by
 refine cm ?_ (by simp[qz,cK,c8])
 refine aJ VD rfl ?_
 refine cV ?_
 exact⟨rfl⟩
def qy (m:MS) (t:Nat) (n:Node) (d:gR):gR:={ d with cR:=(m.act t n).2.2.1,word:=(m.act t n).2.2.2.1,put:=(m.act t n).2.2.2.2 }
structure BO (m:MS) (t:Nat) (n:Node):Prop where
 kind:1<=n.kind/\n.kind<=8
 slot:n.kind=1\/n.kind=2\/n.kind=4->0<=n.slot/\n.slot<(m.cC.getD t []).length
 mem:n.kind=2\/n.kind=3\/n.kind=4->0<=n.cR/\n.cR<m.mem.length
 hold:n.kind=5\/n.kind=6->0<=n.cR/\n.cR<m.hold.length
 a:n.kind=1\/n.kind=3\/n.kind=4\/n.kind=7\/n.kind=8->nC m t n.a
 b:n.kind=1->eA n.op=true->nC m t n.b
 op:n.kind=1->0<=n.op/\n.op<19
theorem CY {v:lX} {g:Int} {m:MS} {t:Nat} (h:tV v true g=true) (hl:((m.cC.getD t []).length:Int)=g):nC m t v:=by
 intro hs
 unfold tV at h
 rw[if_pos rfl,if_pos hs] at h
 simp only[Bool.and_eq_true,decide_eq_true_eq] at h
 omega
theorem eN.QJ {u:bx} {m:MS} {t:Nat} (hu:u.Wf) (hr:cW u) (h:eN u m) (ht:t<u.bz.length) (hk:(m.node u t).kind≠9):BO m t (m.node u t):=by
 have hn:=h.node hr ht
 have hw:=CO hu h ht
 have hsl:=h.A7 t ht
 have hg:=(hr.gr ht).cC
 have hg2:=(hr.gr ht).locals
 have hml:=h.ml
 have hhl:=h.hl
 generalize m.node u t=n at *
 have hkd:=hn.kind
 have hlen:(((m.cC.getD t []).length:Nat):Int)=(u.gr t).cC:=by rw[hsl];omega
 refine⟨by omega,fun e=> ?_,fun e=> ?_,fun e=> ?_,fun e=> ?_,fun e e2=> ?_,fun e=> ?_⟩
 ·have:=hn.slot.1 (by unfold kY;exact decide_eq_true (by omega));omega
 ·have:=hn.cR.1 (by unfold fx;exact decide_eq_true (by omega))
  rw[if_neg (by omega)] at this;omega
 ·have:=hn.cR.1 (by unfold fx;exact decide_eq_true (by omega))
  rw[if_pos (by omega)] at this;omega
 ·have:=hn.a
  rw[show ur n.kind=true by unfold ur;exact decide_eq_true (by omega)] at this
  exact CY this hlen
 ·have:=hn.b
  rw[e2,decide_eq_true e] at this
  exact CY this hlen
 ·exact⟨hw.op.1,hn.op.1 e⟩
section
variable {u:bx} {m:MS} {t:Nat} {n:Node} {d:gR} {ab:Nat} {L:ML} {H:Hp} {nx:Nat}
theorem GI (h:tW u m t n d ab L H) (hlt:∀y∈ab::L.all,y<nx) (ht:t<m.cC.length) (hl:m.cC.length<=8) (ha:BO m t n) (hpl:m.cQ.length<=1048576) (hd:d.cR=0/\d.word=0/\d.put=0):
 cO Tryz.prog (kD n.kind) [.pt ab 1 0 0] H nx (fun r H' k=>r=i64 (m.act t n).2.1/\tE u (m.act t n).1 t n (qy m t n d) ab L H nx H' k):=by
 obtain⟨d1,d2,d3⟩:=hd
 have hk:n.kind=1\/n.kind=2\/n.kind=3\/n.kind=4\/n.kind=5\/n.kind=6\/n.kind=7\/n.kind=8:=by have:=ha.kind;omega
 obtain⟨t0,a0,k0,th,w0,p0⟩:=d
 dsimp only at d1 d2 d3
 subst d1 d2 d3
 have hop:=ha.op
 rcases hk with e|e|e|e|e|e|e|e
 ·have:=JV h hlt ht hl (ha.slot (by omega)) (ha.a (by omega)) (ha.b e) (hop e)
  simp only[kD,qy,MS.act,e];exact this
 ·have:=EP h hlt ht hl (ha.slot (by omega)) (ha.mem (by omega))
  simp only[kD,qy,MS.act,e];exact this
 ·have:=BH h hlt ht hl (ha.a (by omega)) (ha.mem (by omega))
  simp only[kD,qy,MS.act,e];exact this
 ·have:=FT h hlt ht hl (ha.a (by omega)) (ha.slot (by omega)) (ha.mem (by omega))
  simp only[kD,qy,MS.act,e];exact this
 ·have:=ER h hlt ht hl (ha.hold (by omega))
  simp only[kD,qy,MS.act,e];exact this
 ·have:=y7 h hlt ht hl (ha.hold (by omega))
  simp only[kD,qy,MS.act,e];exact this
 ·have:=AI h hlt ht hl (ha.a (by omega)) hpl
  simp only[kD,qy,MS.act,e];exact this
 ·have:=wm h hlt ht hl (ha.a (by omega))
  simp only[kD,qy,MS.act,e];exact this
end
abbrev oN (d:Nat) (o:dM):gS:=⟨some d,none,o⟩
def yD:List gS:=[oN 50 (.mv (.t 0)),oN 51 (.O9 (.t 50)),oN 52 (.fa 3 (.t 51)),oN 53 (.ld false 1 (.t 52)),oN 54 (.mv (.t 1)),oN 55 (.call (.f 70) []),oN 56 (.mv (.t 8)),oN 57 (.O9 (.t 56)),oN 58 (.fa 2 (.t 57)),oN 59 (.fa 0 (.t 58)),oN 60 (.ld false 1 (.t 59)),oN 61 (.ix 1 false 10 (.t 55) (.t 60)),oN 62 (.mv (.t 8)),oN 63 (.call (.t 61) [.t 62])]
def VV:List (Nat×Nat):=[(2,5),(3,5),(5,8),(5,9),(5,10),(2,13),(3,13)]
def y9 (L:ML) (m:MS) (t:Nat) (n:Node) (ab:Nat) (i:Nat):AV:=
 [.pt L.mr 1 0 0, .pt L.mr 1 0 0, .pt L.mr 1 0 3, .sl L.a m.at_.length,i64 t,qz, .pt ab 1 0 0, .pt ab 1 0 0, .pt ab 1 0 2, .pt ab 1 0 2,u8 n.kind, .fn (.func (kD n.kind)) [] [], .pt ab 1 0 0,i64 (m.act t n).2.1].getD i .any
structure QD (u:bx) (m:MS) (t:Nat) (n:Node) (d:gR) (ab:Nat) (L:ML) (H0:Hp) (lo:Nat) (D:Nat->Bool) (H:Hp) (nx:Nat):Prop where
 lw:lo<=nx
 same:∀y,y<lo->y≠ab->y∉L.all->bw H y=bw H0 y
 m0:D 13=false->tW u m t n d ab L H
 m1:D 13=true->tW u (m.act t n).1 t n (qy m t n d) ab L H
section
variable {u:bx} {m:MS} {t:Nat} {n:Node} {d:gR} {ab:Nat} {L:ML} {H0 H:Hp} {lo nx:Nat} {D:Nat->Bool}
theorem QD.look (h:QD u m t n d ab L H0 lo D H nx) {i:Nat} (hi:i≠13) {nx':Nat} (hn:nx<=nx'):QD u m t n d ab L H0 lo (fun k=>D k||k==i) H nx':=by
 have e:(13==i)=false:=by simpa using Ne.symm hi
 refine⟨Nat.le_trans h.lw hn,h.same, ?_, ?_⟩
 ·simp only[e,Bool.or_false];exact h.m0
 ·simp only[e,Bool.or_false];exact h.m1
theorem vH {u:bx} (m:MS) (t:Nat) (n:Node):(m.act t n).1.at_=m.at_:=by
 unfold MS.act
 repeat' split
 all_goals rfl
theorem C6 {k:Int} (h:1<=k/\k<=8):([.sc .nilFunc, .fn (.func 106) [] [], .fn (.func 107) [] [], .fn (.func 108) [] [], .fn (.func 109) [] [], .fn (.func 110) [] [], .fn (.func 111) [] [], .fn (.func 112) [] [], .fn (.func 113) [] [], .sc .nilFunc]:List AV).getD k.toNat .any= .fn (.func (kD k)) [] []:=by
 have:k=1\/k=2\/k=3\/k=4\/k=5\/k=6\/k=7\/k=8:=by omega
 rcases this with rfl|rfl|rfl|rfl|rfl|rfl|rfl|rfl<;>rfl
set_option maxHeartbeats 2000000 in
theorem TV {fr0:Fr} (hlt:∀y∈ab::L.all,y<lo) (ht:t<m.cC.length) (hl:m.cC.length<=8) (ha:BO m t n) (hpl:m.cQ.length<=1048576) (hd:d.cR=0/\d.word=0/\d.put=0)
 (h0:cc fr0 0= .pt L.mr 1 0 0) (h1:cc fr0 1=i64 t) (h8:cc fr0 8= .pt ab 1 0 0):
 C4 Tryz.prog yD VV (fun D fr H nx=>∃θ:Unit,T8 yD D (y9 L m t n ab) fr0 fr/\QD u m t n d ab L H0 lo D H nx):=by
 refine C4.of (Θ:=Unit) (fun _=>y9 L m t n ab) (fun _=>QD u m t n d ab L H0 lo) fr0 (by decide) ?_
 intro i gg θ D fr H nx hi hD hp hs hv hh
 have hk:i<14:=by have:=(List.getElem?_eq_some_iff.1 hi).1;simpa[yD] using this
 have q:∀(j:Nat) (g':gS) (t':Nat),yD[j]?=some g'->g'.dst=some t'->j<i->zK yD VV j i=true->cc fr t'=y9 L m t n ab j:=fun j g' t' h1 h2 h3 h4=>hv.val j g' t' h1 (hp j h3 h4) h2
 have f0:cc fr 0= .pt L.mr 1 0 0:=(hv.gD 0 (by decide)).trans h0
 have f1:cc fr 1=i64 t:=(hv.gD 1 (by decide)).trans h1
 have f8:cc fr 8= .pt ab 1 0 0:=(hv.gD 8 (by decide)).trans h8
 have hlw:=hh.lw
 have row:∃d,(∃d2,bw H ab=some (.row 118 21 d2 [.agg (AC (.pt L.mr 1 0 0) t n d)])):=by
  cases h13:D 13 with
  |false=>exact⟨_,(hh.m0 h13).row⟩
  |true=>exact⟨_,(hh.m1 h13).row⟩
 have mrow:∃(m':MS),m'.at_.length=m.at_.length/\∃d2,bw H L.mr=some (.row 114 8 d2 [m'.rows u L.a L.s L.me L.ho L.pr]):=by
  cases h13:D 13 with
  |false=>exact⟨_,rfl,(hh.m0 h13).M.rM⟩
  |true=>exact⟨_,by rw[vH (u:=u)],(hh.m1 h13).M.rM⟩
 obtain⟨dx,d2,ra⟩:=row
 obtain⟨m',hm',d3,rm⟩:=mrow
 have cases:i=0\/i=1\/i=2\/i=3\/i=4\/i=5\/i=6\/i=7\/i=8\/i=9\/i=10\/i=11\/i=12\/i=13:=by omega
 rcases cases with rfl|rfl|rfl|rfl|rfl|rfl|rfl|rfl|rfl|rfl|rfl|rfl|rfl|rfl<;>(obtain rfl:_=gg:=by simpa[yD] using hi)
 ·exact dw.look (by simp) (r:= .pt L.mr 1 0 0) (by simp only[cE,ev];rw[f0]) ⟨θ,fun _ _=>rfl,rfl,hh.look (by decide) (Nat.le_succ _)⟩
 ·have p:=q 0 _ 50 rfl rfl (by decide) (by decide)
  exact dw.look (by simp) (r:= .pt L.mr 1 0 0) (by simp only[cE,ev];rw[p];rfl) ⟨θ,fun _ _=>rfl,rfl,hh.look (by decide) (Nat.le_succ _)⟩
 ·have p:=q 1 _ 51 rfl rfl (by decide) (by decide)
  exact dw.look (by simp) (r:= .pt L.mr 1 0 3) (by simp only[cE,ev];rw[p];simp[y9,rm]) ⟨θ,fun _ _=>rfl,rfl,hh.look (by decide) (Nat.le_succ _)⟩
 ·have p:=q 2 _ 52 rfl rfl (by decide) (by decide)
  exact dw.look (by simp) (r:= .sl L.a m.at_.length) (by simp only[cE,ev];rw[p];simp[y9,j6,rm,xg,MS.rows,hm']) ⟨θ,fun _ _=>rfl,rfl,hh.look (by decide) (Nat.le_succ _)⟩
 ·exact dw.look (by simp) (r:=i64 t) (by simp only[cE,ev];rw[f1]) ⟨θ,fun _ _=>rfl,rfl,hh.look (by decide) (Nat.le_succ _)⟩
 ·show cO Tryz.prog 70 ([]++[]++[]) H nx _
  refine vJ.cz (by simp[c8]) ?_
  rintro r rfl
  exact⟨θ,fun _ _=>rfl,rfl,hh.look (by decide) (Nat.le_refl _)⟩
 ·exact dw.look (by simp) (r:= .pt ab 1 0 0) (by simp only[cE,ev];rw[f8]) ⟨θ,fun _ _=>rfl,rfl,hh.look (by decide) (Nat.le_succ _)⟩
 ·have p:=q 6 _ 56 rfl rfl (by decide) (by decide)
  exact dw.look (by simp) (r:= .pt ab 1 0 0) (by simp only[cE,ev];rw[p];rfl) ⟨θ,fun _ _=>rfl,rfl,hh.look (by decide) (Nat.le_succ _)⟩
 ·have p:=q 7 _ 57 rfl rfl (by decide) (by decide)
  exact dw.look (by simp) (r:= .pt ab 1 0 2) (by simp only[cE,ev];rw[p];simp[y9,ra]) ⟨θ,fun _ _=>rfl,rfl,hh.look (by decide) (Nat.le_succ _)⟩
 ·have p:=q 8 _ 58 rfl rfl (by decide) (by decide)
  exact dw.look (by simp) (r:= .pt ab 1 0 2) (by simp only[cE,ev];rw[p];simp[y9,ra]) ⟨θ,fun _ _=>rfl,rfl,hh.look (by decide) (Nat.le_succ _)⟩
 ·have p:=q 9 _ 59 rfl rfl (by decide) (by decide)
  exact dw.look (by simp) (r:=u8 n.kind) (by simp only[cE,ev];rw[p];simp[y9,j6,ra,xg,AC]) ⟨θ,fun _ _=>rfl,rfl,hh.look (by decide) (Nat.le_succ _)⟩
 ·have p:=q 5 _ 55 rfl rfl (by decide) (by decide)
  have p2:=q 10 _ 60 rfl rfl (by decide) (by decide)
  have hkk:=ha.kind
  refine dw.look (by simp) (r:= .fn (.func (kD n.kind)) [] []) ?_ ⟨θ,fun _ _=>rfl,rfl,hh.look (by decide) (Nat.le_succ _)⟩
  have p3:cc fr 55=qz:=p
  have p4:cc fr 60=u8 n.kind:=p2
  have ht:=C6 hkk
  simp only[cE,ev,p3,p4,qz,Nat.mul_one,Bool.false_eq_true,if_false,if_true,List.length_cons,List.length_nil]
  rw[if_pos ⟨by omega,(show n.kind<10 by omega),trivial⟩,ht]
 ·exact dw.look (by simp) (r:= .pt ab 1 0 0) (by simp only[cE,ev];rw[f8]) ⟨θ,fun _ _=>rfl,rfl,hh.look (by decide) (Nat.le_succ _)⟩
 ·have p:=q 11 _ 61 rfl rfl (by decide) (by decide)
  have p2:=q 12 _ 62 rfl rfl (by decide) (by decide)
  show qt Tryz.prog (cc fr 61) [cc fr 62] H nx _
  rw[p,p2]
  show cO Tryz.prog (kD n.kind) ([]++[.pt ab 1 0 0]++[]) H nx _
  refine(GI (hh.m0 hD) (fun y hy=>Nat.lt_of_lt_of_le (hlt y hy) hlw) ht hl ha hpl hd).mono ?_
  rintro r' H' n' ⟨rfl,hA,hn,hk2⟩
  exact⟨θ,fun _ _=>rfl,rfl,Nat.le_trans hlw hn,fun y h1 h2 h3=>(hk2 y (Nat.lt_of_lt_of_le h1 hlw) h2 h3).trans (hh.same y h1 h2 h3),fun hx=>by simp at hx,fun _=>hA⟩
end
end
section
section
variable {u:bx} {m:MS} {t:Nat} {n:Node} {d:gR} {L:ML} {H:Hp} {nx:Nat}
abbrev UB:gR:=⟨0,0,0,0,0,0⟩
theorem zL {fr0:Fr} {H0:Hp} {lo ab:Nat} {Q:QT} (hlt:∀y∈ab::L.all,y<lo) (ht:t<m.cC.length) (htl:t<m.at_.length) (hl:m.cC.length<=8) (ha:BO m t n) (hpl:m.cQ.length<=1048576) (hd:d.cR=0/\d.word=0/\d.put=0)
 (h0:cc fr0 0= .pt L.mr 1 0 0) (h1:cc fr0 1=i64 t) (h8:cc fr0 8= .pt ab 1 0 0) (hA:tW u m t n d ab L H0)
 (hK:∀f1 H1 n1,cc f1 8= .pt ab 1 0 0->cc f1 4=cc fr0 4->tW u { (m.act t n).1 with at_:=m.at_.set t (m.act t n).2.1 } t n (qy m t n d) ab L H1->lo<=n1->(∀y,y<lo->y≠ab->y∉L.all->bw H1 y=bw H0 y)->∃f',j5 f1 f'/\Go (Q .normal f' H1 n1)):
 gx Tryz.prog [⟨yD,VV⟩,⟨[oN 64 (.ia 1 none (.t 53) (.t 54))],[]⟩,⟨[⟨none,none, .st false 1 (.t 64) (.t 63)⟩],[]⟩] fr0 H0 lo Q:=by
 refine gx.TU (TV (u:=u) (d:=d) (H0:=H0) (lo:=lo) hlt ht hl ha hpl hd h0 h1 h8) ⟨(),⟨fun i g t' _ hL=>(by cases hL),fun t' _=>rfl⟩,⟨Nat.le_refl _,fun y _ _ _=>rfl,fun _=>hA,fun hx=>(by cases hx)⟩⟩ ?_
 intro D fr' H' n' hall ⟨_,hv,hh⟩
 have v:=fun(j:Nat) (g':gS) (t':Nat) (h1:yD[j]?=some g') (h2:g'.dst=some t') (h3:j<14)=>hv.val j g' t' h1 (hall j h3) h2
 have p53:cc fr' 53= .sl L.a m.at_.length:=v 3 _ 53 rfl rfl (by decide)
 have p54:cc fr' 54=i64 t:=v 4 _ 54 rfl rfl (by decide)
 have p63:cc fr' 63=i64 (m.act t n).2.1:=v 13 _ 63 rfl rfl (by decide)
 have p8:cc fr' 8= .pt ab 1 0 0:=(hv.gD 8 (by decide)).trans h8
 have p4:cc fr' 4=cc fr0 4:=hv.gD 4 (by decide)
 have hA2:=hh.m1 (hall 13 (by decide))
 have q1:(m.at_.map i64).length=m.at_.length:=by simp
 obtain⟨d3,r3⟩:=hA2.M.rA
 rw[vH (u:=u)] at r3
 have hlw:=hh.lw
 have hs:=hh.same
 have hout:=hA2.out
 have hsl2:(m.act t n).1.cC.length=m.cC.length:=by
  unfold MS.act
  repeat' split
  all_goals first|rfl|(simp only[MS.gb,List.length_set])
 have hmem:=hA2.M.mem
 show dw Tryz.prog n' fr' H' (.ia 1 none (.t 53) (.t 54)) (fun r H' nx'=>dw Tryz.prog nx' (fX fr' (some 64) r) H' (.st false 1 (.t 64) (.t 63)) (fun r2 H2 n2=>∃f',j5 (fX (fX fr' (some 64) r) none r2) f'/\Go (Q .normal f' H2 n2)))
 refine dw.look (op:= .ia 1 none (.t 53) (.t 54)) (r:= .pt L.a m.at_.length t 0) (fun f as2 h=>by cases h) ?_ ?_
 ·simp only[cE,ev]
  rw[p53,p54]
  simp only[F7,r3]
  rw[if_pos ⟨q1,trivial,by omega,by omega⟩]
  simp
 refine dw.act (op:= .st false 1 (.t 64) (.t 63)) (r:= .any) (u:=(L.a, .row 3 1 d3 ((m.at_.map i64).set t (i64 (m.act t n).2.1)))) (fun f as2 h=>by cases h) ?_ ?_
 ·have e1:ev (fX fr' (some 64) (.pt L.a m.at_.length t 0)) (.t 64)= .pt L.a m.at_.length t 0:=rfl
  have e2:ev (fX fr' (some 64) (.pt L.a m.at_.length t 0)) (.t 63)=i64 (m.act t n).2.1:=p63
  simp only[cE]
  rw[e1,e2]
  simp only[r3]
  rw[if_pos q1,show(m.at_.map i64).getD t d3=i64 (m.at_.getD t 0) from dJ i64 m.at_ t d3 htl]
  rfl
 refine hK _ _ _ p8 p4 ⟨?_, ?_,hout⟩ (by omega) (fun y y1 y2 y3=> ?_)
 ·have:=hA2.M.UC (H':=(L.a,some (.row 3 1 d3 ((m.at_.map i64).set t (i64 (m.act t n).2.1))))::H') (t:=t) (by rw[hsl2];exact ht) t (m.act t n).2.1 ⟨d3,by rw[vH (u:=u)];exact cA⟩ (fun y hy hne=>cB)
  rw[vH (u:=u)] at this
  exact this
 ·obtain⟨d4,r4⟩:=hA2.row
  have:=dP hout (hmem L.a (by simp))
  exact⟨d4,cA⟩
 ·have:=dP y3 (hmem L.a (by simp))
  exact Eq.trans cB (hs y y1 y2 y3)
theorem BN (hM:L.At u m H) (t:Int) {H1:Hp} (h1:∀y∈L.all,bw H1 y=bw H y):[.pt L.mr 1 0 0,i64 t].map (cp.dX H1 6)=[m.fz u,i64 t]:=by
 rw[List.map_cons,List.map_cons,List.map_nil,(hM.cT h1).DW 2,dj _ (show cK 0 (i64 t) by simp[cK])]
theorem JY (hr:cW u) (h:eN u m) (hM:L.At u m H) (hlt:∀y∈L.all,y<nx) (t:Int) (hb:m.kZ u t≠0):
 cO Tryz.prog 31 [.pt L.mr 1 0 0,i64 t] H nx (fun r H' k=>r= .dO [UB.av,i64 (m.kZ u t)]/\nx<=k/\∀y,y<nx->bw H' y=bw H y):=by
 refine aJ SZ rfl ?_
 have r0:=decide_eq_true hb
 refine cV ?_
 refine aS (vO u hr m h t) (BN hM t ?_) (by simp[c8,cK,ll]) trivial ?_
 ·exact fun y hy=>by have:=hlt y hy;exact cB
 refine cV ?_
 exact⟨⟨rfl,ca,fun y hy=>cB⟩⟩
set_option maxHeartbeats 4000000 in
theorem uo (hu:u.Wf) (hr:cW u) (h:eN u m) (hM:L.At u m H) (hlt:∀y∈L.all,y<nx) (hpl:m.cQ.length<=1048576) (ht:t<u.bz.length) (hb:m.kZ u t=0):
 cO Tryz.prog 31 [.pt L.mr 1 0 0,i64 t] H nx (fun r H' k=>r= .dO [(m.step u t).2.av,i64 0]/\L.At u (m.step u t).1 H'/\nx<=k/\∀y,y<nx->y∉L.all->bw H' y=bw H y):=by
 refine aJ SZ rfl ?_
 obtain⟨hk9,_⟩:=kE h ht hb
 have hgl:=hr.qa
 have hao:=h.QJ hu hr ht hk9
 have hsl:m.cC.length<=8:=by rw[h.sl];omega
 have hts:t<m.cC.length:=by rw[h.sl];exact ht
 have hal:=h.pV
 obtain⟨p0,p1⟩:=h.gV t ht
 have hap:=apart hM hts
 have hmem:=hM.mem
 have km:=hlt L.mr (by simp)
 have ka:=hlt L.a (hmem _ (by simp))
 have hma:L.mr≠L.a:=hap.ne.1
 obtain⟨d1,r1⟩:=hM.rM
 obtain⟨d2,r2⟩:=hM.rA
 have e0:=fun d=>ints_at (l:=m.at_) (k:=t) (by omega) d
 have e1:=fun d=>sF (l:=u.bz) ht d
 obtain⟨j,hj⟩:∃j:Nat,m.at_.getD t 0=j:=⟨(m.at_.getD t 0).toNat,by omega⟩
 rw[hj] at e0 p1
 have hnd:m.node u t=(u.gr t).nd j:=by unfold MS.node;rw[hj,Int.toNat_natCast]
 rw[show u.bz.getD t default=u.gr t from rfl] at e1
 have e2:=fun d=>j9 (l:=(u.gr t).nodes) (i:=j) (by omega) d
 rw[show(u.gr t).nodes.getD j default=m.node u t by rw[hnd]] at e2
 have hat:m.at_.getD t 0=(j:Int):=hj
 have q1:(m.at_.map i64).length=m.at_.length:=by simp
 have q2:(u.bz.map cF.av).length=u.bz.length:=by simp
 have q3:((u.gr t).nodes.map Node.av).length=(u.gr t).nodes.length:=by simp
 have hst:m.step u t=({ (m.act t (m.node u t)).1 with at_:=m.at_.set t (m.act t (m.node u t)).2.1 },⟨t,j,(m.node u t).kind,(m.act t (m.node u t)).2.2.1,(m.act t (m.node u t)).2.2.2.1,(m.act t (m.node u t)).2.2.2.2⟩):=by
  unfold MS.step;rw[hj]
 rw[hst]
 generalize m.node u t=n at *
 have c9:(0:Int)=0:=rfl
 refine QI ?_
 refine aS (vO u hr m h t) (BN hM t ?_) (by simp[c8,cK,ll]) trivial ?_
 ·exact fun y hy=>by have:=hlt y hy;exact cB
 rw[hb]
 refine QI ?_
 refine zL (u:=u) (m:=m) (t:=t) (n:=n) (d:=⟨t,j,n.kind,0,0,0⟩) (ab:=nx+30) (L:=L) ?_ hts (by omega) hsl hao hpl ⟨rfl,rfl,rfl⟩ rfl rfl rfl ⟨hM.cT ?_,⟨_,cA⟩, ?_⟩ ?_
 ·intro y hy
  rcases List.mem_cons.1 hy with rfl|hy
  ·exact ca
  ·have:=hlt y hy;exact ca
 ·intro y hy
  have:=hlt y hy;exact cB
 ·intro hy
  have:=hlt _ hy;omega
 intro f1 H1 n1 p8 p4 hA hn hs
 refine⟨[(8, .pt (nx+30) 1 0 0),(4, .pt nx 1 0 0)],⟨p8,p4,trivial⟩, ?_⟩
 obtain⟨d5,r5⟩:=hA.row
 have r6:bw H1 nx=some (.row 53 6 (gN true [.int .i64 0, .int .i64 0, .int .u8 0, .int .i64 0, .int .i64 0, .int .i64 0]) [gN true [.int .i64 0, .int .i64 0, .int .u8 0, .int .i64 0, .int .i64 0, .int .i64 0]]):=(hs nx ca (by omega) (fun hy=>by have:=hlt _ hy;omega)).trans cA
 refine cV ?_
 refine⟨⟨rfl,hA.M.cT fun y hy=> ?_,ca,fun y y1 y2=> ?_⟩⟩
 ·have:=hlt y hy;exact cB
 ·exact Eq.trans cB ((hs y ca (by omega) y2).trans cB)
end
end
theorem yz {es:List AV} (hf:c8 0 es) (hl:es.length * 32<=140737488355328):cO Tryz.prog 84 [.im 3 .any es] [] 0 (fun r H _=>cp.dX H 6 r= .sc (.slice none 0 0)/\es=[]\/cp.dX H 6 r= .im 3 .any es):=by
 refine aJ VL rfl ?_
 cases es with
 |nil=>
  refine cV ?_
  refine⟨su ?_,su ?_⟩
  ·refine cV ?_
   exact⟨.inl ⟨rfl,rfl⟩⟩
  ·refine cV ?_
   exact⟨.inr rfl⟩
 |cons x t=>
  have a0:(x::t).length * 32<=gC:=Nat.le_trans hl (by unfold gC;omega)
  simp only[List.length_cons] at hl
  refine cV ?_
  refine⟨.inr ((dZ (e:=85) (sz:=3) (es:=x::t) cA (Nat.zero_add _).symm).trans ?_)⟩
  rw[cx _ hf]
theorem zA {es:List AV} (hf:c8 0 es) (hl:es.length * 96<=140737488355328):cO Tryz.prog 85 [.im 13 .any es] [] 0 (fun r H _=>cp.dX H 6 r= .sc (.slice none 0 0)/\es=[]\/cp.dX H 6 r= .im 13 .any es):=by
 refine aJ VM rfl ?_
 cases es with
 |nil=>
  refine cV ?_
  refine⟨su ?_,su ?_⟩
  ·refine cV ?_
   exact⟨.inl ⟨rfl,rfl⟩⟩
  ·refine cV ?_
   exact⟨.inr rfl⟩
 |cons x t=>
  have a0:(x::t).length * 96<=gC:=Nat.le_trans hl (by unfold gC;omega)
  simp only[List.length_cons] at hl
  refine cV ?_
  refine⟨.inr ((dZ (e:=65) (sz:=13) (es:=x::t) cA (Nat.zero_add _).symm).trans ?_)⟩
  rw[cx _ hf]
theorem oG (l:List Decl) (hl:l.length * 32<=140737488355328):Pure Tryz.prog 84 [cw l] (fun r=>r=cw l):=
 mm (by simp[cK,cD]) (yz ((cD _ _).2 fun _ _=>by simp[cK]) (by rw[List.length_map];exact hl))
theorem vR (l:List Node) (hl:l.length * 96<=140737488355328):Pure Tryz.prog 85 [iZ l] (fun r=>r=iZ l):=
 mm (by simp[cK,cD]) (zA ((cD _ _).2 fun _ _=>by simp[cK]) (by rw[List.length_map];exact hl))
theorem vw (u:bx) (hu:u.Wf) (hr:¬cW u):Pure Tryz.prog 48 [u.av] (fun r=>r= .dO [.sc (.pointer none),i64 60]):=by
 have c0:=kj u hu
 have hb:=rR hr
 generalize jF u=ck at *
 obtain⟨x,y,z⟩:=ck
 dsimp only at hb
 subst hb
 refine aG S0 rfl ?_
 refine cV ?_
 first|exact rfl|trivial
theorem HK {α:Type} (a b:α) (n i:Nat) (h:i<n):(List.replicate i a++List.replicate (n - i) b).set i a=List.replicate (i+1) a++List.replicate (n - (i+1)) b:=by
 rw[show n - i=(n - (i+1))+1 by omega,List.replicate_succ,List.set_append_right _ _ (by simp),List.length_replicate,Nat.sub_self,List.set_cons_zero,List.replicate_succ',List.append_assoc]
 rfl
theorem Q0 (u:bx) (G A S ME HO PR:Nat) (d:AV) (n1 n2 n3 n4 n5:Nat) (h1:A≠G) (h2:S≠G) (h3:ME≠G) (h4:HO≠G) (h5:PR≠G):
 ([.agg [cw u.shared,cw u.cG, .sl G u.bz.length, .sl A n1, .sl S n2, .sl ME n3, .sl HO n4, .sl PR n5]]:List AV).map (Go.cp.tM [(G,some (.row 60 4 d (u.bz.map cF.av)))] 2)=[.agg [cw u.shared,cw u.cG,df u.bz, .sl A n1, .sl S n2, .sl ME n3, .sl HO n4, .sl PR n5]]:=by
 simp[Go.cp.tM,LR,bw,h1,h2,h3,h4,h5,sI]
set_option maxHeartbeats 4000000 in
theorem kT (u:bx) (hu:u.Wf) (hr:cW u) (H0:Hp) (nx:Nat):cO Tryz.prog 48 [u.av] H0 nx (fun r H n=>∃L:ML,r= .dO [.pt L.mr 1 0 0,i64 0]/\L.At u (dQ u) H/\(∀x∈L.all,nx<=x/\x<n)/\nx<=n/\∀y,y<nx->bw H y=bw H0 y):=by
 have c0:=kj u hu
 rw[kF.2 hr] at c0
 have hgl:=hr.qa
 have hw1:=hu.uh
 have hw2:=hu.xl
 have c1:=oG u.shared (by omega)
 have c2:=oG u.cG (by omega)
 refine aJ S0 rfl ?_
 refine cV ?_
 simp only[List.length_map,Int.toNat_natCast]
 have hsz:∀t,t<u.bz.length->0<=(u.gr t).cC/\(u.gr t).cC<=4160:=fun t ht=>by
  have h1:=(hr.gr ht).cC
  have h2:=(hr.gr ht).locals
  omega
 have hnl:∀t,t<u.bz.length->(u.gr t).nodes.length * 96<=140737488355328:=fun t ht=>by
  have:=(hr.gr ht).len
  omega
 have hat0:(dQ u).at_.map i64=List.replicate u.bz.length (i64 0):=by
  simp only[dQ,List.map_map]
  rw[List.eq_replicate_iff]
  exact⟨by simp,fun b hb=>by obtain⟨g,_,rfl⟩:=List.mem_map.1 hb;rfl⟩
 have hnsl:(dQ u).cC.length=u.bz.length:=by simp[dQ]
 have hns:∀t,t<u.bz.length->(dQ u).cC.getD t []=List.replicate (u.gr t).cC.toNat 0:=fun t ht=>by simp[dQ,List.getD,bx.gr,ht]
 refine aU (fun σ:Nat×List Nat=>[(1, .pt nx 1 0 0),(7, .pt (nx+22) 1 0 0),(47,df u.bz),(48,i64 u.bz.length),(49,i64 σ.1)])
  (fun σ H n=>σ.1<=u.bz.length/\nx+46<=n/\σ.2.length=σ.1/\σ.2.Nodup/\(∀x∈σ.2,nx+46<=x/\x<n)/\(∃d,bw H nx=some (.row 25 3 d [u.av]))/\(∃d,bw H (nx+22)=some (.row 114 8 d [.agg [cw u.shared,cw u.cG, .sl (nx+42) σ.1, .sl (nx+16) u.bz.length, .sl (nx+43) σ.1, .sl (nx+44) 0, .sl (nx+20) u.cG.length, .sl (nx+45) 0]]))/\(∃d,bw H (nx+16)=some (.row 3 1 d ((dQ u).at_.map i64)))/\(∃d,bw H (nx+20)=some (.row 3 1 d (List.replicate u.cG.length (i64 0))))/\(∃d,bw H (nx+42)=some (.row 60 4 d ((u.bz.take σ.1).map cF.av)))/\(∃d,bw H (nx+43)=some (.row 93 1 d (eT σ.2 ((dQ u).cC.take σ.1))))/\(∃d,bw H (nx+44)=some (.row 2 1 d []))/\(∃d,bw H (nx+45)=some (.row 155 2 d []))/\(∀t,t<σ.1->∃d,bw H (σ.2.getD t 0)=some (.row 2 1 d (((dQ u).cC.getD t []).map i64)))/\∀y,y<nx->bw H y=bw H0 y) (fun σ=>u.bz.length - σ.1) (0,[])
  ⟨_,_,_,Rt.trans (Rt.wk (Wk.og (b:=nx+22) (nx:=nx+42) (e:=60) (sz:=4) ca (by omega) (te:=114) (tz:=8) (cs:=[cw u.shared,cw u.cG, .sc (.slice none 0 0), .sl (nx+16) u.bz.length, .sc (.slice none 0 0), .sc (.slice none 0 0), .sl (nx+20) u.cG.length, .sc (.slice none 0 0)]) (j:=2) cA (by show 2<8;omega) rfl)) (Rt.trans (Rt.wk (Wk.og (b:=nx+22) (nx:=nx+43) (e:=93) (sz:=1) ca (by omega) (te:=114) (tz:=8) (cs:=[cw u.shared,cw u.cG, .sl (nx+42) 0, .sl (nx+16) u.bz.length, .sc (.slice none 0 0), .sc (.slice none 0 0), .sl (nx+20) u.cG.length, .sc (.slice none 0 0)]) (j:=4) cA (by show 4<8;omega) rfl)) (Rt.trans (Rt.wk (Wk.og (b:=nx+22) (nx:=nx+44) (e:=2) (sz:=1) ca (by omega) (te:=114) (tz:=8) (cs:=[cw u.shared,cw u.cG, .sl (nx+42) 0, .sl (nx+16) u.bz.length, .sl (nx+43) 0, .sc (.slice none 0 0), .sl (nx+20) u.cG.length, .sc (.slice none 0 0)]) (j:=5) cA (by show 5<8;omega) rfl)) (Rt.wk (Wk.og (b:=nx+22) (nx:=nx+45) (e:=155) (sz:=2) ca (by omega) (te:=114) (tz:=8) (cs:=[cw u.shared,cw u.cG, .sl (nx+42) 0, .sl (nx+16) u.bz.length, .sl (nx+43) 0, .sl (nx+44) 0, .sl (nx+20) u.cG.length, .sc (.slice none 0 0)]) (j:=7) cA (by show 7<8;omega) rfl)))),
   cI,Nat.zero_le _,ca,rfl,List.nodup_nil,fun x hx=>by simp at hx,⟨_,cA⟩,⟨_,cA⟩,⟨_,by rw[hat0];exact cA⟩,⟨_,cA⟩,⟨_,cA⟩,⟨_,cA⟩,⟨_,cA⟩,⟨_,cA⟩,fun t ht=>absurd ht (Nat.not_lt_zero _),fun y hy=>cB⟩ ?_
 rintro⟨t,ids⟩ H n ⟨ht,hn,hil,hnd,hin,⟨d0,r0'⟩,⟨d1,r1'⟩,⟨d2,r2'⟩,⟨d3,r3'⟩,⟨d4,r4⟩,⟨d5,r5⟩,⟨d6,r6⟩,⟨d7,r7⟩,hls,hkp⟩
 dsimp only at ht hil hnd hin r0' r1' r4 r5 hls ⊢
 have hgk:((u.bz.take t).map cF.av).length=t:=by simp;omega
 have htk:((dQ u).cC.take t).length=t:=by rw[List.length_take];omega
 have hrl:(eT ids ((dQ u).cC.take t)).length=t:=by unfold eT;rw[List.length_map,List.length_zip,htk,hil];omega
 by_cases htl:t<u.bz.length
 ·have e0:=fun d=>sF (l:=u.bz) htl d
  rw[show u.bz.getD t default=u.gr t from rfl] at e0
  have a0:(u.bz.map cF.av).length=u.bz.length:=by simp
  have c3:=vR (u.gr t).nodes (hnl t htl)
  obtain⟨s1,s2⟩:=hsz t htl
  have hnx1:(u.bz.take (t+1)).map cF.av=(u.bz.take t).map cF.av++[(u.gr t).av]:=by
   rw[List.take_succ_eq_append_getElem htl,List.map_append,show u.gr t=u.bz[t] by simp[bx.gr,List.getD,htl]];rfl
  have hnx2:eT (ids++[n+29]) ((dQ u).cC.take (t+1))=eT ids ((dQ u).cC.take t)++[.sl (n+29) (u.gr t).cC.toNat]:=by
   have e:=hns t htl
   rw[List.take_succ_eq_append_getElem (by omega),ui (by rw[hil,htk]),show(dQ u).cC[t]'(by omega)=List.replicate (u.gr t).cC.toNat 0 by rw[<-e];simp[List.getD,show t<(dQ u).cC.length by omega]]
   simp
  have hnx3:((dQ u).cC.getD t []).map i64=List.replicate (u.gr t).cC.toNat (i64 0):=by rw[hns t htl];simp
  refine cV ?_
  refine⟨(t+1,ids++[n+29]),by dsimp only;omega,_,_,_,Rt.refl _ _ _,cI,by dsimp only;omega,ca,by simp[hil], ?_, ?_,⟨_,cA⟩,⟨_,cA⟩,⟨_,cA⟩,⟨_,cA⟩,⟨_,by dsimp only;rw[hnx1];exact cA⟩,⟨_,by dsimp only;rw[hnx2];exact cA⟩,⟨_,cA⟩,⟨_,cA⟩, ?_,fun y hy=>Eq.trans cB (hkp y hy)⟩
  ·refine List.nodup_append.2 ⟨hnd,by simp,fun a ha b hb=> ?_⟩
   simp only[List.mem_cons,List.not_mem_nil,or_false] at hb
   have:=hin _ ha;omega
  ·intro x hx
   rcases List.mem_append.1 hx with hx|hx
   ·have:=hin _ hx;exact⟨this.1,Nat.lt_of_lt_of_le this.2 ca⟩
   ·simp only[List.mem_cons,List.not_mem_nil,or_false] at hx
    subst hx;exact⟨by omega,ca⟩
  ·intro q hq
   have hq:q<t+1:=hq
   by_cases e:q=t
   ·subst e
    have e2:(ids++[n+29]).getD q 0=n+29:=by rw[List.getD,List.getElem?_append_right (by omega),hil,Nat.sub_self];rfl
    dsimp only
    rw[e2,hnx3];exact⟨_,cA⟩
   ·obtain⟨d,hd⟩:=hls q (by omega)
    have e2:(ids++[n+29]).getD q 0=ids.getD q 0:=by simp[List.getD,List.getElem?_append,show q<ids.length by omega]
    have:=hin _ (fI (l:=ids) (q:=q) (by omega))
    dsimp only
    rw[e2];exact⟨d,Eq.trans cB hd⟩
 ·have:t=u.bz.length:=by omega
  subst this
  rw[List.take_length] at r4
  rw[List.take_of_length_le (by omega)] at r5
  refine cV ?_
  rw[List.length_map]
  have hM:=Wk.tM (nx:=n+1+1+1+1+1) (H:=H) (cb:=nx+22) [(nx+42,some (.row 60 4 d4 (u.bz.map cF.av)))] 2 .any r1' (fun x q hx=>by
   by_cases hb:x=nx+42
   ·subst hb;rw[ct] at hx;rw[<-hx];exact r4
   ·rw[cZ hb] at hx;cases hx)
  rw[Q0 u _ _ _ _ _ _ _ _ _ _ _ _ (by omega) (by omega) (by omega) (by omega) (by omega)] at hM
  refine aU (fun j:Nat=>[(7, .pt (nx+22) 1 0 0),(83,cw u.shared),(84,i64 u.shared.length),(85,i64 j)])
   (fun j H n=>j<=u.shared.length/\nx+46<=n/\(∀x∈ids,nx+46<=x/\x<n)/\(∃d,bw H (nx+22)=some (.row 114 8 d [.agg [cw u.shared,cw u.cG,df u.bz, .sl (nx+16) u.bz.length, .sl (nx+43) u.bz.length, .sl (nx+44) j, .sl (nx+20) u.cG.length, .sl (nx+45) 0]]))/\(∃d,bw H (nx+16)=some (.row 3 1 d ((dQ u).at_.map i64)))/\(∃d,bw H (nx+20)=some (.row 3 1 d (List.replicate u.cG.length (i64 0))))/\(∃d,bw H (nx+43)=some (.row 93 1 d (eT ids (dQ u).cC)))/\(∃d,bw H (nx+44)=some (.row 2 1 d (((dQ u).mem.take j).map i64)))/\(∃d,bw H (nx+45)=some (.row 155 2 d []))/\(∀t,t<u.bz.length->∃d,bw H (ids.getD t 0)=some (.row 2 1 d (((dQ u).cC.getD t []).map i64)))/\∀y,y<nx->bw H y=bw H0 y) (fun j=>u.shared.length - j) 0
   ⟨_,_,_,Rt.wk hM,cI,Nat.zero_le _,ca, ?_,⟨_,cA⟩,⟨_,cA⟩,⟨_,cA⟩,⟨_,cA⟩,⟨_,cA⟩,⟨_,cA⟩, ?_,fun y hy=>Eq.trans cB (hkp y hy)⟩ ?_
  ·exact fun x hx=>⟨(hin x hx).1,by have:=(hin x hx).2;exact ca⟩
  ·intro q hq
   obtain⟨d,hd⟩:=hls q hq
   have:=hin _ (fI (l:=ids) (q:=q) (by omega))
   exact⟨d,Eq.trans cB hd⟩
  clear r0' r1' r2' r3' r4 r5 r6 r7 hls hkp hM hin hn
  rintro j H n ⟨hj,hn,hin,⟨d1,r1'⟩,⟨d2,r2'⟩,⟨d3,r3'⟩,⟨d5,r5⟩,⟨d6,r6⟩,⟨d7,r7⟩,hls,hkp⟩
  have hml:(dQ u).mem.length=u.shared.length:=by simp[dQ]
  have hmk:(((dQ u).mem.take j).map i64).length=j:=by simp;omega
  by_cases hjl:j<u.shared.length
  ·have e0:∀d,(u.shared.map Decl.av).getD ((j:Int)).toNat d=(u.shared.getD j default).av:=fun d=>by rw[Int.toNat_natCast];exact dJ Decl.av u.shared j d hjl
   have a0:(u.shared.map Decl.av).length=u.shared.length:=by simp
   have hnx1:((dQ u).mem.take (j+1)).map i64=((dQ u).mem.take j).map i64++[i64 (u.shared.getD j default).word]:=by
    rw[List.take_succ_eq_append_getElem (by omega),List.map_append]
    simp[dQ,List.getD,hjl]
   refine cV ?_
   refine⟨j+1,by omega,_,_,_,Rt.refl _ _ _,cI,by omega,ca,fun x hx=>⟨(hin x hx).1,Nat.lt_of_lt_of_le (hin x hx).2 ca⟩,⟨_,cA⟩,⟨_,cA⟩,⟨_,cA⟩,⟨_,cA⟩,⟨_,by rw[hnx1];exact cA⟩,⟨_,cA⟩, ?_,fun y hy=>Eq.trans cB (hkp y hy)⟩
   intro q hq
   obtain⟨d,hd⟩:=hls q hq
   have:=hin _ (fI (l:=ids) (q:=q) (by omega))
   exact⟨d,Eq.trans cB hd⟩
  ·have:j=u.shared.length:=by omega
   subst this
   rw[List.take_of_length_le (by omega)] at r6
   refine cV ?_
   refine aL (fun i:Nat=>[(7, .pt (nx+22) 1 0 0),(105,i64 u.cG.length),(106,i64 i)])
    (fun i H n=>i<=u.cG.length/\nx+46<=n/\(∀x∈ids,nx+46<=x/\x<n)/\(∃d,bw H (nx+22)=some (.row 114 8 d [.agg [cw u.shared,cw u.cG,df u.bz, .sl (nx+16) u.bz.length, .sl (nx+43) u.bz.length, .sl (nx+44) u.shared.length, .sl (nx+20) u.cG.length, .sl (nx+45) 0]]))/\(∃d,bw H (nx+16)=some (.row 3 1 d ((dQ u).at_.map i64)))/\(∃d,bw H (nx+20)=some (.row 3 1 d (List.replicate i (i64 (-1))++List.replicate (u.cG.length - i) (i64 0))))/\(∃d,bw H (nx+43)=some (.row 93 1 d (eT ids (dQ u).cC)))/\(∃d,bw H (nx+44)=some (.row 2 1 d ((dQ u).mem.map i64)))/\(∃d,bw H (nx+45)=some (.row 155 2 d []))/\(∀t,t<u.bz.length->∃d,bw H (ids.getD t 0)=some (.row 2 1 d (((dQ u).cC.getD t []).map i64)))/\∀y,y<nx->bw H y=bw H0 y) (fun i=>u.cG.length - i) 0 cI
    ⟨Nat.zero_le _,ca,fun x hx=>⟨(hin x hx).1,Nat.lt_of_lt_of_le (hin x hx).2 ca⟩,⟨_,cA⟩,⟨_,cA⟩,⟨_,cA⟩,⟨_,cA⟩,⟨_,cA⟩,⟨_,cA⟩, ?_,fun y hy=>Eq.trans cB (hkp y hy)⟩ ?_
   ·intro q hq
    obtain⟨d,hd⟩:=hls q hq
    have:=hin _ (fI (l:=ids) (q:=q) (by omega))
    exact⟨d,Eq.trans cB hd⟩
   clear r1' r2' r3' r5 r6 r7 hls hkp hin hn
   rintro i H n ⟨hi,hn,hin,⟨d1,r1'⟩,⟨d2,r2'⟩,⟨d3,r3'⟩,⟨d5,r5⟩,⟨d6,r6⟩,⟨d7,r7⟩,hls,hkp⟩
   have hrl2:(List.replicate i (i64 (-1))++List.replicate (u.cG.length - i) (i64 0)).length=u.cG.length:=by simp;omega
   by_cases hil2:i<u.cG.length
   ·have e1:∀d,(List.replicate i (i64 (-1))++List.replicate (u.cG.length - i) (i64 0)).getD ((i:Int)).toNat d=i64 0:=fun d=>by
     rw[Int.toNat_natCast]
     simp[List.getD,List.getElem?_append,List.getElem?_replicate,show 0<u.cG.length - i by omega]
    refine cV ?_
    refine⟨i+1,by omega,cI,by omega,ca,fun x hx=>⟨(hin x hx).1,Nat.lt_of_lt_of_le (hin x hx).2 ca⟩,⟨_,cA⟩,⟨_,cA⟩,⟨_,by rw[<-HK _ _ _ _ hil2];exact cA⟩,⟨_,cA⟩,⟨_,cA⟩,⟨_,cA⟩, ?_,fun y hy=>Eq.trans cB (hkp y hy)⟩
    intro q hq
    obtain⟨d,hd⟩:=hls q hq
    have:=hin _ (fI (l:=ids) (q:=q) (by omega))
    exact⟨d,Eq.trans cB hd⟩
   ·have:i=u.cG.length:=by omega
    subst this
    rw[Nat.sub_self,List.replicate_zero,List.append_nil] at r3'
    have hho:(dQ u).hold.map i64=List.replicate u.cG.length (i64 (-1)):=by
     simp only[dQ,List.map_map]
     rw[List.eq_replicate_iff]
     exact⟨by simp,fun b hb=>by obtain⟨g,_,rfl⟩:=List.mem_map.1 hb;rfl⟩
    refine cV ?_
    refine⟨⟨⟨nx+22,nx+16,nx+43,nx+44,nx+20,nx+45,ids⟩,rfl,⟨⟨d1, ?_⟩,⟨_,cA⟩,⟨_,cA⟩,fun t ht=> ?_,⟨_,cA⟩,⟨_,by rw[hho];exact cA⟩,⟨_,cA⟩,by rw[hnsl];exact hil, ?_⟩, ?_,ca,fun y hy=>Eq.trans cB (hkp y hy)⟩⟩
    ·rw[show(dQ u).rows u (nx+16) (nx+43) (nx+44) (nx+20) (nx+45)= .agg [cw u.shared,cw u.cG,df u.bz, .sl (nx+16) u.bz.length, .sl (nx+43) u.bz.length, .sl (nx+44) u.shared.length, .sl (nx+20) u.cG.length, .sl (nx+45) 0] by simp[MS.rows,dQ]]
     exact cA
    ·rw[hnsl] at ht
     obtain⟨d,hd⟩:=hls t ht
     have:=hin _ (fI (l:=ids) (q:=t) (by omega))
     exact⟨d,Eq.trans cB hd⟩
    ·have hno:∀k,k<nx+46->k∉ids:=fun k hk h=>by have:=hin _ h;omega
     simp only[List.nodup_cons,List.mem_cons,not_or]
     exact⟨⟨by omega,by omega,by omega,by omega,by omega,hno _ (by omega)⟩,⟨by omega,by omega,by omega,by omega,hno _ (by omega)⟩,⟨by omega,by omega,by omega,hno _ (by omega)⟩,⟨by omega,by omega,hno _ (by omega)⟩,⟨by omega,hno _ (by omega)⟩,hno _ (by omega),hnd⟩
    ·intro x hx
     simp only[List.mem_cons] at hx
     rcases hx with rfl|rfl|rfl|rfl|rfl|rfl|hx
     all_goals first
      |exact⟨by omega,ca⟩
      |(have:=hin _ hx;exact⟨by omega,ca⟩)
end Go.Proofs.YtjopoheligmmoaaGreatDoor
