import Derived.Test.YtjopoheligmmoaaGreatDoorM30
namespace Go.Proofs.YtjopoheligmmoaaGreatDoor
open Go Go.cu Go.Proofs
set_option linter.unusedSimpArgs false
set_option linter.unusedVariables false
set_option maxRecDepth 8000
set_option maxHeartbeats 2000000
theorem GW {u:bz} {m:MS} {t:Nat} {n:Node} {d:fb} {ab:Nat} {L:ML} {H:Hp} {nx:Nat} (h:uh u m t n d ab L H) (hlt:∀y∈ab::L.all,y<nx) (ht:t<m.cA.length) (hl:m.cA.length<=8) (hth:0<=n.cG/\n.cG<m.hold.length):
 cS Tryz.prog 110 [.pt ab 1 0 0] H nx (fun r H' k=>r=i64 n.next/\uS u { m with hold:=m.hold.set n.cG.toNat t } t n { d with cG:=n.cG } ab L H nx H' k):=by
 have hfr:∀(v:jh) (H1:Hp),(∀y∈ab::L.all,bu H1 y=bu H y)->[.pt ab 1 0 0,v.av].map (cu.dX H1 6)=[oB u m t n d,v.av]:=fun v H1 h1=>by
  rw[List.map_cons,List.map_cons,List.map_nil,(h.c8 h1).dX,dM _ (show cK 0 v.av by simp[cK])]
 have h0:=h
 obtain⟨hM,⟨dd,ra⟩,hout⟩:=h
 obtain⟨⟨a1,a2,a3,a4,a5,b1,b2,b3,b4,c1,c2,c3,e1',e2',f1⟩,n1,n2,n3,n4,n5,n6⟩:=apart hM ht
 have hmem:=hM.mem
 have k0:=hlt ab (by simp)
 have km:=hlt L.mr (by simp)
 have ke:=hlt L.me (List.mem_cons_of_mem _ (hmem _ (by simp)))
 have kh:=hlt L.ho (List.mem_cons_of_mem _ (hmem _ (by simp)))
 have kp:=hlt L.pr (List.mem_cons_of_mem _ (hmem _ (by simp)))
 have o1:=db hout (List.mem_cons_self (a:=L.mr))
 have o2:=db hout (hmem L.me (by simp))
 have o3:=db hout (hmem L.ho (by simp))
 have o4:=db hout (hmem L.pr (by simp))
 clear a1 a2 a4 b1 b2 b3 b4 c1 c2 c3 e1' e2' f1 n1 n2 n3 n4 n5 n6
 obtain⟨d1,r1⟩:=hM.rM
 obtain⟨d3,r4⟩:=hM.rE
 obtain⟨d5,r5⟩:=hM.rH
 obtain⟨d6,r6⟩:=hM.rP
 have q1:(m.mem.map i64).length=m.mem.length:=by simp
 have q2:(m.hold.map i64).length=m.hold.length:=by simp
 have q3:(m.cJ.map dP.av).length=m.cJ.length:=by simp
 refine aI T1 rfl ?_
 refine cV ?_
 exact⟨⟨rfl,⟨hM.yi ht _ _ ⟨_,bx⟩ fun y hy hne=>by have:=db hout hy;exact cC,⟨_,bx⟩,hout⟩,cZ,fun y y1 y2 y3=>by have y4:=db y3 (hmem L.ho (by simp));exact cC⟩⟩
theorem zu {u:bz} {m:MS} {t:Nat} {n:Node} {d:fb} {ab:Nat} {L:ML} {H:Hp} {nx:Nat} (h:uh u m t n d ab L H) (hlt:∀y∈ab::L.all,y<nx) (ht:t<m.cA.length) (hl:m.cA.length<=8) (hth:0<=n.cG/\n.cG<m.hold.length):
 cS Tryz.prog 111 [.pt ab 1 0 0] H nx (fun r H' k=>r=i64 n.next/\uS u { m with hold:=m.hold.set n.cG.toNat (-1) } t n { d with cG:=n.cG } ab L H nx H' k):=by
 have hfr:∀(v:jh) (H1:Hp),(∀y∈ab::L.all,bu H1 y=bu H y)->[.pt ab 1 0 0,v.av].map (cu.dX H1 6)=[oB u m t n d,v.av]:=fun v H1 h1=>by
  rw[List.map_cons,List.map_cons,List.map_nil,(h.c8 h1).dX,dM _ (show cK 0 v.av by simp[cK])]
 have h0:=h
 obtain⟨hM,⟨dd,ra⟩,hout⟩:=h
 obtain⟨⟨a1,a2,a3,a4,a5,b1,b2,b3,b4,c1,c2,c3,e1',e2',f1⟩,n1,n2,n3,n4,n5,n6⟩:=apart hM ht
 have hmem:=hM.mem
 have k0:=hlt ab (by simp)
 have km:=hlt L.mr (by simp)
 have ke:=hlt L.me (List.mem_cons_of_mem _ (hmem _ (by simp)))
 have kh:=hlt L.ho (List.mem_cons_of_mem _ (hmem _ (by simp)))
 have kp:=hlt L.pr (List.mem_cons_of_mem _ (hmem _ (by simp)))
 have o1:=db hout (List.mem_cons_self (a:=L.mr))
 have o2:=db hout (hmem L.me (by simp))
 have o3:=db hout (hmem L.ho (by simp))
 have o4:=db hout (hmem L.pr (by simp))
 clear a1 a2 a4 b1 b2 b3 b4 c1 c2 c3 e1' e2' f1 n1 n2 n3 n4 n5 n6
 obtain⟨d1,r1⟩:=hM.rM
 obtain⟨d3,r4⟩:=hM.rE
 obtain⟨d5,r5⟩:=hM.rH
 obtain⟨d6,r6⟩:=hM.rP
 have q1:(m.mem.map i64).length=m.mem.length:=by simp
 have q2:(m.hold.map i64).length=m.hold.length:=by simp
 have q3:(m.cJ.map dP.av).length=m.cJ.length:=by simp
 refine aI T2 rfl ?_
 refine cV ?_
 exact⟨⟨rfl,⟨hM.yi ht _ _ ⟨_,bx⟩ fun y hy hne=>by have:=db hout hy;exact cC,⟨_,bx⟩,hout⟩,cZ,fun y y1 y2 y3=>by have y4:=db y3 (hmem L.ho (by simp));exact cC⟩⟩
theorem yB {u:bz} {m:MS} {t:Nat} {n:Node} {d:fb} {ab:Nat} {L:ML} {H:Hp} {nx:Nat} (h:uh u m t n d ab L H) (hlt:∀y∈ab::L.all,y<nx) (ht:t<m.cA.length) (hl:m.cA.length<=8) (hva:kr m t n.a):
 cS Tryz.prog 113 [.pt ab 1 0 0] H nx (fun r H' k=>r=i64 (if m.val t n.a=0 then n.qa else n.next)/\uS u m t n { d with word:=m.val t n.a } ab L H nx H' k):=by
 have hfr:∀(v:jh) (H1:Hp),(∀y∈ab::L.all,bu H1 y=bu H y)->[.pt ab 1 0 0,v.av].map (cu.dX H1 6)=[oB u m t n d,v.av]:=fun v H1 h1=>by
  rw[List.map_cons,List.map_cons,List.map_nil,(h.c8 h1).dX,dM _ (show cK 0 v.av by simp[cK])]
 have h0:=h
 obtain⟨hM,⟨dd,ra⟩,hout⟩:=h
 obtain⟨⟨a1,a2,a3,a4,a5,b1,b2,b3,b4,c1,c2,c3,e1',e2',f1⟩,n1,n2,n3,n4,n5,n6⟩:=apart hM ht
 have hmem:=hM.mem
 have k0:=hlt ab (by simp)
 have km:=hlt L.mr (by simp)
 have ke:=hlt L.me (List.mem_cons_of_mem _ (hmem _ (by simp)))
 have kh:=hlt L.ho (List.mem_cons_of_mem _ (hmem _ (by simp)))
 have kp:=hlt L.pr (List.mem_cons_of_mem _ (hmem _ (by simp)))
 have o1:=db hout (List.mem_cons_self (a:=L.mr))
 have o2:=db hout (hmem L.me (by simp))
 have o3:=db hout (hmem L.ho (by simp))
 have o4:=db hout (hmem L.pr (by simp))
 clear a1 a2 a4 b1 b2 b3 b4 c1 c2 c3 e1' e2' f1 n1 n2 n3 n4 n5 n6
 obtain⟨d1,r1⟩:=hM.rM
 obtain⟨d3,r4⟩:=hM.rE
 obtain⟨d5,r5⟩:=hM.rH
 obtain⟨d6,r6⟩:=hM.rP
 have q1:(m.mem.map i64).length=m.mem.length:=by simp
 have q2:(m.hold.map i64).length=m.hold.length:=by simp
 have q3:(m.cJ.map dP.av).length=m.cJ.length:=by simp
 by_cases hz:m.val t n.a=0
 ·rw[if_pos hz]
  refine aI P2 rfl ?_
  refine cV ?_
  refine aR (j6 u m n d n.a ht hl hva) (hfr n.a _ ?_) (by simp[cX,cK]) trivial ?_
  ·exact fun y hy=>rfl
  refine cV ?_
  exact⟨⟨rfl,⟨hM.c8 fun y hy=>by have:=db hout hy;exact cC,⟨_,bx⟩,hout⟩,cZ,fun y y1 y2 y3=>cC⟩⟩
 ·rw[if_neg hz]
  refine aI P2 rfl ?_
  refine cV ?_
  refine aR (j6 u m n d n.a ht hl hva) (hfr n.a _ ?_) (by simp[cX,cK]) trivial ?_
  ·exact fun y hy=>rfl
  refine cV ?_
  exact⟨⟨rfl,⟨hM.c8 fun y hy=>by have:=db hout hy;exact cC,⟨_,bx⟩,hout⟩,cZ,fun y y1 y2 y3=>cC⟩⟩
theorem GV {u:bz} {m:MS} {t:Nat} {n:Node} {d:fb} {ab:Nat} {L:ML} {H:Hp} {nx:Nat} (h:uh u m t n d ab L H) (hlt:∀y∈ab::L.all,y<nx) (ht:t<m.cA.length) (hl:m.cA.length<=8) (hs:0<=n.slot/\n.slot<(m.cA.getD t []).length) (hth:0<=n.cG/\n.cG<m.mem.length):
 cS Tryz.prog 107 [.pt ab 1 0 0] H nx (fun r H' k=>r=i64 n.next/\uS u (m.dw t n.slot (m.mem.getD n.cG.toNat 0)) t n { d with cG:=n.cG,word:=m.mem.getD n.cG.toNat 0 } ab L H nx H' k):=by
 have hfr:∀(v:jh) (H1:Hp),(∀y∈ab::L.all,bu H1 y=bu H y)->[.pt ab 1 0 0,v.av].map (cu.dX H1 6)=[oB u m t n d,v.av]:=fun v H1 h1=>by
  rw[List.map_cons,List.map_cons,List.map_nil,(h.c8 h1).dX,dM _ (show cK 0 v.av by simp[cK])]
 have h0:=h
 obtain⟨hM,⟨dd,ra⟩,hout⟩:=h
 obtain⟨⟨a1,a2,a3,a4,a5,b1,b2,b3,b4,c1,c2,c3,e1',e2',f1⟩,n1,n2,n3,n4,n5,n6⟩:=apart hM ht
 have hmem:=hM.mem
 have k0:=hlt ab (by simp)
 have km:=hlt L.mr (by simp)
 have ke:=hlt L.me (List.mem_cons_of_mem _ (hmem _ (by simp)))
 have kh:=hlt L.ho (List.mem_cons_of_mem _ (hmem _ (by simp)))
 have kp:=hlt L.pr (List.mem_cons_of_mem _ (hmem _ (by simp)))
 have o1:=db hout (List.mem_cons_self (a:=L.mr))
 have o2:=db hout (hmem L.me (by simp))
 have o3:=db hout (hmem L.ho (by simp))
 have o4:=db hout (hmem L.pr (by simp))
 clear a1 a2 a4 b1 b2 b3 b4 c1 c2 c3 e1' e2' f1 n1 n2 n3 n4 n5 n6
 obtain⟨d1,r1⟩:=hM.rM
 obtain⟨d3,r4⟩:=hM.rE
 obtain⟨d5,r5⟩:=hM.rH
 obtain⟨d6,r6⟩:=hM.rP
 have q1:(m.mem.map i64).length=m.mem.length:=by simp
 have q2:(m.hold.map i64).length=m.hold.length:=by simp
 have q3:(m.cJ.map dP.av).length=m.cJ.length:=by simp
 have e0:=fun d=>jH (l:=m.mem) (k:=n.cG) (by omega) d
 refine aI TY rfl ?_
 refine cV ?_
 refine aF (lE (u:=u) (t:=t) (n:=n) (d:={ d with cG:=n.cG }) (L:=L) (m:=m) (ab:=ab) ?_ ?_ ht hl hs _) ?_
 ·exact⟨hM.c8 fun y hy=>by have:=db hout hy;exact cC,⟨_,bx⟩,hout⟩
 ·exact fun y hy=>Nat.lt_of_lt_of_le (hlt y hy) cZ
 rintro _ H2 n2 ⟨hA,hn2,hk2⟩
 obtain⟨dd2,ra2⟩:=hA.row
 refine cV ?_
 exact⟨⟨rfl,hA.c8 fun y hy=>cC,cZ,fun y y1 y2 y3=>Eq.trans cC ((hk2 y (Nat.lt_of_lt_of_le y1 cZ) y2 y3).trans cC)⟩⟩
theorem DI {u:bz} {m:MS} {t:Nat} {n:Node} {d:fb} {ab:Nat} {L:ML} {H:Hp} {nx:Nat} (h:uh u m t n d ab L H) (hlt:∀y∈ab::L.all,y<nx) (ht:t<m.cA.length) (hl:m.cA.length<=8) (hva:kr m t n.a) (hth:0<=n.cG/\n.cG<m.mem.length):
 cS Tryz.prog 108 [.pt ab 1 0 0] H nx (fun r H' k=>r=i64 n.next/\uS u { m with mem:=m.mem.set n.cG.toNat (m.val t n.a) } t n { d with cG:=n.cG,word:=m.val t n.a } ab L H nx H' k):=by
 have hfr:∀(v:jh) (H1:Hp),(∀y∈ab::L.all,bu H1 y=bu H y)->[.pt ab 1 0 0,v.av].map (cu.dX H1 6)=[oB u m t n d,v.av]:=fun v H1 h1=>by
  rw[List.map_cons,List.map_cons,List.map_nil,(h.c8 h1).dX,dM _ (show cK 0 v.av by simp[cK])]
 have h0:=h
 obtain⟨hM,⟨dd,ra⟩,hout⟩:=h
 obtain⟨⟨a1,a2,a3,a4,a5,b1,b2,b3,b4,c1,c2,c3,e1',e2',f1⟩,n1,n2,n3,n4,n5,n6⟩:=apart hM ht
 have hmem:=hM.mem
 have k0:=hlt ab (by simp)
 have km:=hlt L.mr (by simp)
 have ke:=hlt L.me (List.mem_cons_of_mem _ (hmem _ (by simp)))
 have kh:=hlt L.ho (List.mem_cons_of_mem _ (hmem _ (by simp)))
 have kp:=hlt L.pr (List.mem_cons_of_mem _ (hmem _ (by simp)))
 have o1:=db hout (List.mem_cons_self (a:=L.mr))
 have o2:=db hout (hmem L.me (by simp))
 have o3:=db hout (hmem L.ho (by simp))
 have o4:=db hout (hmem L.pr (by simp))
 clear a1 a2 a4 b1 b2 b3 b4 c1 c2 c3 e1' e2' f1 n1 n2 n3 n4 n5 n6
 obtain⟨d1,r1⟩:=hM.rM
 obtain⟨d3,r4⟩:=hM.rE
 obtain⟨d5,r5⟩:=hM.rH
 obtain⟨d6,r6⟩:=hM.rP
 have q1:(m.mem.map i64).length=m.mem.length:=by simp
 have q2:(m.hold.map i64).length=m.hold.length:=by simp
 have q3:(m.cJ.map dP.av).length=m.cJ.length:=by simp
 refine aI TZ rfl ?_
 refine cV ?_
 refine aV (ab::L.all) (j6 u m n d n.a ht hl hva) (fun H1 h1=>hfr n.a H1 h1) (by simp[cX,cK]) trivial ?_
 refine Eq.mpr (tg (ab::L.all) _) (uJ ?_)
 refine cV ?_
 exact⟨⟨rfl,⟨hM.ft ht _ _ ⟨_,bx⟩ fun y hy hne=>by have:=db hout hy;exact cC,⟨_,bx⟩,hout⟩,cZ,fun y y1 y2 y3=>by have y4:=db y3 (hmem L.me (by simp));exact cC⟩⟩
theorem CJ {u:bz} {m:MS} {t:Nat} {n:Node} {d:fb} {ab:Nat} {L:ML} {H:Hp} {nx:Nat} (h:uh u m t n d ab L H) (hlt:∀y∈ab::L.all,y<nx) (ht:t<m.cA.length) (hl:m.cA.length<=8) (hva:kr m t n.a) (hpl:m.cJ.length<=1048576):
 cS Tryz.prog 112 [.pt ab 1 0 0] H nx (fun r H' k=>r=i64 n.next/\uS u { m with cJ:=m.cJ++[⟨t,m.val t n.a⟩] } t n { d with word:=m.val t n.a } ab L H nx H' k):=by
 have hfr:∀(v:jh) (H1:Hp),(∀y∈ab::L.all,bu H1 y=bu H y)->[.pt ab 1 0 0,v.av].map (cu.dX H1 6)=[oB u m t n d,v.av]:=fun v H1 h1=>by
  rw[List.map_cons,List.map_cons,List.map_nil,(h.c8 h1).dX,dM _ (show cK 0 v.av by simp[cK])]
 have h0:=h
 obtain⟨hM,⟨dd,ra⟩,hout⟩:=h
 obtain⟨⟨a1,a2,a3,a4,a5,b1,b2,b3,b4,c1,c2,c3,e1',e2',f1⟩,n1,n2,n3,n4,n5,n6⟩:=apart hM ht
 have hmem:=hM.mem
 have k0:=hlt ab (by simp)
 have km:=hlt L.mr (by simp)
 have ke:=hlt L.me (List.mem_cons_of_mem _ (hmem _ (by simp)))
 have kh:=hlt L.ho (List.mem_cons_of_mem _ (hmem _ (by simp)))
 have kp:=hlt L.pr (List.mem_cons_of_mem _ (hmem _ (by simp)))
 have o1:=db hout (List.mem_cons_self (a:=L.mr))
 have o2:=db hout (hmem L.me (by simp))
 have o3:=db hout (hmem L.ho (by simp))
 have o4:=db hout (hmem L.pr (by simp))
 clear a1 a2 a4 b1 b2 b3 b4 c1 c2 c3 e1' e2' f1 n1 n2 n3 n4 n5 n6
 obtain⟨d1,r1⟩:=hM.rM
 obtain⟨d3,r4⟩:=hM.rE
 obtain⟨d5,r5⟩:=hM.rH
 obtain⟨d6,r6⟩:=hM.rP
 have q1:(m.mem.map i64).length=m.mem.length:=by simp
 have q2:(m.hold.map i64).length=m.hold.length:=by simp
 have q3:(m.cJ.map dP.av).length=m.cJ.length:=by simp
 refine aI T3 rfl ?_
 refine cV ?_
 refine aR (j6 u m n d n.a ht hl hva) (hfr n.a _ ?_) (by simp[cX,cK]) trivial ?_
 ·exact fun y hy=>rfl
 refine cV ?_
 exact⟨⟨rfl,⟨hM.CI ht _ ⟨_,by simp only[MS.rows,List.length_append,List.length_cons,List.length_nil];exact bx⟩ ⟨_,bx⟩ fun y hy hne hn2=>by have:=db hout hy;have:=hlt y (List.mem_cons_of_mem _ hy);exact cC,⟨_,bx⟩,hout⟩,cZ,fun y y1 y2 y3=>by have y4:=db y3 (List.mem_cons_self (a:=L.mr));have y5:=db y3 (hmem L.pr (by simp));exact cC⟩⟩
theorem IA {u:bz} {m:MS} {t:Nat} {n:Node} {d:fb} {ab:Nat} {L:ML} {H:Hp} {nx:Nat} (h:uh u m t n d ab L H) (hlt:∀y∈ab::L.all,y<nx) (ht:t<m.cA.length) (hl:m.cA.length<=8) (hva:kr m t n.a) (hs:0<=n.slot/\n.slot<(m.cA.getD t []).length) (hth:0<=n.cG/\n.cG<m.mem.length):
 cS Tryz.prog 109 [.pt ab 1 0 0] H nx (fun r H' k=>r=i64 n.next/\uS u { m.dw t n.slot (m.mem.getD n.cG.toNat 0) with mem:=m.mem.set n.cG.toNat (m.val t n.a) } t n { d with cG:=n.cG,word:=m.mem.getD n.cG.toNat 0,put:=m.val t n.a } ab L H nx H' k):=by
 have hfr:∀(v:jh) (H1:Hp),(∀y∈ab::L.all,bu H1 y=bu H y)->[.pt ab 1 0 0,v.av].map (cu.dX H1 6)=[oB u m t n d,v.av]:=fun v H1 h1=>by
  rw[List.map_cons,List.map_cons,List.map_nil,(h.c8 h1).dX,dM _ (show cK 0 v.av by simp[cK])]
 have h0:=h
 obtain⟨hM,⟨dd,ra⟩,hout⟩:=h
 obtain⟨⟨a1,a2,a3,a4,a5,b1,b2,b3,b4,c1,c2,c3,e1',e2',f1⟩,n1,n2,n3,n4,n5,n6⟩:=apart hM ht
 have hmem:=hM.mem
 have k0:=hlt ab (by simp)
 have km:=hlt L.mr (by simp)
 have ke:=hlt L.me (List.mem_cons_of_mem _ (hmem _ (by simp)))
 have kh:=hlt L.ho (List.mem_cons_of_mem _ (hmem _ (by simp)))
 have kp:=hlt L.pr (List.mem_cons_of_mem _ (hmem _ (by simp)))
 have o1:=db hout (List.mem_cons_self (a:=L.mr))
 have o2:=db hout (hmem L.me (by simp))
 have o3:=db hout (hmem L.ho (by simp))
 have o4:=db hout (hmem L.pr (by simp))
 clear a1 a2 a4 b1 b2 b3 b4 c1 c2 c3 e1' e2' f1 n1 n2 n3 n4 n5 n6
 obtain⟨d1,r1⟩:=hM.rM
 obtain⟨d3,r4⟩:=hM.rE
 obtain⟨d5,r5⟩:=hM.rH
 obtain⟨d6,r6⟩:=hM.rP
 have q1:(m.mem.map i64).length=m.mem.length:=by simp
 have q2:(m.hold.map i64).length=m.hold.length:=by simp
 have q3:(m.cJ.map dP.av).length=m.cJ.length:=by simp
 have e0:=fun d=>jH (l:=m.mem) (k:=n.cG) (by omega) d
 refine aI T0 rfl ?_
 refine cV ?_
 refine aV (ab::L.all) (j6 u m n d n.a ht hl hva) (fun H1 h1=>hfr n.a H1 h1) (by simp[cX,cK]) trivial ?_
 refine Eq.mpr (tg (ab::L.all) _) (uJ ?_)
 refine cV ?_
 refine aF (lE (u:=u) (t:=t) (n:=n) (d:={ d with cG:=n.cG,put:=m.val t n.a }) (L:=L) (m:=m) (ab:=ab) ?_ ?_ ht hl hs _) ?_
 ·exact⟨hM.c8 fun y hy=>by have:=db hout hy;exact cC,⟨_,bx⟩,hout⟩
 ·exact fun y hy=>Nat.lt_of_lt_of_le (hlt y hy) cZ
 rintro _ H2 n2 ⟨hA,hn2,hk2⟩
 obtain⟨dd2,ra2⟩:=hA.row
 obtain⟨d8,r8⟩:=hA.M.rM
 obtain⟨d9,r9⟩:=hA.M.rE
 refine cV ?_
 have ht2:t<(m.dw t n.slot (m.mem.getD n.cG.toNat 0)).cA.length:=by simp only[MS.dw,List.length_set];exact ht
 exact⟨⟨rfl,⟨hA.M.ft ht2 _ _ ⟨_,bx⟩ fun y hy hne=>by have:=db hout hy;exact cC,⟨_,bx⟩,hout⟩,cZ,fun y y1 y2 y3=>by have y4:=db y3 (hmem L.me (by simp));exact Eq.trans cC ((hk2 y (Nat.lt_of_lt_of_le y1 cZ) y2 y3).trans cC)⟩⟩
theorem L7 {u:bz} {m:MS} {t:Nat} {n:Node} {d:fb} {ab:Nat} {L:ML} {H:Hp} {nx:Nat} (h:uh u m t n d ab L H) (hlt:∀y∈ab::L.all,y<nx) (ht:t<m.cA.length) (hl:m.cA.length<=8) (hs:0<=n.slot/\n.slot<(m.cA.getD t []).length) (hva:kr m t n.a) (hvb:dn n.op=true->kr m t n.b) (hop:0<=n.op/\n.op<19):
 cS Tryz.prog 106 [.pt ab 1 0 0] H nx (fun r H' k=>r=i64 n.next/\uS u (m.dw t n.slot (m.nF t n)) t n { d with word:=m.nF t n } ab L H nx H' k):=by
 have hfr:∀(v:jh) (H1:Hp),(∀y∈ab::L.all,bu H1 y=bu H y)->[.pt ab 1 0 0,v.av].map (cu.dX H1 6)=[oB u m t n d,v.av]:=fun v H1 h1=>by
  rw[List.map_cons,List.map_cons,List.map_nil,(h.c8 h1).dX,dM _ (show cK 0 v.av by simp[cK])]
 have h0:=h
 obtain⟨hM,⟨dd,ra⟩,hout⟩:=h
 obtain⟨⟨a1,a2,a3,a4,a5,b1,b2,b3,b4,c1,c2,c3,e1',e2',f1⟩,n1,n2,n3,n4,n5,n6⟩:=apart hM ht
 have hmem:=hM.mem
 have k0:=hlt ab (by simp)
 have km:=hlt L.mr (by simp)
 have ke:=hlt L.me (List.mem_cons_of_mem _ (hmem _ (by simp)))
 have kh:=hlt L.ho (List.mem_cons_of_mem _ (hmem _ (by simp)))
 have kp:=hlt L.pr (List.mem_cons_of_mem _ (hmem _ (by simp)))
 have o1:=db hout (List.mem_cons_self (a:=L.mr))
 have o2:=db hout (hmem L.me (by simp))
 have o3:=db hout (hmem L.ho (by simp))
 have o4:=db hout (hmem L.pr (by simp))
 clear a1 a2 a4 b1 b2 b3 b4 c1 c2 c3 e1' e2' f1 n1 n2 n3 n4 n5 n6
 obtain⟨d1,r1⟩:=hM.rM
 obtain⟨d3,r4⟩:=hM.rE
 obtain⟨d5,r5⟩:=hM.rH
 obtain⟨d6,r6⟩:=hM.rP
 have q1:(m.mem.map i64).length=m.mem.length:=by simp
 have q2:(m.hold.map i64).length=m.hold.length:=by simp
 have q3:(m.cJ.map dP.av).length=m.cJ.length:=by simp
 have c0:=fj n.op hop.1
 unfold MS.nF
 cases h2:dn n.op with
 |true=>
  rw[h2] at c0
  have c1:=QF n.op (m.val t n.a) (m.val t n.b) h2
  have hvb:=hvb h2
  rw[if_pos rfl]
  refine aI KY rfl ?_
  refine cV ?_
  refine aR (j6 u m n d n.a ht hl hva) (hfr n.a _ ?_) (by simp[cX,cK]) trivial ?_
  ·exact fun y hy=>rfl
  refine cV ?_
  refine aV (ab::L.all) (j6 u m n d n.b ht hl hvb) (fun H1 h1=>hfr n.b H1 h1) (by simp[cX,cK]) trivial ?_
  refine Eq.mpr (tg (ab::L.all) _) (uJ ?_)
  refine cV ?_
  refine aF (lE (u:=u) (t:=t) (n:=n) (d:=d) (L:=L) (m:=m) (ab:=ab) ?_ ?_ ht hl hs _) ?_
  ·exact⟨hM.c8 fun y hy=>by have:=db hout hy;exact cC,⟨_,bx⟩,hout⟩
  ·exact fun y hy=>Nat.lt_of_lt_of_le (hlt y hy) cZ
  rintro _ H2 n2 ⟨hA,hn2,hk2⟩
  obtain⟨dd2,ra2⟩:=hA.row
  refine cV ?_
  exact⟨⟨rfl,hA.c8 fun y hy=>cC,cZ,fun y y1 y2 y3=>Eq.trans cC ((hk2 y (Nat.lt_of_lt_of_le y1 cZ) y2 y3).trans cC)⟩⟩
 |false=>
  rw[h2] at c0
  rw[if_neg (by decide)]
  by_cases h0':n.op=0
  ·rw[if_neg (fun e=>e h0')]
   refine aI KY rfl ?_
   refine cV ?_
   refine aR (j6 u m n d n.a ht hl hva) (hfr n.a _ ?_) (by simp[cX,cK]) trivial ?_
   ·exact fun y hy=>rfl
   refine cV ?_
   refine aF (lE (u:=u) (t:=t) (n:=n) (d:=d) (L:=L) (m:=m) (ab:=ab) ?_ ?_ ht hl hs _) ?_
   ·exact⟨hM.c8 fun y hy=>by have:=db hout hy;exact cC,⟨_,bx⟩,hout⟩
   ·exact fun y hy=>Nat.lt_of_lt_of_le (hlt y hy) cZ
   rintro _ H2 n2 ⟨hA,hn2,hk2⟩
   obtain⟨dd2,ra2⟩:=hA.row
   refine cV ?_
   exact⟨⟨rfl,hA.c8 fun y hy=>cC,cZ,fun y y1 y2 y3=>Eq.trans cC ((hk2 y (Nat.lt_of_lt_of_le y1 cZ) y2 y3).trans cC)⟩⟩
  ·rw[if_pos h0']
   have c1:=M1 n.op (m.val t n.a) (by unfold dn at h2;simp only[Bool.and_eq_false_iff,decide_eq_false_iff_not] at h2;omega)
   refine aI KY rfl ?_
   refine cV ?_
   refine aR (j6 u m n d n.a ht hl hva) (hfr n.a _ ?_) (by simp[cX,cK]) trivial ?_
   ·exact fun y hy=>rfl
   refine cV ?_
   refine aF (lE (u:=u) (t:=t) (n:=n) (d:=d) (L:=L) (m:=m) (ab:=ab) ?_ ?_ ht hl hs _) ?_
   ·exact⟨hM.c8 fun y hy=>by have:=db hout hy;exact cC,⟨_,bx⟩,hout⟩
   ·exact fun y hy=>Nat.lt_of_lt_of_le (hlt y hy) cZ
   rintro _ H2 n2 ⟨hA,hn2,hk2⟩
   obtain⟨dd2,ra2⟩:=hA.row
   refine cV ?_
   exact⟨⟨rfl,hA.c8 fun y hy=>cC,cZ,fun y y1 y2 y3=>Eq.trans cC ((hk2 y (Nat.lt_of_lt_of_le y1 cZ) y2 y3).trans cC)⟩⟩
section
def kx (k:Int):Nat:=if k=1 then 106 else if k=2 then 107 else if k=3 then 108 else if k=4 then 109 else if k=5 then 110 else if k=6 then 111 else if k=7 then 112 else 113
def sP:AV:= .agg [.sc .nilFunc, .fn (.func 106) [] [], .fn (.func 107) [] [], .fn (.func 108) [] [], .fn (.func 109) [] [], .fn (.func 110) [] [], .fn (.func 111) [] [], .fn (.func 112) [] [], .fn (.func 113) [] [], .sc .nilFunc]
theorem wO:Pure Tryz.prog 70 [] (fun r=>r=sP):=by
 refine cm ?_ (by simp[sP,cK,cX])
 refine aI YK rfl ?_
 refine cV ?_
 exact⟨rfl⟩
def sO (m:MS) (t:Nat) (n:Node) (d:fb):fb:={ d with cG:=(m.act t n).2.2.1,word:=(m.act t n).2.2.2.1,put:=(m.act t n).2.2.2.2 }
structure DP (m:MS) (t:Nat) (n:Node):Prop where
 kind:1<=n.kind/\n.kind<=8
 slot:n.kind=1\/n.kind=2\/n.kind=4->0<=n.slot/\n.slot<(m.cA.getD t []).length
 mem:n.kind=2\/n.kind=3\/n.kind=4->0<=n.cG/\n.cG<m.mem.length
 hold:n.kind=5\/n.kind=6->0<=n.cG/\n.cG<m.hold.length
 a:n.kind=1\/n.kind=3\/n.kind=4\/n.kind=7\/n.kind=8->kr m t n.a
 b:n.kind=1->dn n.op=true->kr m t n.b
 op:n.kind=1->0<=n.op/\n.op<19
theorem EX {v:jh} {g:Int} {m:MS} {t:Nat} (h:ox v true g=true) (hl:((m.cA.getD t []).length:Int)=g):kr m t v:=by
 intro hs
 unfold ox at h
 rw[if_pos rfl,if_pos hs] at h
 simp only[Bool.and_eq_true,decide_eq_true_eq] at h
 omega
theorem eH.PO {u:bz} {m:MS} {t:Nat} (hu:u.Wf) (hr:ca u) (h:eH u m) (ht:t<u.bw.length) (hk:(m.node u t).kind≠9):DP m t (m.node u t):=by
 have hn:=h.node hr ht
 have hw:=EO hu h ht
 have hsl:=h.AD t ht
 have hg:=(hr.gr ht).cA
 have hg2:=(hr.gr ht).locals
 have hml:=h.ml
 have hhl:=h.hl
 generalize m.node u t=n at *
 have hkd:=hn.kind
 have hlen:(((m.cA.getD t []).length:Nat):Int)=(u.gr t).cA:=by rw[hsl];omega
 refine⟨by omega,fun e=> ?_,fun e=> ?_,fun e=> ?_,fun e=> ?_,fun e e2=> ?_,fun e=> ?_⟩
 ·have:=hn.slot.1 (by unfold jJ;exact decide_eq_true (by omega));omega
 ·have:=hn.cG.1 (by unfold eZ;exact decide_eq_true (by omega))
  rw[if_neg (by omega)] at this;omega
 ·have:=hn.cG.1 (by unfold eZ;exact decide_eq_true (by omega))
  rw[if_pos (by omega)] at this;omega
 ·have:=hn.a
  rw[show nJ n.kind=true by unfold nJ;exact decide_eq_true (by omega)] at this
  exact EX this hlen
 ·have:=hn.b
  rw[e2,decide_eq_true e] at this
  exact EX this hlen
 ·exact⟨hw.op.1,hn.op.1 e⟩
section
variable {u:bz} {m:MS} {t:Nat} {n:Node} {d:fb} {ab:Nat} {L:ML} {H:Hp} {nx:Nat}
theorem I0 (h:uh u m t n d ab L H) (hlt:∀y∈ab::L.all,y<nx) (ht:t<m.cA.length) (hl:m.cA.length<=8) (ha:DP m t n) (hpl:m.cJ.length<=1048576) (hd:d.cG=0/\d.word=0/\d.put=0):
 cS Tryz.prog (kx n.kind) [.pt ab 1 0 0] H nx (fun r H' k=>r=i64 (m.act t n).2.1/\uS u (m.act t n).1 t n (sO m t n d) ab L H nx H' k):=by
 obtain⟨d1,d2,d3⟩:=hd
 have hk:n.kind=1\/n.kind=2\/n.kind=3\/n.kind=4\/n.kind=5\/n.kind=6\/n.kind=7\/n.kind=8:=by have:=ha.kind;omega
 obtain⟨t0,a0,k0,th,w0,p0⟩:=d
 dsimp only at d1 d2 d3
 subst d1 d2 d3
 have hop:=ha.op
 rcases hk with e|e|e|e|e|e|e|e
 ·have:=L7 h hlt ht hl (ha.slot (by omega)) (ha.a (by omega)) (ha.b e) (hop e)
  simp only[kx,sO,MS.act,e];exact this
 ·have:=GV h hlt ht hl (ha.slot (by omega)) (ha.mem (by omega))
  simp only[kx,sO,MS.act,e];exact this
 ·have:=DI h hlt ht hl (ha.a (by omega)) (ha.mem (by omega))
  simp only[kx,sO,MS.act,e];exact this
 ·have:=IA h hlt ht hl (ha.a (by omega)) (ha.slot (by omega)) (ha.mem (by omega))
  simp only[kx,sO,MS.act,e];exact this
 ·have:=GW h hlt ht hl (ha.hold (by omega))
  simp only[kx,sO,MS.act,e];exact this
 ·have:=zu h hlt ht hl (ha.hold (by omega))
  simp only[kx,sO,MS.act,e];exact this
 ·have:=CJ h hlt ht hl (ha.a (by omega)) hpl
  simp only[kx,sO,MS.act,e];exact this
 ·have:=yB h hlt ht hl (ha.a (by omega))
  simp only[kx,sO,MS.act,e];exact this
end
abbrev oN (d:Nat) (o:dZ):iF:=⟨some d,none,o⟩
def zV:List iF:=[oN 50 (.mv (.t 0)),oN 51 (.RV (.t 50)),oN 52 (.fa 3 (.t 51)),oN 53 (.ld false 1 (.t 52)),oN 54 (.mv (.t 1)),oN 55 (.call (.f 70) []),oN 56 (.mv (.t 8)),oN 57 (.RV (.t 56)),oN 58 (.fa 2 (.t 57)),oN 59 (.fa 0 (.t 58)),oN 60 (.ld false 1 (.t 59)),oN 61 (.ix 1 false 10 (.t 55) (.t 60)),oN 62 (.mv (.t 8)),oN 63 (.call (.t 61) [.t 62])]
def Y5:List (Nat×Nat):=[(2,5),(3,5),(5,8),(5,9),(5,10),(2,13),(3,13)]
def zx (L:ML) (m:MS) (t:Nat) (n:Node) (ab:Nat) (i:Nat):AV:=
 [.pt L.mr 1 0 0, .pt L.mr 1 0 0, .pt L.mr 1 0 3, .sl L.a m.at_.length,i64 t,sP, .pt ab 1 0 0, .pt ab 1 0 0, .pt ab 1 0 2, .pt ab 1 0 2,u8 n.kind, .fn (.func (kx n.kind)) [] [], .pt ab 1 0 0,i64 (m.act t n).2.1].getD i .any
structure SZ (u:bz) (m:MS) (t:Nat) (n:Node) (d:fb) (ab:Nat) (L:ML) (H0:Hp) (lo:Nat) (D:Nat->Bool) (H:Hp) (nx:Nat):Prop where
 lw:lo<=nx
 same:∀y,y<lo->y≠ab->y∉L.all->bu H y=bu H0 y
 m0:D 13=false->uh u m t n d ab L H
 m1:D 13=true->uh u (m.act t n).1 t n (sO m t n d) ab L H
section
variable {u:bz} {m:MS} {t:Nat} {n:Node} {d:fb} {ab:Nat} {L:ML} {H0 H:Hp} {lo nx:Nat} {D:Nat->Bool}
theorem SZ.look (h:SZ u m t n d ab L H0 lo D H nx) {i:Nat} (hi:i≠13) {nx':Nat} (hn:nx<=nx'):SZ u m t n d ab L H0 lo (fun k=>D k||k==i) H nx':=by
 have e:(13==i)=false:=by simpa using Ne.symm hi
 refine⟨Nat.le_trans h.lw hn,h.same, ?_, ?_⟩
 ·simp only[e,Bool.or_false];exact h.m0
 ·simp only[e,Bool.or_false];exact h.m1
theorem wM {u:bz} (m:MS) (t:Nat) (n:Node):(m.act t n).1.at_=m.at_:=by
 unfold MS.act
 repeat' split
 all_goals rfl
theorem E8 {k:Int} (h:1<=k/\k<=8):([.sc .nilFunc, .fn (.func 106) [] [], .fn (.func 107) [] [], .fn (.func 108) [] [], .fn (.func 109) [] [], .fn (.func 110) [] [], .fn (.func 111) [] [], .fn (.func 112) [] [], .fn (.func 113) [] [], .sc .nilFunc]:List AV).getD k.toNat .any= .fn (.func (kx k)) [] []:=by
 have:k=1\/k=2\/k=3\/k=4\/k=5\/k=6\/k=7\/k=8:=by omega
 rcases this with rfl|rfl|rfl|rfl|rfl|rfl|rfl|rfl<;>rfl
set_option maxHeartbeats 2000000 in
theorem W7 {fr0:Fr} (hlt:∀y∈ab::L.all,y<lo) (ht:t<m.cA.length) (hl:m.cA.length<=8) (ha:DP m t n) (hpl:m.cJ.length<=1048576) (hd:d.cG=0/\d.word=0/\d.put=0)
 (h0:cp fr0 0= .pt L.mr 1 0 0) (h1:cp fr0 1=i64 t) (h8:cp fr0 8= .pt ab 1 0 0):
 E5 Tryz.prog zV Y5 (fun D fr H nx=>∃θ:Unit,XK zV D (zx L m t n ab) fr0 fr/\SZ u m t n d ab L H0 lo D H nx):=by
 refine E5.of (Θ:=Unit) (fun _=>zx L m t n ab) (fun _=>SZ u m t n d ab L H0 lo) fr0 (by decide) ?_
 intro i gg θ D fr H nx hi hD hp hs hv hh
 have hk:i<14:=by have:=(List.getElem?_eq_some_iff.1 hi).1;simpa[zV] using this
 have q:∀(j:Nat) (g':iF) (t':Nat),zV[j]?=some g'->g'.dst=some t'->j<i->A7 zV Y5 j i=true->cp fr t'=zx L m t n ab j:=fun j g' t' h1 h2 h3 h4=>hv.val j g' t' h1 (hp j h3 h4) h2
 have f0:cp fr 0= .pt L.mr 1 0 0:=(hv.gq 0 (by decide)).trans h0
 have f1:cp fr 1=i64 t:=(hv.gq 1 (by decide)).trans h1
 have f8:cp fr 8= .pt ab 1 0 0:=(hv.gq 8 (by decide)).trans h8
 have hlw:=hh.lw
 have row:∃d,(∃d2,bu H ab=some (.row 118 21 d2 [.agg (AC (.pt L.mr 1 0 0) t n d)])):=by
  cases h13:D 13 with
  |false=>exact⟨_,(hh.m0 h13).row⟩
  |true=>exact⟨_,(hh.m1 h13).row⟩
 have mrow:∃(m':MS),m'.at_.length=m.at_.length/\∃d2,bu H L.mr=some (.row 114 8 d2 [m'.rows u L.a L.s L.me L.ho L.pr]):=by
  cases h13:D 13 with
  |false=>exact⟨_,rfl,(hh.m0 h13).M.rM⟩
  |true=>exact⟨_,by rw[wM (u:=u)],(hh.m1 h13).M.rM⟩
 obtain⟨dx,d2,ra⟩:=row
 obtain⟨m',hm',d3,rm⟩:=mrow
 have cases:i=0\/i=1\/i=2\/i=3\/i=4\/i=5\/i=6\/i=7\/i=8\/i=9\/i=10\/i=11\/i=12\/i=13:=by omega
 rcases cases with rfl|rfl|rfl|rfl|rfl|rfl|rfl|rfl|rfl|rfl|rfl|rfl|rfl|rfl<;>(obtain rfl:_=gg:=by simpa[zV] using hi)
 ·exact eG.look (by simp) (r:= .pt L.mr 1 0 0) (by simp only[cM,ev];rw[f0]) ⟨θ,fun _ _=>rfl,rfl,hh.look (by decide) (Nat.le_succ _)⟩
 ·have p:=q 0 _ 50 rfl rfl (by decide) (by decide)
  exact eG.look (by simp) (r:= .pt L.mr 1 0 0) (by simp only[cM,ev];rw[p];rfl) ⟨θ,fun _ _=>rfl,rfl,hh.look (by decide) (Nat.le_succ _)⟩
 ·have p:=q 1 _ 51 rfl rfl (by decide) (by decide)
  exact eG.look (by simp) (r:= .pt L.mr 1 0 3) (by simp only[cM,ev];rw[p];simp[zx,rm]) ⟨θ,fun _ _=>rfl,rfl,hh.look (by decide) (Nat.le_succ _)⟩
 ·have p:=q 2 _ 52 rfl rfl (by decide) (by decide)
  exact eG.look (by simp) (r:= .sl L.a m.at_.length) (by simp only[cM,ev];rw[p];simp[zx,kI,rm,yy,MS.rows,hm']) ⟨θ,fun _ _=>rfl,rfl,hh.look (by decide) (Nat.le_succ _)⟩
 ·exact eG.look (by simp) (r:=i64 t) (by simp only[cM,ev];rw[f1]) ⟨θ,fun _ _=>rfl,rfl,hh.look (by decide) (Nat.le_succ _)⟩
 ·show cS Tryz.prog 70 ([]++[]++[]) H nx _
  refine wO.dK (by simp[cX]) ?_
  rintro r rfl
  exact⟨θ,fun _ _=>rfl,rfl,hh.look (by decide) (Nat.le_refl _)⟩
 ·exact eG.look (by simp) (r:= .pt ab 1 0 0) (by simp only[cM,ev];rw[f8]) ⟨θ,fun _ _=>rfl,rfl,hh.look (by decide) (Nat.le_succ _)⟩
 ·have p:=q 6 _ 56 rfl rfl (by decide) (by decide)
  exact eG.look (by simp) (r:= .pt ab 1 0 0) (by simp only[cM,ev];rw[p];rfl) ⟨θ,fun _ _=>rfl,rfl,hh.look (by decide) (Nat.le_succ _)⟩
 ·have p:=q 7 _ 57 rfl rfl (by decide) (by decide)
  exact eG.look (by simp) (r:= .pt ab 1 0 2) (by simp only[cM,ev];rw[p];simp[zx,ra]) ⟨θ,fun _ _=>rfl,rfl,hh.look (by decide) (Nat.le_succ _)⟩
 ·have p:=q 8 _ 58 rfl rfl (by decide) (by decide)
  exact eG.look (by simp) (r:= .pt ab 1 0 2) (by simp only[cM,ev];rw[p];simp[zx,ra]) ⟨θ,fun _ _=>rfl,rfl,hh.look (by decide) (Nat.le_succ _)⟩
 ·have p:=q 9 _ 59 rfl rfl (by decide) (by decide)
  exact eG.look (by simp) (r:=u8 n.kind) (by simp only[cM,ev];rw[p];simp[zx,kI,ra,yy,AC]) ⟨θ,fun _ _=>rfl,rfl,hh.look (by decide) (Nat.le_succ _)⟩
 ·have p:=q 5 _ 55 rfl rfl (by decide) (by decide)
  have p2:=q 10 _ 60 rfl rfl (by decide) (by decide)
  have hkk:=ha.kind
  refine eG.look (by simp) (r:= .fn (.func (kx n.kind)) [] []) ?_ ⟨θ,fun _ _=>rfl,rfl,hh.look (by decide) (Nat.le_succ _)⟩
  have p3:cp fr 55=sP:=p
  have p4:cp fr 60=u8 n.kind:=p2
  have ht:=E8 hkk
  simp only[cM,ev,p3,p4,sP,Nat.mul_one,Bool.false_eq_true,if_false,if_true,List.length_cons,List.length_nil]
  rw[if_pos ⟨by omega,(show n.kind<10 by omega),trivial⟩,ht]
 ·exact eG.look (by simp) (r:= .pt ab 1 0 0) (by simp only[cM,ev];rw[f8]) ⟨θ,fun _ _=>rfl,rfl,hh.look (by decide) (Nat.le_succ _)⟩
 ·have p:=q 11 _ 61 rfl rfl (by decide) (by decide)
  have p2:=q 12 _ 62 rfl rfl (by decide) (by decide)
  show sI Tryz.prog (cp fr 61) [cp fr 62] H nx _
  rw[p,p2]
  show cS Tryz.prog (kx n.kind) ([]++[.pt ab 1 0 0]++[]) H nx _
  refine(I0 (hh.m0 hD) (fun y hy=>Nat.lt_of_lt_of_le (hlt y hy) hlw) ht hl ha hpl hd).mono ?_
  rintro r' H' n' ⟨rfl,hA,hn,hk2⟩
  exact⟨θ,fun _ _=>rfl,rfl,Nat.le_trans hlw hn,fun y h1 h2 h3=>(hk2 y (Nat.lt_of_lt_of_le h1 hlw) h2 h3).trans (hh.same y h1 h2 h3),fun hx=>by simp at hx,fun _=>hA⟩
end
end
section
section
variable {u:bz} {m:MS} {t:Nat} {n:Node} {d:fb} {L:ML} {H:Hp} {nx:Nat}
abbrev S6:fb:=⟨0,0,0,0,0,0⟩
theorem A8 {fr0:Fr} {H0:Hp} {lo ab:Nat} {Q:QT} (hlt:∀y∈ab::L.all,y<lo) (ht:t<m.cA.length) (htl:t<m.at_.length) (hl:m.cA.length<=8) (ha:DP m t n) (hpl:m.cJ.length<=1048576) (hd:d.cG=0/\d.word=0/\d.put=0)
 (h0:cp fr0 0= .pt L.mr 1 0 0) (h1:cp fr0 1=i64 t) (h8:cp fr0 8= .pt ab 1 0 0) (hA:uh u m t n d ab L H0)
 (hK:∀f1 H1 n1,cp f1 8= .pt ab 1 0 0->cp f1 4=cp fr0 4->uh u { (m.act t n).1 with at_:=m.at_.set t (m.act t n).2.1 } t n (sO m t n d) ab L H1->lo<=n1->(∀y,y<lo->y≠ab->y∉L.all->bu H1 y=bu H0 y)->∃f',kH f1 f'/\Go (Q .normal f' H1 n1)):
 gL Tryz.prog [⟨zV,Y5⟩,⟨[oN 64 (.ia 1 none (.t 53) (.t 54))],[]⟩,⟨[⟨none,none, .st false 1 (.t 64) (.t 63)⟩],[]⟩] fr0 H0 lo Q:=by
 refine gL.W6 (W7 (u:=u) (d:=d) (H0:=H0) (lo:=lo) hlt ht hl ha hpl hd h0 h1 h8) ⟨(),⟨fun i g t' _ hL=>(by cases hL),fun t' _=>rfl⟩,⟨Nat.le_refl _,fun y _ _ _=>rfl,fun _=>hA,fun hx=>(by cases hx)⟩⟩ ?_
 intro D fr' H' n' hall ⟨_,hv,hh⟩
 have v:=fun(j:Nat) (g':iF) (t':Nat) (h1:zV[j]?=some g') (h2:g'.dst=some t') (h3:j<14)=>hv.val j g' t' h1 (hall j h3) h2
 have p53:cp fr' 53= .sl L.a m.at_.length:=v 3 _ 53 rfl rfl (by decide)
 have p54:cp fr' 54=i64 t:=v 4 _ 54 rfl rfl (by decide)
 have p63:cp fr' 63=i64 (m.act t n).2.1:=v 13 _ 63 rfl rfl (by decide)
 have p8:cp fr' 8= .pt ab 1 0 0:=(hv.gq 8 (by decide)).trans h8
 have p4:cp fr' 4=cp fr0 4:=hv.gq 4 (by decide)
 have hA2:=hh.m1 (hall 13 (by decide))
 have q1:(m.at_.map i64).length=m.at_.length:=by simp
 obtain⟨d3,r3⟩:=hA2.M.rA
 rw[wM (u:=u)] at r3
 have hlw:=hh.lw
 have hs:=hh.same
 have hout:=hA2.out
 have hsl2:(m.act t n).1.cA.length=m.cA.length:=by
  unfold MS.act
  repeat' split
  all_goals first|rfl|(simp only[MS.dw,List.length_set])
 have hmem:=hA2.M.mem
 show eG Tryz.prog n' fr' H' (.ia 1 none (.t 53) (.t 54)) (fun r H' nx'=>eG Tryz.prog nx' (gD fr' (some 64) r) H' (.st false 1 (.t 64) (.t 63)) (fun r2 H2 n2=>∃f',kH (gD (gD fr' (some 64) r) none r2) f'/\Go (Q .normal f' H2 n2)))
 refine eG.look (op:= .ia 1 none (.t 53) (.t 54)) (r:= .pt L.a m.at_.length t 0) (fun f as2 h=>by cases h) ?_ ?_
 ·simp only[cM,ev]
  rw[p53,p54]
  simp only[IP,r3]
  rw[if_pos ⟨q1,trivial,by omega,by omega⟩]
  simp
 refine eG.act (op:= .st false 1 (.t 64) (.t 63)) (r:= .any) (u:=(L.a, .row 3 1 d3 ((m.at_.map i64).set t (i64 (m.act t n).2.1)))) (fun f as2 h=>by cases h) ?_ ?_
 ·have e1:ev (gD fr' (some 64) (.pt L.a m.at_.length t 0)) (.t 64)= .pt L.a m.at_.length t 0:=rfl
  have e2:ev (gD fr' (some 64) (.pt L.a m.at_.length t 0)) (.t 63)=i64 (m.act t n).2.1:=p63
  simp only[cM]
  rw[e1,e2]
  simp only[r3]
  rw[if_pos q1,show(m.at_.map i64).getD t d3=i64 (m.at_.getD t 0) from dN i64 m.at_ t d3 htl]
  rfl
 refine hK _ _ _ p8 p4 ⟨?_, ?_,hout⟩ (by omega) (fun y y1 y2 y3=> ?_)
 ·have:=hA2.M.FA (H':=(L.a,some (.row 3 1 d3 ((m.at_.map i64).set t (i64 (m.act t n).2.1))))::H') (t:=t) (by rw[hsl2];exact ht) t (m.act t n).2.1 ⟨d3,by rw[wM (u:=u)];exact bx⟩ (fun y hy hne=>cC)
  rw[wM (u:=u)] at this
  exact this
 ·obtain⟨d4,r4⟩:=hA2.row
  have:=db hout (hmem L.a (by simp))
  exact⟨d4,bx⟩
 ·have:=db y3 (hmem L.a (by simp))
  exact Eq.trans cC (hs y y1 y2 y3)
theorem MM (hM:L.At u m H) (t:Int) {H1:Hp} (h1:∀y∈L.all,bu H1 y=bu H y):[.pt L.mr 1 0 0,i64 t].map (cu.dX H1 6)=[m.fz u,i64 t]:=by
 rw[List.map_cons,List.map_cons,List.map_nil,(hM.c8 h1).BK 2,dM _ (show cK 0 (i64 t) by simp[cK])]
theorem MA (hr:ca u) (h:eH u m) (hM:L.At u m H) (hlt:∀y∈L.all,y<nx) (t:Int) (hb:m.ja u t≠0):
 cS Tryz.prog 31 [.pt L.mr 1 0 0,i64 t] H nx (fun r H' k=>r= .dD [S6.av,i64 (m.ja u t)]/\nx<=k/\∀y,y<nx->bu H' y=bu H y):=by
 refine aI V2 rfl ?_
 have r0:=decide_eq_true hb
 refine cV ?_
 refine aR (wU u hr m h t) (MM hM t ?_) (by simp[cX,cK,oX]) trivial ?_
 ·exact fun y hy=>by have:=hlt y hy;exact cC
 refine cV ?_
 exact⟨⟨rfl,cZ,fun y hy=>cC⟩⟩
set_option maxHeartbeats 4000000 in
theorem vy (hu:u.Wf) (hr:ca u) (h:eH u m) (hM:L.At u m H) (hlt:∀y∈L.all,y<nx) (hpl:m.cJ.length<=1048576) (ht:t<u.bw.length) (hb:m.ja u t=0):
 cS Tryz.prog 31 [.pt L.mr 1 0 0,i64 t] H nx (fun r H' k=>r= .dD [(m.step u t).2.av,i64 0]/\L.At u (m.step u t).1 H'/\nx<=k/\∀y,y<nx->y∉L.all->bu H' y=bu H y):=by
 refine aI V2 rfl ?_
 obtain⟨hk9,_⟩:=jj h ht hb
 have hgl:=hr.oW
 have hao:=h.PO hu hr ht hk9
 have hsl:m.cA.length<=8:=by rw[h.sl];omega
 have hts:t<m.cA.length:=by rw[h.sl];exact ht
 have hal:=h.oM
 obtain⟨p0,p1⟩:=h.iC t ht
 have hap:=apart hM hts
 have hmem:=hM.mem
 have km:=hlt L.mr (by simp)
 have ka:=hlt L.a (hmem _ (by simp))
 have hma:L.mr≠L.a:=hap.ne.1
 obtain⟨d1,r1⟩:=hM.rM
 obtain⟨d2,r2⟩:=hM.rA
 have e0:=fun d=>ints_at (l:=m.at_) (k:=t) (by omega) d
 have e1:=fun d=>mi (l:=u.bw) ht d
 obtain⟨j,hj⟩:∃j:Nat,m.at_.getD t 0=j:=⟨(m.at_.getD t 0).toNat,by omega⟩
 rw[hj] at e0 p1
 have hnd:m.node u t=(u.gr t).nd j:=by unfold MS.node;rw[hj,Int.toNat_natCast]
 rw[show u.bw.getD t default=u.gr t from rfl] at e1
 have e2:=fun d=>gU (l:=(u.gr t).nodes) (i:=j) (by omega) d
 rw[show(u.gr t).nodes.getD j default=m.node u t by rw[hnd]] at e2
 have hat:m.at_.getD t 0=(j:Int):=hj
 have q1:(m.at_.map i64).length=m.at_.length:=by simp
 have q2:(u.bw.map cF.av).length=u.bw.length:=by simp
 have q3:((u.gr t).nodes.map Node.av).length=(u.gr t).nodes.length:=by simp
 have hst:m.step u t=({ (m.act t (m.node u t)).1 with at_:=m.at_.set t (m.act t (m.node u t)).2.1 },⟨t,j,(m.node u t).kind,(m.act t (m.node u t)).2.2.1,(m.act t (m.node u t)).2.2.2.1,(m.act t (m.node u t)).2.2.2.2⟩):=by
  unfold MS.step;rw[hj]
 rw[hst]
 generalize m.node u t=n at *
 have c9:(0:Int)=0:=rfl
 refine M7 ?_
 refine aR (wU u hr m h t) (MM hM t ?_) (by simp[cX,cK,oX]) trivial ?_
 ·exact fun y hy=>by have:=hlt y hy;exact cC
 rw[hb]
 refine M7 ?_
 refine A8 (u:=u) (m:=m) (t:=t) (n:=n) (d:=⟨t,j,n.kind,0,0,0⟩) (ab:=nx+30) (L:=L) ?_ hts (by omega) hsl hao hpl ⟨rfl,rfl,rfl⟩ rfl rfl rfl ⟨hM.c8 ?_,⟨_,bx⟩, ?_⟩ ?_
 ·intro y hy
  rcases List.mem_cons.1 hy with rfl|hy
  ·exact cZ
  ·have:=hlt y hy;exact cZ
 ·intro y hy
  have:=hlt y hy;exact cC
 ·intro hy
  have:=hlt _ hy;omega
 intro f1 H1 n1 p8 p4 hA hn hs
 refine⟨[(8, .pt (nx+30) 1 0 0),(4, .pt nx 1 0 0)],⟨p8,p4,trivial⟩, ?_⟩
 obtain⟨d5,r5⟩:=hA.row
 have r6:bu H1 nx=some (.row 53 6 (gC true [.int .i64 0, .int .i64 0, .int .u8 0, .int .i64 0, .int .i64 0, .int .i64 0]) [gC true [.int .i64 0, .int .i64 0, .int .u8 0, .int .i64 0, .int .i64 0, .int .i64 0]]):=(hs nx cZ (by omega) (fun hy=>by have:=hlt _ hy;omega)).trans bx
 refine cV ?_
 refine⟨⟨rfl,hA.M.c8 fun y hy=> ?_,cZ,fun y y1 y2=> ?_⟩⟩
 ·have:=hlt y hy;exact cC
 ·exact Eq.trans cC ((hs y cZ (by omega) y2).trans cC)
end
end
theorem AS {es:List AV} (hf:cX 0 es) (hl:es.length * 32<=140737488355328):cS Tryz.prog 84 [.im 3 .any es] [] 0 (fun r H _=>cu.dX H 6 r= .sc (.slice none 0 0)/\es=[]\/cu.dX H 6 r= .im 3 .any es):=by
 refine aI YU rfl ?_
 cases es with
 |nil=>
  refine cV ?_
  refine⟨uJ ?_,uJ ?_⟩
  ·refine cV ?_
   exact⟨.inl ⟨rfl,rfl⟩⟩
  ·refine cV ?_
   exact⟨.inr rfl⟩
 |cons x t=>
  have a0:(x::t).length * 32<=gp:=Nat.le_trans hl (by unfold gp;omega)
  simp only[List.length_cons] at hl
  refine cV ?_
  refine⟨.inr ((dI (e:=85) (sz:=3) (es:=x::t) bx (Nat.zero_add _).symm).trans ?_)⟩
  rw[cn _ hf]
theorem AT {es:List AV} (hf:cX 0 es) (hl:es.length * 96<=140737488355328):cS Tryz.prog 85 [.im 13 .any es] [] 0 (fun r H _=>cu.dX H 6 r= .sc (.slice none 0 0)/\es=[]\/cu.dX H 6 r= .im 13 .any es):=by
 refine aI YV rfl ?_
 cases es with
 |nil=>
  refine cV ?_
  refine⟨uJ ?_,uJ ?_⟩
  ·refine cV ?_
   exact⟨.inl ⟨rfl,rfl⟩⟩
  ·refine cV ?_
   exact⟨.inr rfl⟩
 |cons x t=>
  have a0:(x::t).length * 96<=gp:=Nat.le_trans hl (by unfold gp;omega)
  simp only[List.length_cons] at hl
  refine cV ?_
  refine⟨.inr ((dI (e:=65) (sz:=13) (es:=x::t) bx (Nat.zero_add _).symm).trans ?_)⟩
  rw[cn _ hf]
theorem pL (l:List Decl) (hl:l.length * 32<=140737488355328):Pure Tryz.prog 84 [cE l] (fun r=>r=cE l):=
 lq (by simp[cK,cD]) (AS ((cD _ _).2 fun _ _=>by simp[cK]) (by rw[List.length_map];exact hl))
theorem wX (l:List Node) (hl:l.length * 96<=140737488355328):Pure Tryz.prog 85 [j0 l] (fun r=>r=j0 l):=
 lq (by simp[cK,cD]) (AT ((cD _ _).2 fun _ _=>by simp[cK]) (by rw[List.length_map];exact hl))
theorem EN (u:bz) (hu:u.Wf) (hr:¬ca u):Pure Tryz.prog 48 [u.av] (fun r=>r= .dD [.sc (.pointer none),i64 60]):=by
 have c0:=lY u hu
 have hb:=oP hr
 generalize gz u=ck at *
 obtain⟨x,y,z⟩:=ck
 dsimp only at hb
 subst hb
 refine aD V4 rfl ?_
 refine cV ?_
 first|exact rfl|trivial
theorem JV {α:Type} (a b:α) (n i:Nat) (h:i<n):(List.replicate i a++List.replicate (n - i) b).set i a=List.replicate (i+1) a++List.replicate (n - (i+1)) b:=by
 rw[show n - i=(n - (i+1))+1 by omega,List.replicate_succ,List.set_append_right _ _ (by simp),List.length_replicate,Nat.sub_self,List.set_cons_zero,List.replicate_succ',List.append_assoc]
 rfl
theorem TP (u:bz) (G A S ME HO PR:Nat) (d:AV) (n1 n2 n3 n4 n5:Nat) (h1:A≠G) (h2:S≠G) (h3:ME≠G) (h4:HO≠G) (h5:PR≠G):
 ([.agg [cE u.shared,cE u.cB, .sl G u.bw.length, .sl A n1, .sl S n2, .sl ME n3, .sl HO n4, .sl PR n5]]:List AV).map (Go.cu.u0 [(G,some (.row 60 4 d (u.bw.map cF.av)))] 2)=[.agg [cE u.shared,cE u.cB,cW u.bw, .sl A n1, .sl S n2, .sl ME n3, .sl HO n4, .sl PR n5]]:=by
 simp[Go.cu.u0,N8,bu,h1,h2,h3,h4,h5,p6]
set_option maxHeartbeats 4000000 in
theorem pe (u:bz) (hu:u.Wf) (hr:ca u) (H0:Hp) (nx:Nat):cS Tryz.prog 48 [u.av] H0 nx (fun r H n=>∃L:ML,r= .dD [.pt L.mr 1 0 0,i64 0]/\L.At u (cr u) H/\(∀x∈L.all,nx<=x/\x<n)/\nx<=n/\∀y,y<nx->bu H y=bu H0 y):=by
 have c0:=lY u hu
 rw[jc.2 hr] at c0
 have hgl:=hr.oW
 have hw1:=hu.qq
 have hw2:=hu.tW
 have c1:=pL u.shared (by omega)
 have c2:=pL u.cB (by omega)
 refine aI V4 rfl ?_
 refine cV ?_
 simp only[List.length_map,Int.toNat_natCast]
 have hsz:∀t,t<u.bw.length->0<=(u.gr t).cA/\(u.gr t).cA<=4160:=fun t ht=>by
  have h1:=(hr.gr ht).cA
  have h2:=(hr.gr ht).locals
  omega
 have hnl:∀t,t<u.bw.length->(u.gr t).nodes.length * 96<=140737488355328:=fun t ht=>by
  have:=(hr.gr ht).len
  omega
 have hat0:(cr u).at_.map i64=List.replicate u.bw.length (i64 0):=by
  simp only[cr,List.map_map]
  rw[List.eq_replicate_iff]
  exact⟨by simp,fun b hb=>by obtain⟨g,_,rfl⟩:=List.mem_map.1 hb;rfl⟩
 have hnsl:(cr u).cA.length=u.bw.length:=by simp[cr]
 have hns:∀t,t<u.bw.length->(cr u).cA.getD t []=List.replicate (u.gr t).cA.toNat 0:=fun t ht=>by simp[cr,List.getD,bz.gr,ht]
 refine aS (fun σ:Nat×List Nat=>[(1, .pt nx 1 0 0),(7, .pt (nx+22) 1 0 0),(47,cW u.bw),(48,i64 u.bw.length),(49,i64 σ.1)])
  (fun σ H n=>σ.1<=u.bw.length/\nx+46<=n/\σ.2.length=σ.1/\σ.2.Nodup/\(∀x∈σ.2,nx+46<=x/\x<n)/\(∃d,bu H nx=some (.row 25 3 d [u.av]))/\(∃d,bu H (nx+22)=some (.row 114 8 d [.agg [cE u.shared,cE u.cB, .sl (nx+42) σ.1, .sl (nx+16) u.bw.length, .sl (nx+43) σ.1, .sl (nx+44) 0, .sl (nx+20) u.cB.length, .sl (nx+45) 0]]))/\(∃d,bu H (nx+16)=some (.row 3 1 d ((cr u).at_.map i64)))/\(∃d,bu H (nx+20)=some (.row 3 1 d (List.replicate u.cB.length (i64 0))))/\(∃d,bu H (nx+42)=some (.row 60 4 d ((u.bw.take σ.1).map cF.av)))/\(∃d,bu H (nx+43)=some (.row 93 1 d (dR σ.2 ((cr u).cA.take σ.1))))/\(∃d,bu H (nx+44)=some (.row 2 1 d []))/\(∃d,bu H (nx+45)=some (.row 155 2 d []))/\(∀t,t<σ.1->∃d,bu H (σ.2.getD t 0)=some (.row 2 1 d (((cr u).cA.getD t []).map i64)))/\∀y,y<nx->bu H y=bu H0 y) (fun σ=>u.bw.length - σ.1) (0,[])
  ⟨_,_,_,Rt.trans (Rt.wk (Wk.gH (b:=nx+22) (nx:=nx+42) (e:=60) (sz:=4) cZ (by omega) (te:=114) (tz:=8) (cs:=[cE u.shared,cE u.cB, .sc (.slice none 0 0), .sl (nx+16) u.bw.length, .sc (.slice none 0 0), .sc (.slice none 0 0), .sl (nx+20) u.cB.length, .sc (.slice none 0 0)]) (j:=2) bx (by show 2<8;omega) rfl)) (Rt.trans (Rt.wk (Wk.gH (b:=nx+22) (nx:=nx+43) (e:=93) (sz:=1) cZ (by omega) (te:=114) (tz:=8) (cs:=[cE u.shared,cE u.cB, .sl (nx+42) 0, .sl (nx+16) u.bw.length, .sc (.slice none 0 0), .sc (.slice none 0 0), .sl (nx+20) u.cB.length, .sc (.slice none 0 0)]) (j:=4) bx (by show 4<8;omega) rfl)) (Rt.trans (Rt.wk (Wk.gH (b:=nx+22) (nx:=nx+44) (e:=2) (sz:=1) cZ (by omega) (te:=114) (tz:=8) (cs:=[cE u.shared,cE u.cB, .sl (nx+42) 0, .sl (nx+16) u.bw.length, .sl (nx+43) 0, .sc (.slice none 0 0), .sl (nx+20) u.cB.length, .sc (.slice none 0 0)]) (j:=5) bx (by show 5<8;omega) rfl)) (Rt.wk (Wk.gH (b:=nx+22) (nx:=nx+45) (e:=155) (sz:=2) cZ (by omega) (te:=114) (tz:=8) (cs:=[cE u.shared,cE u.cB, .sl (nx+42) 0, .sl (nx+16) u.bw.length, .sl (nx+43) 0, .sl (nx+44) 0, .sl (nx+20) u.cB.length, .sc (.slice none 0 0)]) (j:=7) bx (by show 7<8;omega) rfl)))),
   cH,Nat.zero_le _,cZ,rfl,List.nodup_nil,fun x hx=>by simp at hx,⟨_,bx⟩,⟨_,bx⟩,⟨_,by rw[hat0];exact bx⟩,⟨_,bx⟩,⟨_,bx⟩,⟨_,bx⟩,⟨_,bx⟩,⟨_,bx⟩,fun t ht=>absurd ht (Nat.not_lt_zero _),fun y hy=>cC⟩ ?_
 rintro⟨t,ids⟩ H n ⟨ht,hn,hil,hnd,hin,⟨d0,r0'⟩,⟨d1,r1'⟩,⟨d2,r2'⟩,⟨d3,r3'⟩,⟨d4,r4⟩,⟨d5,r5⟩,⟨d6,r6⟩,⟨d7,r7⟩,hls,hkp⟩
 dsimp only at ht hil hnd hin r0' r1' r4 r5 hls ⊢
 have hgk:((u.bw.take t).map cF.av).length=t:=by simp;omega
 have htk:((cr u).cA.take t).length=t:=by rw[List.length_take];omega
 have hrl:(dR ids ((cr u).cA.take t)).length=t:=by unfold dR;rw[List.length_map,List.length_zip,htk,hil];omega
 by_cases htl:t<u.bw.length
 ·have e0:=fun d=>mi (l:=u.bw) htl d
  rw[show u.bw.getD t default=u.gr t from rfl] at e0
  have a0:(u.bw.map cF.av).length=u.bw.length:=by simp
  have c3:=wX (u.gr t).nodes (hnl t htl)
  obtain⟨s1,s2⟩:=hsz t htl
  have hnx1:(u.bw.take (t+1)).map cF.av=(u.bw.take t).map cF.av++[(u.gr t).av]:=by
   rw[List.take_succ_eq_append_getElem htl,List.map_append,show u.gr t=u.bw[t] by simp[bz.gr,List.getD,htl]];rfl
  have hnx2:dR (ids++[n+29]) ((cr u).cA.take (t+1))=dR ids ((cr u).cA.take t)++[.sl (n+29) (u.gr t).cA.toNat]:=by
   have e:=hns t htl
   rw[List.take_succ_eq_append_getElem (by omega),nq (by rw[hil,htk]),show(cr u).cA[t]'(by omega)=List.replicate (u.gr t).cA.toNat 0 by rw[<-e];simp[List.getD,show t<(cr u).cA.length by omega]]
   simp
  have hnx3:((cr u).cA.getD t []).map i64=List.replicate (u.gr t).cA.toNat (i64 0):=by rw[hns t htl];simp
  refine cV ?_
  refine⟨(t+1,ids++[n+29]),by dsimp only;omega,_,_,_,Rt.refl _ _ _,cH,by dsimp only;omega,cZ,by simp[hil], ?_, ?_,⟨_,bx⟩,⟨_,bx⟩,⟨_,bx⟩,⟨_,bx⟩,⟨_,by dsimp only;rw[hnx1];exact bx⟩,⟨_,by dsimp only;rw[hnx2];exact bx⟩,⟨_,bx⟩,⟨_,bx⟩, ?_,fun y hy=>Eq.trans cC (hkp y hy)⟩
  ·refine List.nodup_append.2 ⟨hnd,by simp,fun a ha b hb=> ?_⟩
   simp only[List.mem_cons,List.not_mem_nil,or_false] at hb
   have:=hin _ ha;omega
  ·intro x hx
   rcases List.mem_append.1 hx with hx|hx
   ·have:=hin _ hx;exact⟨this.1,Nat.lt_of_lt_of_le this.2 cZ⟩
   ·simp only[List.mem_cons,List.not_mem_nil,or_false] at hx
    subst hx;exact⟨by omega,cZ⟩
  ·intro q hq
   have hq:q<t+1:=hq
   by_cases e:q=t
   ·subst e
    have e2:(ids++[n+29]).getD q 0=n+29:=by rw[List.getD,List.getElem?_append_right (by omega),hil,Nat.sub_self];rfl
    dsimp only
    rw[e2,hnx3];exact⟨_,bx⟩
   ·obtain⟨d,hd⟩:=hls q (by omega)
    have e2:(ids++[n+29]).getD q 0=ids.getD q 0:=by simp[List.getD,List.getElem?_append,show q<ids.length by omega]
    have:=hin _ (eA (l:=ids) (q:=q) (by omega))
    dsimp only
    rw[e2];exact⟨d,Eq.trans cC hd⟩
 ·have:t=u.bw.length:=by omega
  subst this
  rw[List.take_length] at r4
  rw[List.take_of_length_le (by omega)] at r5
  refine cV ?_
  rw[List.length_map]
  have hM:=Wk.u0 (nx:=n+1+1+1+1+1) (H:=H) (cb:=nx+22) [(nx+42,some (.row 60 4 d4 (u.bw.map cF.av)))] 2 .any r1' (fun x q hx=>by
   by_cases hb:x=nx+42
   ·subst hb;rw[cY] at hx;rw[<-hx];exact r4
   ·rw[cN hb] at hx;cases hx)
  rw[TP u _ _ _ _ _ _ _ _ _ _ _ _ (by omega) (by omega) (by omega) (by omega) (by omega)] at hM
  refine aS (fun j:Nat=>[(7, .pt (nx+22) 1 0 0),(83,cE u.shared),(84,i64 u.shared.length),(85,i64 j)])
   (fun j H n=>j<=u.shared.length/\nx+46<=n/\(∀x∈ids,nx+46<=x/\x<n)/\(∃d,bu H (nx+22)=some (.row 114 8 d [.agg [cE u.shared,cE u.cB,cW u.bw, .sl (nx+16) u.bw.length, .sl (nx+43) u.bw.length, .sl (nx+44) j, .sl (nx+20) u.cB.length, .sl (nx+45) 0]]))/\(∃d,bu H (nx+16)=some (.row 3 1 d ((cr u).at_.map i64)))/\(∃d,bu H (nx+20)=some (.row 3 1 d (List.replicate u.cB.length (i64 0))))/\(∃d,bu H (nx+43)=some (.row 93 1 d (dR ids (cr u).cA)))/\(∃d,bu H (nx+44)=some (.row 2 1 d (((cr u).mem.take j).map i64)))/\(∃d,bu H (nx+45)=some (.row 155 2 d []))/\(∀t,t<u.bw.length->∃d,bu H (ids.getD t 0)=some (.row 2 1 d (((cr u).cA.getD t []).map i64)))/\∀y,y<nx->bu H y=bu H0 y) (fun j=>u.shared.length - j) 0
   ⟨_,_,_,Rt.wk hM,cH,Nat.zero_le _,cZ, ?_,⟨_,bx⟩,⟨_,bx⟩,⟨_,bx⟩,⟨_,bx⟩,⟨_,bx⟩,⟨_,bx⟩, ?_,fun y hy=>Eq.trans cC (hkp y hy)⟩ ?_
  ·exact fun x hx=>⟨(hin x hx).1,by have:=(hin x hx).2;exact cZ⟩
  ·intro q hq
   obtain⟨d,hd⟩:=hls q hq
   have:=hin _ (eA (l:=ids) (q:=q) (by omega))
   exact⟨d,Eq.trans cC hd⟩
  clear r0' r1' r2' r3' r4 r5 r6 r7 hls hkp hM hin hn
  rintro j H n ⟨hj,hn,hin,⟨d1,r1'⟩,⟨d2,r2'⟩,⟨d3,r3'⟩,⟨d5,r5⟩,⟨d6,r6⟩,⟨d7,r7⟩,hls,hkp⟩
  have hml:(cr u).mem.length=u.shared.length:=by simp[cr]
  have hmk:(((cr u).mem.take j).map i64).length=j:=by simp;omega
  by_cases hjl:j<u.shared.length
  ·have e0:∀d,(u.shared.map Decl.av).getD ((j:Int)).toNat d=(u.shared.getD j default).av:=fun d=>by rw[Int.toNat_natCast];exact dN Decl.av u.shared j d hjl
   have a0:(u.shared.map Decl.av).length=u.shared.length:=by simp
   have hnx1:((cr u).mem.take (j+1)).map i64=((cr u).mem.take j).map i64++[i64 (u.shared.getD j default).word]:=by
    rw[List.take_succ_eq_append_getElem (by omega),List.map_append]
    simp[cr,List.getD,hjl]
   refine cV ?_
   refine⟨j+1,by omega,_,_,_,Rt.refl _ _ _,cH,by omega,cZ,fun x hx=>⟨(hin x hx).1,Nat.lt_of_lt_of_le (hin x hx).2 cZ⟩,⟨_,bx⟩,⟨_,bx⟩,⟨_,bx⟩,⟨_,bx⟩,⟨_,by rw[hnx1];exact bx⟩,⟨_,bx⟩, ?_,fun y hy=>Eq.trans cC (hkp y hy)⟩
   intro q hq
   obtain⟨d,hd⟩:=hls q hq
   have:=hin _ (eA (l:=ids) (q:=q) (by omega))
   exact⟨d,Eq.trans cC hd⟩
  ·have:j=u.shared.length:=by omega
   subst this
   rw[List.take_of_length_le (by omega)] at r6
   refine cV ?_
   refine aN (fun i:Nat=>[(7, .pt (nx+22) 1 0 0),(105,i64 u.cB.length),(106,i64 i)])
    (fun i H n=>i<=u.cB.length/\nx+46<=n/\(∀x∈ids,nx+46<=x/\x<n)/\(∃d,bu H (nx+22)=some (.row 114 8 d [.agg [cE u.shared,cE u.cB,cW u.bw, .sl (nx+16) u.bw.length, .sl (nx+43) u.bw.length, .sl (nx+44) u.shared.length, .sl (nx+20) u.cB.length, .sl (nx+45) 0]]))/\(∃d,bu H (nx+16)=some (.row 3 1 d ((cr u).at_.map i64)))/\(∃d,bu H (nx+20)=some (.row 3 1 d (List.replicate i (i64 (-1))++List.replicate (u.cB.length - i) (i64 0))))/\(∃d,bu H (nx+43)=some (.row 93 1 d (dR ids (cr u).cA)))/\(∃d,bu H (nx+44)=some (.row 2 1 d ((cr u).mem.map i64)))/\(∃d,bu H (nx+45)=some (.row 155 2 d []))/\(∀t,t<u.bw.length->∃d,bu H (ids.getD t 0)=some (.row 2 1 d (((cr u).cA.getD t []).map i64)))/\∀y,y<nx->bu H y=bu H0 y) (fun i=>u.cB.length - i) 0 cH
    ⟨Nat.zero_le _,cZ,fun x hx=>⟨(hin x hx).1,Nat.lt_of_lt_of_le (hin x hx).2 cZ⟩,⟨_,bx⟩,⟨_,bx⟩,⟨_,bx⟩,⟨_,bx⟩,⟨_,bx⟩,⟨_,bx⟩, ?_,fun y hy=>Eq.trans cC (hkp y hy)⟩ ?_
   ·intro q hq
    obtain⟨d,hd⟩:=hls q hq
    have:=hin _ (eA (l:=ids) (q:=q) (by omega))
    exact⟨d,Eq.trans cC hd⟩
   clear r1' r2' r3' r5 r6 r7 hls hkp hin hn
   rintro i H n ⟨hi,hn,hin,⟨d1,r1'⟩,⟨d2,r2'⟩,⟨d3,r3'⟩,⟨d5,r5⟩,⟨d6,r6⟩,⟨d7,r7⟩,hls,hkp⟩
   have hrl2:(List.replicate i (i64 (-1))++List.replicate (u.cB.length - i) (i64 0)).length=u.cB.length:=by simp;omega
   by_cases hil2:i<u.cB.length
   ·have e1:∀d,(List.replicate i (i64 (-1))++List.replicate (u.cB.length - i) (i64 0)).getD ((i:Int)).toNat d=i64 0:=fun d=>by
     rw[Int.toNat_natCast]
     simp[List.getD,List.getElem?_append,List.getElem?_replicate,show 0<u.cB.length - i by omega]
    refine cV ?_
    refine⟨i+1,by omega,cH,by omega,cZ,fun x hx=>⟨(hin x hx).1,Nat.lt_of_lt_of_le (hin x hx).2 cZ⟩,⟨_,bx⟩,⟨_,bx⟩,⟨_,by rw[<-JV _ _ _ _ hil2];exact bx⟩,⟨_,bx⟩,⟨_,bx⟩,⟨_,bx⟩, ?_,fun y hy=>Eq.trans cC (hkp y hy)⟩
    intro q hq
    obtain⟨d,hd⟩:=hls q hq
    have:=hin _ (eA (l:=ids) (q:=q) (by omega))
    exact⟨d,Eq.trans cC hd⟩
   ·have:i=u.cB.length:=by omega
    subst this
    rw[Nat.sub_self,List.replicate_zero,List.append_nil] at r3'
    have hho:(cr u).hold.map i64=List.replicate u.cB.length (i64 (-1)):=by
     simp only[cr,List.map_map]
     rw[List.eq_replicate_iff]
     exact⟨by simp,fun b hb=>by obtain⟨g,_,rfl⟩:=List.mem_map.1 hb;rfl⟩
    refine cV ?_
    refine⟨⟨⟨nx+22,nx+16,nx+43,nx+44,nx+20,nx+45,ids⟩,rfl,⟨⟨d1, ?_⟩,⟨_,bx⟩,⟨_,bx⟩,fun t ht=> ?_,⟨_,bx⟩,⟨_,by rw[hho];exact bx⟩,⟨_,bx⟩,by rw[hnsl];exact hil, ?_⟩, ?_,cZ,fun y hy=>Eq.trans cC (hkp y hy)⟩⟩
    ·rw[show(cr u).rows u (nx+16) (nx+43) (nx+44) (nx+20) (nx+45)= .agg [cE u.shared,cE u.cB,cW u.bw, .sl (nx+16) u.bw.length, .sl (nx+43) u.bw.length, .sl (nx+44) u.shared.length, .sl (nx+20) u.cB.length, .sl (nx+45) 0] by simp[MS.rows,cr]]
     exact bx
    ·rw[hnsl] at ht
     obtain⟨d,hd⟩:=hls t ht
     have:=hin _ (eA (l:=ids) (q:=t) (by omega))
     exact⟨d,Eq.trans cC hd⟩
    ·have hno:∀k,k<nx+46->k∉ids:=fun k hk h=>by have:=hin _ h;omega
     simp only[List.nodup_cons,List.mem_cons,not_or]
     exact⟨⟨by omega,by omega,by omega,by omega,by omega,hno _ (by omega)⟩,⟨by omega,by omega,by omega,by omega,hno _ (by omega)⟩,⟨by omega,by omega,by omega,hno _ (by omega)⟩,⟨by omega,by omega,hno _ (by omega)⟩,⟨by omega,hno _ (by omega)⟩,hno _ (by omega),hnd⟩
    ·intro x hx
     simp only[List.mem_cons] at hx
     rcases hx with rfl|rfl|rfl|rfl|rfl|rfl|hx
     all_goals first
      |exact⟨by omega,cZ⟩
      |(have:=hin _ hx;exact⟨by omega,cZ⟩)
end Go.Proofs.YtjopoheligmmoaaGreatDoor
