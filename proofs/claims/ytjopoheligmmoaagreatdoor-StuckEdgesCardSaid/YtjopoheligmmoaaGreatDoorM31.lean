import Derived.Test.YtjopoheligmmoaaGreatDoorM30
namespace Go.Proofs.YtjopoheligmmoaaGreatDoor
open Go Go.dA Go.Proofs
set_option linter.unusedSimpArgs false
set_option linter.unusedVariables false
set_option maxRecDepth 8000
set_option maxHeartbeats 2000000
theorem I3 {u:cF} {m:MS} {t:Nat} {n:Node} {d:iK} {ab:Nat} {L:ML} {H:Hp} {nx:Nat} (h:vW u m t n d ab L H) (hlt:∀y∈ab::L.all,y<nx) (ht:t<m.cH.length) (hl:m.cH.length<=8) (hth:0<=n.cV/\n.cV<m.hold.length):
 cT Tryz.prog 110 [.pt ab 1 0 0] H nx (fun r H' k=>r=i64 n.next/\vC u { m with hold:=m.hold.set n.cV.toNat t } t n { d with cV:=n.cV } ab L H nx H' k):=by
 have hfr:∀(v:jd) (H1:Hp),(∀y∈ab::L.all,cC H1 y=cC H y)->[.pt ab 1 0 0,v.av].map (dA.df H1 6)=[oj u m t n d,v.av]:=fun v H1 h1=>by
  rw[List.map_cons,List.map_cons,List.map_nil,(h.cd h1).df,dX _ (show cP 0 v.av by simp[cP])]
 have h0:=h
 obtain⟨hM,⟨dd,ra⟩,hout⟩:=h
 obtain⟨⟨a1,a2,a3,a4,a5,b1,b2,b3,b4,c1,c2,c3,e1',e2',f1⟩,n1,n2,n3,n4,n5,n6⟩:=apart hM ht
 have hmem:=hM.mem
 have k0:=hlt ab (by simp)
 have km:=hlt L.mr (by simp)
 have ke:=hlt L.me (List.mem_cons_of_mem _ (hmem _ (by simp)))
 have kh:=hlt L.ho (List.mem_cons_of_mem _ (hmem _ (by simp)))
 have kp:=hlt L.pr (List.mem_cons_of_mem _ (hmem _ (by simp)))
 have o1:=di hout (List.mem_cons_self (a:=L.mr))
 have o2:=di hout (hmem L.me (by simp))
 have o3:=di hout (hmem L.ho (by simp))
 have o4:=di hout (hmem L.pr (by simp))
 clear a1 a2 a4 b1 b2 b3 b4 c1 c2 c3 e1' e2' f1 n1 n2 n3 n4 n5 n6
 obtain⟨d1,r1⟩:=hM.rM
 obtain⟨d3,r4⟩:=hM.rE
 obtain⟨d5,r5⟩:=hM.rH
 obtain⟨d6,r6⟩:=hM.rP
 have q1:(m.mem.map i64).length=m.mem.length:=by simp
 have q2:(m.hold.map i64).length=m.hold.length:=by simp
 have q3:(m.cW.map de.av).length=m.cW.length:=by simp
 refine aM WH rfl ?_
 refine ca ?_
 exact⟨⟨rfl,⟨hM.M7 ht _ _ ⟨_,cE⟩ fun y hy hne=>by have:=di hout hy;exact cM,⟨_,cE⟩,hout⟩,cZ,fun y y1 y2 y3=>by have y4:=di y3 (hmem L.ho (by simp));exact cM⟩⟩
theorem BK {u:cF} {m:MS} {t:Nat} {n:Node} {d:iK} {ab:Nat} {L:ML} {H:Hp} {nx:Nat} (h:vW u m t n d ab L H) (hlt:∀y∈ab::L.all,y<nx) (ht:t<m.cH.length) (hl:m.cH.length<=8) (hth:0<=n.cV/\n.cV<m.hold.length):
 cT Tryz.prog 111 [.pt ab 1 0 0] H nx (fun r H' k=>r=i64 n.next/\vC u { m with hold:=m.hold.set n.cV.toNat (-1) } t n { d with cV:=n.cV } ab L H nx H' k):=by
 have hfr:∀(v:jd) (H1:Hp),(∀y∈ab::L.all,cC H1 y=cC H y)->[.pt ab 1 0 0,v.av].map (dA.df H1 6)=[oj u m t n d,v.av]:=fun v H1 h1=>by
  rw[List.map_cons,List.map_cons,List.map_nil,(h.cd h1).df,dX _ (show cP 0 v.av by simp[cP])]
 have h0:=h
 obtain⟨hM,⟨dd,ra⟩,hout⟩:=h
 obtain⟨⟨a1,a2,a3,a4,a5,b1,b2,b3,b4,c1,c2,c3,e1',e2',f1⟩,n1,n2,n3,n4,n5,n6⟩:=apart hM ht
 have hmem:=hM.mem
 have k0:=hlt ab (by simp)
 have km:=hlt L.mr (by simp)
 have ke:=hlt L.me (List.mem_cons_of_mem _ (hmem _ (by simp)))
 have kh:=hlt L.ho (List.mem_cons_of_mem _ (hmem _ (by simp)))
 have kp:=hlt L.pr (List.mem_cons_of_mem _ (hmem _ (by simp)))
 have o1:=di hout (List.mem_cons_self (a:=L.mr))
 have o2:=di hout (hmem L.me (by simp))
 have o3:=di hout (hmem L.ho (by simp))
 have o4:=di hout (hmem L.pr (by simp))
 clear a1 a2 a4 b1 b2 b3 b4 c1 c2 c3 e1' e2' f1 n1 n2 n3 n4 n5 n6
 obtain⟨d1,r1⟩:=hM.rM
 obtain⟨d3,r4⟩:=hM.rE
 obtain⟨d5,r5⟩:=hM.rH
 obtain⟨d6,r6⟩:=hM.rP
 have q1:(m.mem.map i64).length=m.mem.length:=by simp
 have q2:(m.hold.map i64).length=m.hold.length:=by simp
 have q3:(m.cW.map de.av).length=m.cW.length:=by simp
 refine aM WI rfl ?_
 refine ca ?_
 exact⟨⟨rfl,⟨hM.M7 ht _ _ ⟨_,cE⟩ fun y hy hne=>by have:=di hout hy;exact cM,⟨_,cE⟩,hout⟩,cZ,fun y y1 y2 y3=>by have y4:=di y3 (hmem L.ho (by simp));exact cM⟩⟩
theorem yo {u:cF} {m:MS} {t:Nat} {n:Node} {d:iK} {ab:Nat} {L:ML} {H:Hp} {nx:Nat} (h:vW u m t n d ab L H) (hlt:∀y∈ab::L.all,y<nx) (ht:t<m.cH.length) (hl:m.cH.length<=8) (hva:oi m t n.a):
 cT Tryz.prog 113 [.pt ab 1 0 0] H nx (fun r H' k=>r=i64 (if m.val t n.a=0 then n.sY else n.next)/\vC u m t n { d with word:=m.val t n.a } ab L H nx H' k):=by
 have hfr:∀(v:jd) (H1:Hp),(∀y∈ab::L.all,cC H1 y=cC H y)->[.pt ab 1 0 0,v.av].map (dA.df H1 6)=[oj u m t n d,v.av]:=fun v H1 h1=>by
  rw[List.map_cons,List.map_cons,List.map_nil,(h.cd h1).df,dX _ (show cP 0 v.av by simp[cP])]
 have h0:=h
 obtain⟨hM,⟨dd,ra⟩,hout⟩:=h
 obtain⟨⟨a1,a2,a3,a4,a5,b1,b2,b3,b4,c1,c2,c3,e1',e2',f1⟩,n1,n2,n3,n4,n5,n6⟩:=apart hM ht
 have hmem:=hM.mem
 have k0:=hlt ab (by simp)
 have km:=hlt L.mr (by simp)
 have ke:=hlt L.me (List.mem_cons_of_mem _ (hmem _ (by simp)))
 have kh:=hlt L.ho (List.mem_cons_of_mem _ (hmem _ (by simp)))
 have kp:=hlt L.pr (List.mem_cons_of_mem _ (hmem _ (by simp)))
 have o1:=di hout (List.mem_cons_self (a:=L.mr))
 have o2:=di hout (hmem L.me (by simp))
 have o3:=di hout (hmem L.ho (by simp))
 have o4:=di hout (hmem L.pr (by simp))
 clear a1 a2 a4 b1 b2 b3 b4 c1 c2 c3 e1' e2' f1 n1 n2 n3 n4 n5 n6
 obtain⟨d1,r1⟩:=hM.rM
 obtain⟨d3,r4⟩:=hM.rE
 obtain⟨d5,r5⟩:=hM.rH
 obtain⟨d6,r6⟩:=hM.rP
 have q1:(m.mem.map i64).length=m.mem.length:=by simp
 have q2:(m.hold.map i64).length=m.hold.length:=by simp
 have q3:(m.cW.map de.av).length=m.cW.length:=by simp
 by_cases hz:m.val t n.a=0
 ·rw[if_pos hz]
  refine aM R8 rfl ?_
  refine ca ?_
  refine aW (js u m n d n.a ht hl hva) (hfr n.a _ ?_) (by simp[cg,cP]) trivial ?_
  ·exact fun y hy=>rfl
  refine ca ?_
  exact⟨⟨rfl,⟨hM.cd fun y hy=>by have:=di hout hy;exact cM,⟨_,cE⟩,hout⟩,cZ,fun y y1 y2 y3=>cM⟩⟩
 ·rw[if_neg hz]
  refine aM R8 rfl ?_
  refine ca ?_
  refine aW (js u m n d n.a ht hl hva) (hfr n.a _ ?_) (by simp[cg,cP]) trivial ?_
  ·exact fun y hy=>rfl
  refine ca ?_
  exact⟨⟨rfl,⟨hM.cd fun y hy=>by have:=di hout hy;exact cM,⟨_,cE⟩,hout⟩,cZ,fun y y1 y2 y3=>cM⟩⟩
theorem I2 {u:cF} {m:MS} {t:Nat} {n:Node} {d:iK} {ab:Nat} {L:ML} {H:Hp} {nx:Nat} (h:vW u m t n d ab L H) (hlt:∀y∈ab::L.all,y<nx) (ht:t<m.cH.length) (hl:m.cH.length<=8) (hs:0<=n.slot/\n.slot<(m.cH.getD t []).length) (hth:0<=n.cV/\n.cV<m.mem.length):
 cT Tryz.prog 107 [.pt ab 1 0 0] H nx (fun r H' k=>r=i64 n.next/\vC u (m.gC t n.slot (m.mem.getD n.cV.toNat 0)) t n { d with cV:=n.cV,word:=m.mem.getD n.cV.toNat 0 } ab L H nx H' k):=by
 have hfr:∀(v:jd) (H1:Hp),(∀y∈ab::L.all,cC H1 y=cC H y)->[.pt ab 1 0 0,v.av].map (dA.df H1 6)=[oj u m t n d,v.av]:=fun v H1 h1=>by
  rw[List.map_cons,List.map_cons,List.map_nil,(h.cd h1).df,dX _ (show cP 0 v.av by simp[cP])]
 have h0:=h
 obtain⟨hM,⟨dd,ra⟩,hout⟩:=h
 obtain⟨⟨a1,a2,a3,a4,a5,b1,b2,b3,b4,c1,c2,c3,e1',e2',f1⟩,n1,n2,n3,n4,n5,n6⟩:=apart hM ht
 have hmem:=hM.mem
 have k0:=hlt ab (by simp)
 have km:=hlt L.mr (by simp)
 have ke:=hlt L.me (List.mem_cons_of_mem _ (hmem _ (by simp)))
 have kh:=hlt L.ho (List.mem_cons_of_mem _ (hmem _ (by simp)))
 have kp:=hlt L.pr (List.mem_cons_of_mem _ (hmem _ (by simp)))
 have o1:=di hout (List.mem_cons_self (a:=L.mr))
 have o2:=di hout (hmem L.me (by simp))
 have o3:=di hout (hmem L.ho (by simp))
 have o4:=di hout (hmem L.pr (by simp))
 clear a1 a2 a4 b1 b2 b3 b4 c1 c2 c3 e1' e2' f1 n1 n2 n3 n4 n5 n6
 obtain⟨d1,r1⟩:=hM.rM
 obtain⟨d3,r4⟩:=hM.rE
 obtain⟨d5,r5⟩:=hM.rH
 obtain⟨d6,r6⟩:=hM.rP
 have q1:(m.mem.map i64).length=m.mem.length:=by simp
 have q2:(m.hold.map i64).length=m.hold.length:=by simp
 have q3:(m.cW.map de.av).length=m.cW.length:=by simp
 have e0:=fun d=>qR (l:=m.mem) (k:=n.cV) (by omega) d
 refine aM WA rfl ?_
 refine ca ?_
 refine aJ (l5 (u:=u) (t:=t) (n:=n) (d:={ d with cV:=n.cV }) (L:=L) (m:=m) (ab:=ab) ?_ ?_ ht hl hs _) ?_
 ·exact⟨hM.cd fun y hy=>by have:=di hout hy;exact cM,⟨_,cE⟩,hout⟩
 ·exact fun y hy=>Nat.lt_of_lt_of_le (hlt y hy) cZ
 rintro _ H2 n2 ⟨hA,hn2,hk2⟩
 obtain⟨dd2,ra2⟩:=hA.row
 refine ca ?_
 exact⟨⟨rfl,hA.cd fun y hy=>cM,cZ,fun y y1 y2 y3=>Eq.trans cM ((hk2 y (Nat.lt_of_lt_of_le y1 cZ) y2 y3).trans cM)⟩⟩
theorem EZ {u:cF} {m:MS} {t:Nat} {n:Node} {d:iK} {ab:Nat} {L:ML} {H:Hp} {nx:Nat} (h:vW u m t n d ab L H) (hlt:∀y∈ab::L.all,y<nx) (ht:t<m.cH.length) (hl:m.cH.length<=8) (hva:oi m t n.a) (hth:0<=n.cV/\n.cV<m.mem.length):
 cT Tryz.prog 108 [.pt ab 1 0 0] H nx (fun r H' k=>r=i64 n.next/\vC u { m with mem:=m.mem.set n.cV.toNat (m.val t n.a) } t n { d with cV:=n.cV,word:=m.val t n.a } ab L H nx H' k):=by
 have hfr:∀(v:jd) (H1:Hp),(∀y∈ab::L.all,cC H1 y=cC H y)->[.pt ab 1 0 0,v.av].map (dA.df H1 6)=[oj u m t n d,v.av]:=fun v H1 h1=>by
  rw[List.map_cons,List.map_cons,List.map_nil,(h.cd h1).df,dX _ (show cP 0 v.av by simp[cP])]
 have h0:=h
 obtain⟨hM,⟨dd,ra⟩,hout⟩:=h
 obtain⟨⟨a1,a2,a3,a4,a5,b1,b2,b3,b4,c1,c2,c3,e1',e2',f1⟩,n1,n2,n3,n4,n5,n6⟩:=apart hM ht
 have hmem:=hM.mem
 have k0:=hlt ab (by simp)
 have km:=hlt L.mr (by simp)
 have ke:=hlt L.me (List.mem_cons_of_mem _ (hmem _ (by simp)))
 have kh:=hlt L.ho (List.mem_cons_of_mem _ (hmem _ (by simp)))
 have kp:=hlt L.pr (List.mem_cons_of_mem _ (hmem _ (by simp)))
 have o1:=di hout (List.mem_cons_self (a:=L.mr))
 have o2:=di hout (hmem L.me (by simp))
 have o3:=di hout (hmem L.ho (by simp))
 have o4:=di hout (hmem L.pr (by simp))
 clear a1 a2 a4 b1 b2 b3 b4 c1 c2 c3 e1' e2' f1 n1 n2 n3 n4 n5 n6
 obtain⟨d1,r1⟩:=hM.rM
 obtain⟨d3,r4⟩:=hM.rE
 obtain⟨d5,r5⟩:=hM.rH
 obtain⟨d6,r6⟩:=hM.rP
 have q1:(m.mem.map i64).length=m.mem.length:=by simp
 have q2:(m.hold.map i64).length=m.hold.length:=by simp
 have q3:(m.cW.map de.av).length=m.cW.length:=by simp
 refine aM WB rfl ?_
 refine ca ?_
 refine ah (ab::L.all) (js u m n d n.a ht hl hva) (fun H1 h1=>hfr n.a H1 h1) (by simp[cg,cP]) trivial ?_
 refine Eq.mpr (uX (ab::L.all) _) (ur ?_)
 refine ca ?_
 exact⟨⟨rfl,⟨hM.gJ ht _ _ ⟨_,cE⟩ fun y hy hne=>by have:=di hout hy;exact cM,⟨_,cE⟩,hout⟩,cZ,fun y y1 y2 y3=>by have y4:=di y3 (hmem L.me (by simp));exact cM⟩⟩
theorem DW {u:cF} {m:MS} {t:Nat} {n:Node} {d:iK} {ab:Nat} {L:ML} {H:Hp} {nx:Nat} (h:vW u m t n d ab L H) (hlt:∀y∈ab::L.all,y<nx) (ht:t<m.cH.length) (hl:m.cH.length<=8) (hva:oi m t n.a) (hpl:m.cW.length<=1048576):
 cT Tryz.prog 112 [.pt ab 1 0 0] H nx (fun r H' k=>r=i64 n.next/\vC u { m with cW:=m.cW++[⟨t,m.val t n.a⟩] } t n { d with word:=m.val t n.a } ab L H nx H' k):=by
 have hfr:∀(v:jd) (H1:Hp),(∀y∈ab::L.all,cC H1 y=cC H y)->[.pt ab 1 0 0,v.av].map (dA.df H1 6)=[oj u m t n d,v.av]:=fun v H1 h1=>by
  rw[List.map_cons,List.map_cons,List.map_nil,(h.cd h1).df,dX _ (show cP 0 v.av by simp[cP])]
 have h0:=h
 obtain⟨hM,⟨dd,ra⟩,hout⟩:=h
 obtain⟨⟨a1,a2,a3,a4,a5,b1,b2,b3,b4,c1,c2,c3,e1',e2',f1⟩,n1,n2,n3,n4,n5,n6⟩:=apart hM ht
 have hmem:=hM.mem
 have k0:=hlt ab (by simp)
 have km:=hlt L.mr (by simp)
 have ke:=hlt L.me (List.mem_cons_of_mem _ (hmem _ (by simp)))
 have kh:=hlt L.ho (List.mem_cons_of_mem _ (hmem _ (by simp)))
 have kp:=hlt L.pr (List.mem_cons_of_mem _ (hmem _ (by simp)))
 have o1:=di hout (List.mem_cons_self (a:=L.mr))
 have o2:=di hout (hmem L.me (by simp))
 have o3:=di hout (hmem L.ho (by simp))
 have o4:=di hout (hmem L.pr (by simp))
 clear a1 a2 a4 b1 b2 b3 b4 c1 c2 c3 e1' e2' f1 n1 n2 n3 n4 n5 n6
 obtain⟨d1,r1⟩:=hM.rM
 obtain⟨d3,r4⟩:=hM.rE
 obtain⟨d5,r5⟩:=hM.rH
 obtain⟨d6,r6⟩:=hM.rP
 have q1:(m.mem.map i64).length=m.mem.length:=by simp
 have q2:(m.hold.map i64).length=m.hold.length:=by simp
 have q3:(m.cW.map de.av).length=m.cW.length:=by simp
 refine aM WJ rfl ?_
 refine ca ?_
 refine aW (js u m n d n.a ht hl hva) (hfr n.a _ ?_) (by simp[cg,cP]) trivial ?_
 ·exact fun y hy=>rfl
 refine ca ?_
 exact⟨⟨rfl,⟨hM.N1 ht _ ⟨_,by simp only[MS.rows,List.length_append,List.length_cons,List.length_nil];exact cE⟩ ⟨_,cE⟩ fun y hy hne hn2=>by have:=di hout hy;have:=hlt y (List.mem_cons_of_mem _ hy);exact cM,⟨_,cE⟩,hout⟩,cZ,fun y y1 y2 y3=>by have y4:=di y3 (List.mem_cons_self (a:=L.mr));have y5:=di y3 (hmem L.pr (by simp));exact cM⟩⟩
theorem J8 {u:cF} {m:MS} {t:Nat} {n:Node} {d:iK} {ab:Nat} {L:ML} {H:Hp} {nx:Nat} (h:vW u m t n d ab L H) (hlt:∀y∈ab::L.all,y<nx) (ht:t<m.cH.length) (hl:m.cH.length<=8) (hva:oi m t n.a) (hs:0<=n.slot/\n.slot<(m.cH.getD t []).length) (hth:0<=n.cV/\n.cV<m.mem.length):
 cT Tryz.prog 109 [.pt ab 1 0 0] H nx (fun r H' k=>r=i64 n.next/\vC u { m.gC t n.slot (m.mem.getD n.cV.toNat 0) with mem:=m.mem.set n.cV.toNat (m.val t n.a) } t n { d with cV:=n.cV,word:=m.mem.getD n.cV.toNat 0,put:=m.val t n.a } ab L H nx H' k):=by
 have hfr:∀(v:jd) (H1:Hp),(∀y∈ab::L.all,cC H1 y=cC H y)->[.pt ab 1 0 0,v.av].map (dA.df H1 6)=[oj u m t n d,v.av]:=fun v H1 h1=>by
  rw[List.map_cons,List.map_cons,List.map_nil,(h.cd h1).df,dX _ (show cP 0 v.av by simp[cP])]
 have h0:=h
 obtain⟨hM,⟨dd,ra⟩,hout⟩:=h
 obtain⟨⟨a1,a2,a3,a4,a5,b1,b2,b3,b4,c1,c2,c3,e1',e2',f1⟩,n1,n2,n3,n4,n5,n6⟩:=apart hM ht
 have hmem:=hM.mem
 have k0:=hlt ab (by simp)
 have km:=hlt L.mr (by simp)
 have ke:=hlt L.me (List.mem_cons_of_mem _ (hmem _ (by simp)))
 have kh:=hlt L.ho (List.mem_cons_of_mem _ (hmem _ (by simp)))
 have kp:=hlt L.pr (List.mem_cons_of_mem _ (hmem _ (by simp)))
 have o1:=di hout (List.mem_cons_self (a:=L.mr))
 have o2:=di hout (hmem L.me (by simp))
 have o3:=di hout (hmem L.ho (by simp))
 have o4:=di hout (hmem L.pr (by simp))
 clear a1 a2 a4 b1 b2 b3 b4 c1 c2 c3 e1' e2' f1 n1 n2 n3 n4 n5 n6
 obtain⟨d1,r1⟩:=hM.rM
 obtain⟨d3,r4⟩:=hM.rE
 obtain⟨d5,r5⟩:=hM.rH
 obtain⟨d6,r6⟩:=hM.rP
 have q1:(m.mem.map i64).length=m.mem.length:=by simp
 have q2:(m.hold.map i64).length=m.hold.length:=by simp
 have q3:(m.cW.map de.av).length=m.cW.length:=by simp
 have e0:=fun d=>qR (l:=m.mem) (k:=n.cV) (by omega) d
 refine aM WG rfl ?_
 refine ca ?_
 refine ah (ab::L.all) (js u m n d n.a ht hl hva) (fun H1 h1=>hfr n.a H1 h1) (by simp[cg,cP]) trivial ?_
 refine Eq.mpr (uX (ab::L.all) _) (ur ?_)
 refine ca ?_
 refine aJ (l5 (u:=u) (t:=t) (n:=n) (d:={ d with cV:=n.cV,put:=m.val t n.a }) (L:=L) (m:=m) (ab:=ab) ?_ ?_ ht hl hs _) ?_
 ·exact⟨hM.cd fun y hy=>by have:=di hout hy;exact cM,⟨_,cE⟩,hout⟩
 ·exact fun y hy=>Nat.lt_of_lt_of_le (hlt y hy) cZ
 rintro _ H2 n2 ⟨hA,hn2,hk2⟩
 obtain⟨dd2,ra2⟩:=hA.row
 obtain⟨d8,r8⟩:=hA.M.rM
 obtain⟨d9,r9⟩:=hA.M.rE
 refine ca ?_
 have ht2:t<(m.gC t n.slot (m.mem.getD n.cV.toNat 0)).cH.length:=by simp only[MS.gC,List.length_set];exact ht
 exact⟨⟨rfl,⟨hA.M.gJ ht2 _ _ ⟨_,cE⟩ fun y hy hne=>by have:=di hout hy;exact cM,⟨_,cE⟩,hout⟩,cZ,fun y y1 y2 y3=>by have y4:=di y3 (hmem L.me (by simp));exact Eq.trans cM ((hk2 y (Nat.lt_of_lt_of_le y1 cZ) y2 y3).trans cM)⟩⟩
theorem OM {u:cF} {m:MS} {t:Nat} {n:Node} {d:iK} {ab:Nat} {L:ML} {H:Hp} {nx:Nat} (h:vW u m t n d ab L H) (hlt:∀y∈ab::L.all,y<nx) (ht:t<m.cH.length) (hl:m.cH.length<=8) (hs:0<=n.slot/\n.slot<(m.cH.getD t []).length) (hva:oi m t n.a) (hvb:eG n.op=true->oi m t n.b) (hop:0<=n.op/\n.op<19):
 cT Tryz.prog 106 [.pt ab 1 0 0] H nx (fun r H' k=>r=i64 n.next/\vC u (m.gC t n.slot (m.EK t n)) t n { d with word:=m.EK t n } ab L H nx H' k):=by
 have hfr:∀(v:jd) (H1:Hp),(∀y∈ab::L.all,cC H1 y=cC H y)->[.pt ab 1 0 0,v.av].map (dA.df H1 6)=[oj u m t n d,v.av]:=fun v H1 h1=>by
  rw[List.map_cons,List.map_cons,List.map_nil,(h.cd h1).df,dX _ (show cP 0 v.av by simp[cP])]
 have h0:=h
 obtain⟨hM,⟨dd,ra⟩,hout⟩:=h
 obtain⟨⟨a1,a2,a3,a4,a5,b1,b2,b3,b4,c1,c2,c3,e1',e2',f1⟩,n1,n2,n3,n4,n5,n6⟩:=apart hM ht
 have hmem:=hM.mem
 have k0:=hlt ab (by simp)
 have km:=hlt L.mr (by simp)
 have ke:=hlt L.me (List.mem_cons_of_mem _ (hmem _ (by simp)))
 have kh:=hlt L.ho (List.mem_cons_of_mem _ (hmem _ (by simp)))
 have kp:=hlt L.pr (List.mem_cons_of_mem _ (hmem _ (by simp)))
 have o1:=di hout (List.mem_cons_self (a:=L.mr))
 have o2:=di hout (hmem L.me (by simp))
 have o3:=di hout (hmem L.ho (by simp))
 have o4:=di hout (hmem L.pr (by simp))
 clear a1 a2 a4 b1 b2 b3 b4 c1 c2 c3 e1' e2' f1 n1 n2 n3 n4 n5 n6
 obtain⟨d1,r1⟩:=hM.rM
 obtain⟨d3,r4⟩:=hM.rE
 obtain⟨d5,r5⟩:=hM.rH
 obtain⟨d6,r6⟩:=hM.rP
 have q1:(m.mem.map i64).length=m.mem.length:=by simp
 have q2:(m.hold.map i64).length=m.hold.length:=by simp
 have q3:(m.cW.map de.av).length=m.cW.length:=by simp
 have c0:=fp n.op hop.1
 unfold MS.EK
 cases h2:eG n.op with
 |true=>
  rw[h2] at c0
  have c1:=SL n.op (m.val t n.a) (m.val t n.b) h2
  have hvb:=hvb h2
  rw[if_pos rfl]
  refine aM NI rfl ?_
  refine ca ?_
  refine aW (js u m n d n.a ht hl hva) (hfr n.a _ ?_) (by simp[cg,cP]) trivial ?_
  ·exact fun y hy=>rfl
  refine ca ?_
  refine ah (ab::L.all) (js u m n d n.b ht hl hvb) (fun H1 h1=>hfr n.b H1 h1) (by simp[cg,cP]) trivial ?_
  refine Eq.mpr (uX (ab::L.all) _) (ur ?_)
  refine ca ?_
  refine aJ (l5 (u:=u) (t:=t) (n:=n) (d:=d) (L:=L) (m:=m) (ab:=ab) ?_ ?_ ht hl hs _) ?_
  ·exact⟨hM.cd fun y hy=>by have:=di hout hy;exact cM,⟨_,cE⟩,hout⟩
  ·exact fun y hy=>Nat.lt_of_lt_of_le (hlt y hy) cZ
  rintro _ H2 n2 ⟨hA,hn2,hk2⟩
  obtain⟨dd2,ra2⟩:=hA.row
  refine ca ?_
  exact⟨⟨rfl,hA.cd fun y hy=>cM,cZ,fun y y1 y2 y3=>Eq.trans cM ((hk2 y (Nat.lt_of_lt_of_le y1 cZ) y2 y3).trans cM)⟩⟩
 |false=>
  rw[h2] at c0
  rw[if_neg (by decide)]
  by_cases h0':n.op=0
  ·rw[if_neg (fun e=>e h0')]
   refine aM NI rfl ?_
   refine ca ?_
   refine aW (js u m n d n.a ht hl hva) (hfr n.a _ ?_) (by simp[cg,cP]) trivial ?_
   ·exact fun y hy=>rfl
   refine ca ?_
   refine aJ (l5 (u:=u) (t:=t) (n:=n) (d:=d) (L:=L) (m:=m) (ab:=ab) ?_ ?_ ht hl hs _) ?_
   ·exact⟨hM.cd fun y hy=>by have:=di hout hy;exact cM,⟨_,cE⟩,hout⟩
   ·exact fun y hy=>Nat.lt_of_lt_of_le (hlt y hy) cZ
   rintro _ H2 n2 ⟨hA,hn2,hk2⟩
   obtain⟨dd2,ra2⟩:=hA.row
   refine ca ?_
   exact⟨⟨rfl,hA.cd fun y hy=>cM,cZ,fun y y1 y2 y3=>Eq.trans cM ((hk2 y (Nat.lt_of_lt_of_le y1 cZ) y2 y3).trans cM)⟩⟩
  ·rw[if_pos h0']
   have c1:=PC n.op (m.val t n.a) (by unfold eG at h2;simp only[Bool.and_eq_false_iff,decide_eq_false_iff_not] at h2;omega)
   refine aM NI rfl ?_
   refine ca ?_
   refine aW (js u m n d n.a ht hl hva) (hfr n.a _ ?_) (by simp[cg,cP]) trivial ?_
   ·exact fun y hy=>rfl
   refine ca ?_
   refine aJ (l5 (u:=u) (t:=t) (n:=n) (d:=d) (L:=L) (m:=m) (ab:=ab) ?_ ?_ ht hl hs _) ?_
   ·exact⟨hM.cd fun y hy=>by have:=di hout hy;exact cM,⟨_,cE⟩,hout⟩
   ·exact fun y hy=>Nat.lt_of_lt_of_le (hlt y hy) cZ
   rintro _ H2 n2 ⟨hA,hn2,hk2⟩
   obtain⟨dd2,ra2⟩:=hA.row
   refine ca ?_
   exact⟨⟨rfl,hA.cd fun y hy=>cM,cZ,fun y y1 y2 y3=>Eq.trans cM ((hk2 y (Nat.lt_of_lt_of_le y1 cZ) y2 y3).trans cM)⟩⟩
section
def lR (k:Int):Nat:=if k=1 then 106 else if k=2 then 107 else if k=3 then 108 else if k=4 then 109 else if k=5 then 110 else if k=6 then 111 else if k=7 then 112 else 113
def tD:AV:= .agg [.sc .nilFunc, .fn (.func 106) [] [], .fn (.func 107) [] [], .fn (.func 108) [] [], .fn (.func 109) [] [], .fn (.func 110) [] [], .fn (.func 111) [] [], .fn (.func 112) [] [], .fn (.func 113) [] [], .sc .nilFunc]
theorem xL:Pure Tryz.prog 70 [] (fun r=>r=tD):=by
 refine cz ?_ (by simp[tD,cP,cg])
 refine aM aA4 rfl ?_
 refine ca ?_
 exact⟨rfl⟩
def tC (m:MS) (t:Nat) (n:Node) (d:iK):iK:={ d with cV:=(m.act t n).2.2.1,word:=(m.act t n).2.2.2.1,put:=(m.act t n).2.2.2.2 }
structure E9 (m:MS) (t:Nat) (n:Node):Prop where
 kind:1<=n.kind/\n.kind<=8
 slot:n.kind=1\/n.kind=2\/n.kind=4->0<=n.slot/\n.slot<(m.cH.getD t []).length
 mem:n.kind=2\/n.kind=3\/n.kind=4->0<=n.cV/\n.cV<m.mem.length
 hold:n.kind=5\/n.kind=6->0<=n.cV/\n.cV<m.hold.length
 a:n.kind=1\/n.kind=3\/n.kind=4\/n.kind=7\/n.kind=8->oi m t n.a
 b:n.kind=1->eG n.op=true->oi m t n.b
 op:n.kind=1->0<=n.op/\n.op<19
theorem GQ {v:jd} {g:Int} {m:MS} {t:Nat} (h:pb v true g=true) (hl:((m.cH.getD t []).length:Int)=g):oi m t v:=by
 intro hs
 unfold pb at h
 rw[if_pos rfl,if_pos hs] at h
 simp only[Bool.and_eq_true,decide_eq_true_eq] at h
 omega
theorem eo.VG {u:cF} {m:MS} {t:Nat} (hu:u.Wf) (hr:cj u) (h:eo u m) (ht:t<u.cD.length) (hk:(m.node u t).kind≠9):E9 m t (m.node u t):=by
 have hn:=h.node hr ht
 have hw:=GG hu h ht
 have hsl:=h.EP t ht
 have hg:=(hr.gr ht).cH
 have hg2:=(hr.gr ht).locals
 have hml:=h.ml
 have hhl:=h.hl
 generalize m.node u t=n at *
 have hkd:=hn.kind
 have hlen:(((m.cH.getD t []).length:Nat):Int)=(u.gr t).cH:=by rw[hsl];omega
 refine⟨by omega,fun e=> ?_,fun e=> ?_,fun e=> ?_,fun e=> ?_,fun e e2=> ?_,fun e=> ?_⟩
 ·have:=hn.slot.1 (by unfold jV;exact decide_eq_true (by omega));omega
 ·have:=hn.cV.1 (by unfold fq;exact decide_eq_true (by omega))
  rw[if_neg (by omega)] at this;omega
 ·have:=hn.cV.1 (by unfold fq;exact decide_eq_true (by omega))
  rw[if_pos (by omega)] at this;omega
 ·have:=hn.a
  rw[show nr n.kind=true by unfold nr;exact decide_eq_true (by omega)] at this
  exact GQ this hlen
 ·have:=hn.b
  rw[e2,decide_eq_true e] at this
  exact GQ this hlen
 ·exact⟨hw.op.1,hn.op.1 e⟩
section
variable {u:cF} {m:MS} {t:Nat} {n:Node} {d:iK} {ab:Nat} {L:ML} {H:Hp} {nx:Nat}
theorem KY (h:vW u m t n d ab L H) (hlt:∀y∈ab::L.all,y<nx) (ht:t<m.cH.length) (hl:m.cH.length<=8) (ha:E9 m t n) (hpl:m.cW.length<=1048576) (hd:d.cV=0/\d.word=0/\d.put=0):
 cT Tryz.prog (lR n.kind) [.pt ab 1 0 0] H nx (fun r H' k=>r=i64 (m.act t n).2.1/\vC u (m.act t n).1 t n (tC m t n d) ab L H nx H' k):=by
 obtain⟨d1,d2,d3⟩:=hd
 have hk:n.kind=1\/n.kind=2\/n.kind=3\/n.kind=4\/n.kind=5\/n.kind=6\/n.kind=7\/n.kind=8:=by have:=ha.kind;omega
 obtain⟨t0,a0,k0,th,w0,p0⟩:=d
 dsimp only at d1 d2 d3
 subst d1 d2 d3
 have hop:=ha.op
 rcases hk with e|e|e|e|e|e|e|e
 ·have:=OM h hlt ht hl (ha.slot (by omega)) (ha.a (by omega)) (ha.b e) (hop e)
  simp only[lR,tC,MS.act,e];exact this
 ·have:=I2 h hlt ht hl (ha.slot (by omega)) (ha.mem (by omega))
  simp only[lR,tC,MS.act,e];exact this
 ·have:=EZ h hlt ht hl (ha.a (by omega)) (ha.mem (by omega))
  simp only[lR,tC,MS.act,e];exact this
 ·have:=J8 h hlt ht hl (ha.a (by omega)) (ha.slot (by omega)) (ha.mem (by omega))
  simp only[lR,tC,MS.act,e];exact this
 ·have:=I3 h hlt ht hl (ha.hold (by omega))
  simp only[lR,tC,MS.act,e];exact this
 ·have:=BK h hlt ht hl (ha.hold (by omega))
  simp only[lR,tC,MS.act,e];exact this
 ·have:=DW h hlt ht hl (ha.a (by omega)) hpl
  simp only[lR,tC,MS.act,e];exact this
 ·have:=yo h hlt ht hl (ha.a (by omega))
  simp only[lR,tC,MS.act,e];exact this
end
abbrev oN (d:Nat) (o:db):iL:=⟨some d,none,o⟩
def AN:List iL:=[oN 50 (.mv (.t 0)),oN 51 (.T2 (.t 50)),oN 52 (.fa 3 (.t 51)),oN 53 (.ld false 1 (.t 52)),oN 54 (.mv (.t 1)),oN 55 (.call (.f 70) []),oN 56 (.mv (.t 8)),oN 57 (.T2 (.t 56)),oN 58 (.fa 2 (.t 57)),oN 59 (.fa 0 (.t 58)),oN 60 (.ld false 1 (.t 59)),oN 61 (.ix 1 false 10 (.t 55) (.t 60)),oN 62 (.mv (.t 8)),oN 63 (.call (.t 61) [.t 62])]
def psS:List (Nat×Nat):=[(2,5),(3,5),(5,8),(5,9),(5,10),(2,13),(3,13)]
def BM (L:ML) (m:MS) (t:Nat) (n:Node) (ab:Nat) (i:Nat):AV:=
 [.pt L.mr 1 0 0, .pt L.mr 1 0 0, .pt L.mr 1 0 3, .sl L.a m.at_.length,i64 t,tD, .pt ab 1 0 0, .pt ab 1 0 0, .pt ab 1 0 2, .pt ab 1 0 2,u8 n.kind, .fn (.func (lR n.kind)) [] [], .pt ab 1 0 0,i64 (m.act t n).2.1].getD i .any
structure VA (u:cF) (m:MS) (t:Nat) (n:Node) (d:iK) (ab:Nat) (L:ML) (H0:Hp) (lo:Nat) (D:Nat->Bool) (H:Hp) (nx:Nat):Prop where
 lw:lo<=nx
 same:∀y,y<lo->y≠ab->y∉L.all->cC H y=cC H0 y
 m0:D 13=false->vW u m t n d ab L H
 m1:D 13=true->vW u (m.act t n).1 t n (tC m t n d) ab L H
section
variable {u:cF} {m:MS} {t:Nat} {n:Node} {d:iK} {ab:Nat} {L:ML} {H0 H:Hp} {lo nx:Nat} {D:Nat->Bool}
theorem VA.look (h:VA u m t n d ab L H0 lo D H nx) {i:Nat} (hi:i≠13) {nx':Nat} (hn:nx<=nx'):VA u m t n d ab L H0 lo (fun k=>D k||k==i) H nx':=by
 have e:(13==i)=false:=by simpa using Ne.symm hi
 refine⟨Nat.le_trans h.lw hn,h.same, ?_, ?_⟩
 ·simp only[e,Bool.or_false];exact h.m0
 ·simp only[e,Bool.or_false];exact h.m1
theorem xJ {u:cF} (m:MS) (t:Nat) (n:Node):(m.act t n).1.at_=m.at_:=by
 unfold MS.act
 repeat' split
 all_goals rfl
theorem G0 {k:Int} (h:1<=k/\k<=8):([.sc .nilFunc, .fn (.func 106) [] [], .fn (.func 107) [] [], .fn (.func 108) [] [], .fn (.func 109) [] [], .fn (.func 110) [] [], .fn (.func 111) [] [], .fn (.func 112) [] [], .fn (.func 113) [] [], .sc .nilFunc]:List AV).getD k.toNat .any= .fn (.func (lR k)) [] []:=by
 have:k=1\/k=2\/k=3\/k=4\/k=5\/k=6\/k=7\/k=8:=by omega
 rcases this with rfl|rfl|rfl|rfl|rfl|rfl|rfl|rfl<;>rfl
set_option maxHeartbeats 2000000 in
theorem ZF {fr0:Fr} (hlt:∀y∈ab::L.all,y<lo) (ht:t<m.cH.length) (hl:m.cH.length<=8) (ha:E9 m t n) (hpl:m.cW.length<=1048576) (hd:d.cV=0/\d.word=0/\d.put=0)
 (h0:cu fr0 0= .pt L.mr 1 0 0) (h1:cu fr0 1=i64 t) (h8:cu fr0 8= .pt ab 1 0 0):
 GY Tryz.prog AN psS (fun D fr H nx=>∃θ:Unit,ZU AN D (BM L m t n ab) fr0 fr/\VA u m t n d ab L H0 lo D H nx):=by
 refine GY.of (Θ:=Unit) (fun _=>BM L m t n ab) (fun _=>VA u m t n d ab L H0 lo) fr0 (by decide) ?_
 intro i gg θ D fr H nx hi hD hp hs hv hh
 have hk:i<14:=by have:=(List.getElem?_eq_some_iff.1 hi).1;simpa[AN] using this
 have q:∀(j:Nat) (g':iL) (t':Nat),AN[j]?=some g'->g'.dst=some t'->j<i->CI AN psS j i=true->cu fr t'=BM L m t n ab j:=fun j g' t' h1 h2 h3 h4=>hv.val j g' t' h1 (hp j h3 h4) h2
 have f0:cu fr 0= .pt L.mr 1 0 0:=(hv.gx 0 (by decide)).trans h0
 have f1:cu fr 1=i64 t:=(hv.gx 1 (by decide)).trans h1
 have f8:cu fr 8= .pt ab 1 0 0:=(hv.gx 8 (by decide)).trans h8
 have hlw:=hh.lw
 have row:∃d,(∃d2,cC H ab=some (.row 118 21 d2 [.agg (AC (.pt L.mr 1 0 0) t n d)])):=by
  cases h13:D 13 with
  |false=>exact⟨_,(hh.m0 h13).row⟩
  |true=>exact⟨_,(hh.m1 h13).row⟩
 have mrow:∃(m':MS),m'.at_.length=m.at_.length/\∃d2,cC H L.mr=some (.row 114 8 d2 [m'.rows u L.a L.s L.me L.ho L.pr]):=by
  cases h13:D 13 with
  |false=>exact⟨_,rfl,(hh.m0 h13).M.rM⟩
  |true=>exact⟨_,by rw[xJ (u:=u)],(hh.m1 h13).M.rM⟩
 obtain⟨dx,d2,ra⟩:=row
 obtain⟨m',hm',d3,rm⟩:=mrow
 have cases:i=0\/i=1\/i=2\/i=3\/i=4\/i=5\/i=6\/i=7\/i=8\/i=9\/i=10\/i=11\/i=12\/i=13:=by omega
 rcases cases with rfl|rfl|rfl|rfl|rfl|rfl|rfl|rfl|rfl|rfl|rfl|rfl|rfl|rfl<;>(obtain rfl:_=gg:=by simpa[AN] using hi)
 ·exact eI.look (by simp) (r:= .pt L.mr 1 0 0) (by simp only[cO,ev];rw[f0]) ⟨θ,fun _ _=>rfl,rfl,hh.look (by decide) (Nat.le_succ _)⟩
 ·have p:=q 0 _ 50 rfl rfl (by decide) (by decide)
  exact eI.look (by simp) (r:= .pt L.mr 1 0 0) (by simp only[cO,ev];rw[p];rfl) ⟨θ,fun _ _=>rfl,rfl,hh.look (by decide) (Nat.le_succ _)⟩
 ·have p:=q 1 _ 51 rfl rfl (by decide) (by decide)
  exact eI.look (by simp) (r:= .pt L.mr 1 0 3) (by simp only[cO,ev];rw[p];simp[BM,rm]) ⟨θ,fun _ _=>rfl,rfl,hh.look (by decide) (Nat.le_succ _)⟩
 ·have p:=q 2 _ 52 rfl rfl (by decide) (by decide)
  exact eI.look (by simp) (r:= .sl L.a m.at_.length) (by simp only[cO,ev];rw[p];simp[BM,kd,rm,zq,MS.rows,hm']) ⟨θ,fun _ _=>rfl,rfl,hh.look (by decide) (Nat.le_succ _)⟩
 ·exact eI.look (by simp) (r:=i64 t) (by simp only[cO,ev];rw[f1]) ⟨θ,fun _ _=>rfl,rfl,hh.look (by decide) (Nat.le_succ _)⟩
 ·show cT Tryz.prog 70 ([]++[]++[]) H nx _
  refine xL.dU (by simp[cg]) ?_
  rintro r rfl
  exact⟨θ,fun _ _=>rfl,rfl,hh.look (by decide) (Nat.le_refl _)⟩
 ·exact eI.look (by simp) (r:= .pt ab 1 0 0) (by simp only[cO,ev];rw[f8]) ⟨θ,fun _ _=>rfl,rfl,hh.look (by decide) (Nat.le_succ _)⟩
 ·have p:=q 6 _ 56 rfl rfl (by decide) (by decide)
  exact eI.look (by simp) (r:= .pt ab 1 0 0) (by simp only[cO,ev];rw[p];rfl) ⟨θ,fun _ _=>rfl,rfl,hh.look (by decide) (Nat.le_succ _)⟩
 ·have p:=q 7 _ 57 rfl rfl (by decide) (by decide)
  exact eI.look (by simp) (r:= .pt ab 1 0 2) (by simp only[cO,ev];rw[p];simp[BM,ra]) ⟨θ,fun _ _=>rfl,rfl,hh.look (by decide) (Nat.le_succ _)⟩
 ·have p:=q 8 _ 58 rfl rfl (by decide) (by decide)
  exact eI.look (by simp) (r:= .pt ab 1 0 2) (by simp only[cO,ev];rw[p];simp[BM,ra]) ⟨θ,fun _ _=>rfl,rfl,hh.look (by decide) (Nat.le_succ _)⟩
 ·have p:=q 9 _ 59 rfl rfl (by decide) (by decide)
  exact eI.look (by simp) (r:=u8 n.kind) (by simp only[cO,ev];rw[p];simp[BM,kd,ra,zq,AC]) ⟨θ,fun _ _=>rfl,rfl,hh.look (by decide) (Nat.le_succ _)⟩
 ·have p:=q 5 _ 55 rfl rfl (by decide) (by decide)
  have p2:=q 10 _ 60 rfl rfl (by decide) (by decide)
  have hkk:=ha.kind
  refine eI.look (by simp) (r:= .fn (.func (lR n.kind)) [] []) ?_ ⟨θ,fun _ _=>rfl,rfl,hh.look (by decide) (Nat.le_succ _)⟩
  have p3:cu fr 55=tD:=p
  have p4:cu fr 60=u8 n.kind:=p2
  have ht:=G0 hkk
  simp only[cO,ev,p3,p4,tD,Nat.mul_one,Bool.false_eq_true,if_false,if_true,List.length_cons,List.length_nil]
  rw[if_pos ⟨by omega,(show n.kind<10 by omega),trivial⟩,ht]
 ·exact eI.look (by simp) (r:= .pt ab 1 0 0) (by simp only[cO,ev];rw[f8]) ⟨θ,fun _ _=>rfl,rfl,hh.look (by decide) (Nat.le_succ _)⟩
 ·have p:=q 11 _ 61 rfl rfl (by decide) (by decide)
  have p2:=q 12 _ 62 rfl rfl (by decide) (by decide)
  show su Tryz.prog (cu fr 61) [cu fr 62] H nx _
  rw[p,p2]
  show cT Tryz.prog (lR n.kind) ([]++[.pt ab 1 0 0]++[]) H nx _
  refine(KY (hh.m0 hD) (fun y hy=>Nat.lt_of_lt_of_le (hlt y hy) hlw) ht hl ha hpl hd).mono ?_
  rintro r' H' n' ⟨rfl,hA,hn,hk2⟩
  exact⟨θ,fun _ _=>rfl,rfl,Nat.le_trans hlw hn,fun y h1 h2 h3=>(hk2 y (Nat.lt_of_lt_of_le h1 hlw) h2 h3).trans (hh.same y h1 h2 h3),fun hx=>by simp at hx,fun _=>hA⟩
end
end
section
section
variable {u:cF} {m:MS} {t:Nat} {n:Node} {d:iK} {L:ML} {H:Hp} {nx:Nat}
abbrev ZX:iK:=⟨0,0,0,0,0,0⟩
theorem CJ {fr0:Fr} {H0:Hp} {lo ab:Nat} {Q:QT} (hlt:∀y∈ab::L.all,y<lo) (ht:t<m.cH.length) (htl:t<m.at_.length) (hl:m.cH.length<=8) (ha:E9 m t n) (hpl:m.cW.length<=1048576) (hd:d.cV=0/\d.word=0/\d.put=0)
 (h0:cu fr0 0= .pt L.mr 1 0 0) (h1:cu fr0 1=i64 t) (h8:cu fr0 8= .pt ab 1 0 0) (hA:vW u m t n d ab L H0)
 (hK:∀f1 H1 n1,cu f1 8= .pt ab 1 0 0->cu f1 4=cu fr0 4->vW u { (m.act t n).1 with at_:=m.at_.set t (m.act t n).2.1 } t n (tC m t n d) ab L H1->lo<=n1->(∀y,y<lo->y≠ab->y∉L.all->cC H1 y=cC H0 y)->∃f',kb f1 f'/\Go (Q .normal f' H1 n1)):
 jC Tryz.prog [⟨AN,psS⟩,⟨[oN 64 (.ia 1 none (.t 53) (.t 54))],[]⟩,⟨[⟨none,none, .st false 1 (.t 64) (.t 63)⟩],[]⟩] fr0 H0 lo Q:=by
 refine jC.ZE (ZF (u:=u) (d:=d) (H0:=H0) (lo:=lo) hlt ht hl ha hpl hd h0 h1 h8) ⟨(),⟨fun i g t' _ hL=>(by cases hL),fun t' _=>rfl⟩,⟨Nat.le_refl _,fun y _ _ _=>rfl,fun _=>hA,fun hx=>(by cases hx)⟩⟩ ?_
 intro D fr' H' n' hall ⟨_,hv,hh⟩
 have v:=fun(j:Nat) (g':iL) (t':Nat) (h1:AN[j]?=some g') (h2:g'.dst=some t') (h3:j<14)=>hv.val j g' t' h1 (hall j h3) h2
 have p53:cu fr' 53= .sl L.a m.at_.length:=v 3 _ 53 rfl rfl (by decide)
 have p54:cu fr' 54=i64 t:=v 4 _ 54 rfl rfl (by decide)
 have p63:cu fr' 63=i64 (m.act t n).2.1:=v 13 _ 63 rfl rfl (by decide)
 have p8:cu fr' 8= .pt ab 1 0 0:=(hv.gx 8 (by decide)).trans h8
 have p4:cu fr' 4=cu fr0 4:=hv.gx 4 (by decide)
 have hA2:=hh.m1 (hall 13 (by decide))
 have q1:(m.at_.map i64).length=m.at_.length:=by simp
 obtain⟨d3,r3⟩:=hA2.M.rA
 rw[xJ (u:=u)] at r3
 have hlw:=hh.lw
 have hs:=hh.same
 have hout:=hA2.out
 have hsl2:(m.act t n).1.cH.length=m.cH.length:=by
  unfold MS.act
  repeat' split
  all_goals first|rfl|(simp only[MS.gC,List.length_set])
 have hmem:=hA2.M.mem
 show eI Tryz.prog n' fr' H' (.ia 1 none (.t 53) (.t 54)) (fun r H' nx'=>eI Tryz.prog nx' (gK fr' (some 64) r) H' (.st false 1 (.t 64) (.t 63)) (fun r2 H2 n2=>∃f',kb (gK (gK fr' (some 64) r) none r2) f'/\Go (Q .normal f' H2 n2)))
 refine eI.look (op:= .ia 1 none (.t 53) (.t 54)) (r:= .pt L.a m.at_.length t 0) (fun f as2 h=>by cases h) ?_ ?_
 ·simp only[cO,ev]
  rw[p53,p54]
  simp only[KL,r3]
  rw[if_pos ⟨q1,trivial,by omega,by omega⟩]
  simp
 refine eI.act (op:= .st false 1 (.t 64) (.t 63)) (r:= .any) (u:=(L.a, .row 3 1 d3 ((m.at_.map i64).set t (i64 (m.act t n).2.1)))) (fun f as2 h=>by cases h) ?_ ?_
 ·have e1:ev (gK fr' (some 64) (.pt L.a m.at_.length t 0)) (.t 64)= .pt L.a m.at_.length t 0:=rfl
  have e2:ev (gK fr' (some 64) (.pt L.a m.at_.length t 0)) (.t 63)=i64 (m.act t n).2.1:=p63
  simp only[cO]
  rw[e1,e2]
  simp only[r3]
  rw[if_pos q1,show(m.at_.map i64).getD t d3=i64 (m.at_.getD t 0) from dI i64 m.at_ t d3 htl]
  rfl
 refine hK _ _ _ p8 p4 ⟨?_, ?_,hout⟩ (by omega) (fun y y1 y2 y3=> ?_)
 ·have:=hA2.M.ZK (H':=(L.a,some (.row 3 1 d3 ((m.at_.map i64).set t (i64 (m.act t n).2.1))))::H') (t:=t) (by rw[hsl2];exact ht) t (m.act t n).2.1 ⟨d3,by rw[xJ (u:=u)];exact cE⟩ (fun y hy hne=>cM)
  rw[xJ (u:=u)] at this
  exact this
 ·obtain⟨d4,r4⟩:=hA2.row
  have:=di hout (hmem L.a (by simp))
  exact⟨d4,cE⟩
 ·have:=di y3 (hmem L.a (by simp))
  exact Eq.trans cM (hs y y1 y2 y3)
theorem O0 (hM:L.At u m H) (t:Int) {H1:Hp} (h1:∀y∈L.all,cC H1 y=cC H y):[.pt L.mr 1 0 0,i64 t].map (dA.df H1 6)=[m.fz u,i64 t]:=by
 rw[List.map_cons,List.map_cons,List.map_nil,(hM.cd h1).CZ 2,dX _ (show cP 0 (i64 t) by simp[cP])]
theorem OP (hr:cj u) (h:eo u m) (hM:L.At u m H) (hlt:∀y∈L.all,y<nx) (t:Int) (hb:m.ly u t≠0):
 cT Tryz.prog 31 [.pt L.mr 1 0 0,i64 t] H nx (fun r H' k=>r= .dQ [ZX.av,i64 (m.ly u t)]/\nx<=k/\∀y,y<nx->cC H' y=cC H y):=by
 refine aM YK rfl ?_
 have r0:=decide_eq_true hb
 refine ca ?_
 refine aW (xQ u hr m h t) (O0 hM t ?_) (by simp[cg,cP,pN]) trivial ?_
 ·exact fun y hy=>by have:=hlt y hy;exact cM
 refine ca ?_
 exact⟨⟨rfl,cZ,fun y hy=>cM⟩⟩
set_option maxHeartbeats 4000000 in
theorem wm (hu:u.Wf) (hr:cj u) (h:eo u m) (hM:L.At u m H) (hlt:∀y∈L.all,y<nx) (hpl:m.cW.length<=1048576) (ht:t<u.cD.length) (hb:m.ly u t=0):
 cT Tryz.prog 31 [.pt L.mr 1 0 0,i64 t] H nx (fun r H' k=>r= .dQ [(m.step u t).2.av,i64 0]/\L.At u (m.step u t).1 H'/\nx<=k/\∀y,y<nx->y∉L.all->cC H' y=cC H y):=by
 refine aM YK rfl ?_
 obtain⟨hk9,_⟩:=lS h ht hb
 have hgl:=hr.qD
 have hao:=h.VG hu hr ht hk9
 have hsl:m.cH.length<=8:=by rw[h.sl];omega
 have hts:t<m.cH.length:=by rw[h.sl];exact ht
 have hal:=h.rI
 obtain⟨p0,p1⟩:=h.iN t ht
 have hap:=apart hM hts
 have hmem:=hM.mem
 have km:=hlt L.mr (by simp)
 have ka:=hlt L.a (hmem _ (by simp))
 have hma:L.mr≠L.a:=hap.ne.1
 obtain⟨d1,r1⟩:=hM.rM
 obtain⟨d2,r2⟩:=hM.rA
 have e0:=fun d=>ints_at (l:=m.at_) (k:=t) (by omega) d
 have e1:=fun d=>kZ (l:=u.cD) ht d
 obtain⟨j,hj⟩:∃j:Nat,m.at_.getD t 0=j:=⟨(m.at_.getD t 0).toNat,by omega⟩
 rw[hj] at e0 p1
 have hnd:m.node u t=(u.gr t).nd j:=by unfold MS.node;rw[hj,Int.toNat_natCast]
 rw[show u.cD.getD t default=u.gr t from rfl] at e1
 have e2:=fun d=>fx (l:=(u.gr t).nodes) (i:=j) (by omega) d
 rw[show(u.gr t).nodes.getD j default=m.node u t by rw[hnd]] at e2
 have hat:m.at_.getD t 0=(j:Int):=hj
 have q1:(m.at_.map i64).length=m.at_.length:=by simp
 have q2:(u.cD.map cG.av).length=u.cD.length:=by simp
 have q3:((u.gr t).nodes.map Node.av).length=(u.gr t).nodes.length:=by simp
 have hst:m.step u t=({ (m.act t (m.node u t)).1 with at_:=m.at_.set t (m.act t (m.node u t)).2.1 },⟨t,j,(m.node u t).kind,(m.act t (m.node u t)).2.2.1,(m.act t (m.node u t)).2.2.2.1,(m.act t (m.node u t)).2.2.2.2⟩):=by
  unfold MS.step;rw[hj]
 rw[hst]
 generalize m.node u t=n at *
 have c9:(0:Int)=0:=rfl
 refine VF ?_
 refine aW (xQ u hr m h t) (O0 hM t ?_) (by simp[cg,cP,pN]) trivial ?_
 ·exact fun y hy=>by have:=hlt y hy;exact cM
 rw[hb]
 refine VF ?_
 refine CJ (u:=u) (m:=m) (t:=t) (n:=n) (d:=⟨t,j,n.kind,0,0,0⟩) (ab:=nx+30) (L:=L) ?_ hts (by omega) hsl hao hpl ⟨rfl,rfl,rfl⟩ rfl rfl rfl ⟨hM.cd ?_,⟨_,cE⟩, ?_⟩ ?_
 ·intro y hy
  rcases List.mem_cons.1 hy with rfl|hy
  ·exact cZ
  ·have:=hlt y hy;exact cZ
 ·intro y hy
  have:=hlt y hy;exact cM
 ·intro hy
  have:=hlt _ hy;omega
 intro f1 H1 n1 p8 p4 hA hn hs
 refine⟨[(8, .pt (nx+30) 1 0 0),(4, .pt nx 1 0 0)],⟨p8,p4,trivial⟩, ?_⟩
 obtain⟨d5,r5⟩:=hA.row
 have r6:cC H1 nx=some (.row 53 6 (hP true [.int .i64 0, .int .i64 0, .int .u8 0, .int .i64 0, .int .i64 0, .int .i64 0]) [hP true [.int .i64 0, .int .i64 0, .int .u8 0, .int .i64 0, .int .i64 0, .int .i64 0]]):=(hs nx cZ (by omega) (fun hy=>by have:=hlt _ hy;omega)).trans cE
 refine ca ?_
 refine⟨⟨rfl,hA.M.cd fun y hy=> ?_,cZ,fun y y1 y2=> ?_⟩⟩
 ·have:=hlt y hy;exact cM
 ·exact Eq.trans cM ((hs y cZ (by omega) y2).trans cM)
end
end
theorem B6 {es:List AV} (hf:cg 0 es) (hl:es.length * 32<=140737488355328):cT Tryz.prog 84 [.im 3 .any es] [] 0 (fun r H _=>dA.df H 6 r= .sc (.slice none 0 0)/\es=[]\/dA.df H 6 r= .im 3 .any es):=by
 refine aM aAf rfl ?_
 cases es with
 |nil=>
  refine ca ?_
  refine⟨ur ?_,ur ?_⟩
  ·refine ca ?_
   exact⟨.inl ⟨rfl,rfl⟩⟩
  ·refine ca ?_
   exact⟨.inr rfl⟩
 |cons x t=>
  have a0:(x::t).length * 32<=gX:=Nat.le_trans hl (by unfold gX;omega)
  simp only[List.length_cons] at hl
  refine ca ?_
  refine⟨.inr ((dN (e:=85) (sz:=3) (es:=x::t) cE (Nat.zero_add _).symm).trans ?_)⟩
  rw[cr _ hf]
theorem B7 {es:List AV} (hf:cg 0 es) (hl:es.length * 96<=140737488355328):cT Tryz.prog 85 [.im 13 .any es] [] 0 (fun r H _=>dA.df H 6 r= .sc (.slice none 0 0)/\es=[]\/dA.df H 6 r= .im 13 .any es):=by
 refine aM aAg rfl ?_
 cases es with
 |nil=>
  refine ca ?_
  refine⟨ur ?_,ur ?_⟩
  ·refine ca ?_
   exact⟨.inl ⟨rfl,rfl⟩⟩
  ·refine ca ?_
   exact⟨.inr rfl⟩
 |cons x t=>
  have a0:(x::t).length * 96<=gX:=Nat.le_trans hl (by unfold gX;omega)
  simp only[List.length_cons] at hl
  refine ca ?_
  refine⟨.inr ((dN (e:=65) (sz:=13) (es:=x::t) cE (Nat.zero_add _).symm).trans ?_)⟩
  rw[cr _ hf]
theorem py (l:List Decl) (hl:l.length * 32<=140737488355328):Pure Tryz.prog 84 [cq l] (fun r=>r=cq l):=
 ma (by simp[cP,cL]) (B6 ((cL _ _).2 fun _ _=>by simp[cP]) (by rw[List.length_map];exact hl))
theorem xS (l:List Node) (hl:l.length * 96<=140737488355328):Pure Tryz.prog 85 [jk l] (fun r=>r=jk l):=
 ma (by simp[cP,cL]) (B7 ((cL _ _).2 fun _ _=>by simp[cP]) (by rw[List.length_map];exact hl))
theorem QO (u:cF) (hu:u.Wf) (hr:¬cj u):Pure Tryz.prog 48 [u.av] (fun r=>r= .dQ [.sc (.pointer none),i64 60]):=by
 have c0:=kG u hu
 have hb:=mG hr
 generalize gu u=ck at *
 obtain⟨x,y,z⟩:=ck
 dsimp only at hb
 subst hb
 refine aG YM rfl ?_
 refine ca ?_
 first|exact rfl|trivial
theorem L5 {α:Type} (a b:α) (n i:Nat) (h:i<n):(List.replicate i a++List.replicate (n - i) b).set i a=List.replicate (i+1) a++List.replicate (n - (i+1)) b:=by
 rw[show n - i=(n - (i+1))+1 by omega,List.replicate_succ,List.set_append_right _ _ (by simp),List.length_replicate,Nat.sub_self,List.set_cons_zero,List.replicate_succ',List.append_assoc]
 rfl
theorem V2 (u:cF) (G A S ME HO PR:Nat) (d:AV) (n1 n2 n3 n4 n5:Nat) (h1:A≠G) (h2:S≠G) (h3:ME≠G) (h4:HO≠G) (h5:PR≠G):
 ([.agg [cq u.shared,cq u.cI, .sl G u.cD.length, .sl A n1, .sl S n2, .sl ME n3, .sl HO n4, .sl PR n5]]:List AV).map (Go.dA.pT [(G,some (.row 60 4 d (u.cD.map cG.av)))] 2)=[.agg [cq u.shared,cq u.cI,dy u.cD, .sl A n1, .sl S n2, .sl ME n3, .sl HO n4, .sl PR n5]]:=by
 simp[Go.dA.pT,QF,cC,h1,h2,h3,h4,h5,qQ]
set_option maxHeartbeats 4000000 in
theorem uU (u:cF) (hu:u.Wf) (hr:cj u) (H0:Hp) (nx:Nat):cT Tryz.prog 48 [u.av] H0 nx (fun r H n=>∃L:ML,r= .dQ [.pt L.mr 1 0 0,i64 0]/\L.At u (eH u) H/\(∀x∈L.all,nx<=x/\x<n)/\nx<=n/\∀y,y<nx->cC H y=cC H0 y):=by
 have c0:=kG u hu
 rw[jG.2 hr] at c0
 have hgl:=hr.qD
 have hw1:=hu.kC
 have hw2:=hu.lj
 have c1:=py u.shared (by omega)
 have c2:=py u.cI (by omega)
 refine aM YM rfl ?_
 refine ca ?_
 simp only[List.length_map,Int.toNat_natCast]
 have hsz:∀t,t<u.cD.length->0<=(u.gr t).cH/\(u.gr t).cH<=4160:=fun t ht=>by
  have h1:=(hr.gr ht).cH
  have h2:=(hr.gr ht).locals
  omega
 have hnl:∀t,t<u.cD.length->(u.gr t).nodes.length * 96<=140737488355328:=fun t ht=>by
  have:=(hr.gr ht).len
  omega
 have hat0:(eH u).at_.map i64=List.replicate u.cD.length (i64 0):=by
  simp only[eH,List.map_map]
  rw[List.eq_replicate_iff]
  exact⟨by simp,fun b hb=>by obtain⟨g,_,rfl⟩:=List.mem_map.1 hb;rfl⟩
 have hnsl:(eH u).cH.length=u.cD.length:=by simp[eH]
 have hns:∀t,t<u.cD.length->(eH u).cH.getD t []=List.replicate (u.gr t).cH.toNat 0:=fun t ht=>by simp[eH,List.getD,cF.gr,ht]
 refine aV (fun σ:Nat×List Nat=>[(1, .pt nx 1 0 0),(7, .pt (nx+22) 1 0 0),(47,dy u.cD),(48,i64 u.cD.length),(49,i64 σ.1)])
  (fun σ H n=>σ.1<=u.cD.length/\nx+46<=n/\σ.2.length=σ.1/\σ.2.Nodup/\(∀x∈σ.2,nx+46<=x/\x<n)/\(∃d,cC H nx=some (.row 25 3 d [u.av]))/\(∃d,cC H (nx+22)=some (.row 114 8 d [.agg [cq u.shared,cq u.cI, .sl (nx+42) σ.1, .sl (nx+16) u.cD.length, .sl (nx+43) σ.1, .sl (nx+44) 0, .sl (nx+20) u.cI.length, .sl (nx+45) 0]]))/\(∃d,cC H (nx+16)=some (.row 3 1 d ((eH u).at_.map i64)))/\(∃d,cC H (nx+20)=some (.row 3 1 d (List.replicate u.cI.length (i64 0))))/\(∃d,cC H (nx+42)=some (.row 60 4 d ((u.cD.take σ.1).map cG.av)))/\(∃d,cC H (nx+43)=some (.row 93 1 d (eJ σ.2 ((eH u).cH.take σ.1))))/\(∃d,cC H (nx+44)=some (.row 2 1 d []))/\(∃d,cC H (nx+45)=some (.row 155 2 d []))/\(∀t,t<σ.1->∃d,cC H (σ.2.getD t 0)=some (.row 2 1 d (((eH u).cH.getD t []).map i64)))/\∀y,y<nx->cC H y=cC H0 y) (fun σ=>u.cD.length - σ.1) (0,[])
  ⟨_,_,_,Rt.trans (Rt.wk (Wk.oR (b:=nx+22) (nx:=nx+42) (e:=60) (sz:=4) cZ (by omega) (te:=114) (tz:=8) (cs:=[cq u.shared,cq u.cI, .sc (.slice none 0 0), .sl (nx+16) u.cD.length, .sc (.slice none 0 0), .sc (.slice none 0 0), .sl (nx+20) u.cI.length, .sc (.slice none 0 0)]) (j:=2) cE (by show 2<8;omega) rfl)) (Rt.trans (Rt.wk (Wk.oR (b:=nx+22) (nx:=nx+43) (e:=93) (sz:=1) cZ (by omega) (te:=114) (tz:=8) (cs:=[cq u.shared,cq u.cI, .sl (nx+42) 0, .sl (nx+16) u.cD.length, .sc (.slice none 0 0), .sc (.slice none 0 0), .sl (nx+20) u.cI.length, .sc (.slice none 0 0)]) (j:=4) cE (by show 4<8;omega) rfl)) (Rt.trans (Rt.wk (Wk.oR (b:=nx+22) (nx:=nx+44) (e:=2) (sz:=1) cZ (by omega) (te:=114) (tz:=8) (cs:=[cq u.shared,cq u.cI, .sl (nx+42) 0, .sl (nx+16) u.cD.length, .sl (nx+43) 0, .sc (.slice none 0 0), .sl (nx+20) u.cI.length, .sc (.slice none 0 0)]) (j:=5) cE (by show 5<8;omega) rfl)) (Rt.wk (Wk.oR (b:=nx+22) (nx:=nx+45) (e:=155) (sz:=2) cZ (by omega) (te:=114) (tz:=8) (cs:=[cq u.shared,cq u.cI, .sl (nx+42) 0, .sl (nx+16) u.cD.length, .sl (nx+43) 0, .sl (nx+44) 0, .sl (nx+20) u.cI.length, .sc (.slice none 0 0)]) (j:=7) cE (by show 7<8;omega) rfl)))),
   cJ,Nat.zero_le _,cZ,rfl,List.nodup_nil,fun x hx=>by simp at hx,⟨_,cE⟩,⟨_,cE⟩,⟨_,by rw[hat0];exact cE⟩,⟨_,cE⟩,⟨_,cE⟩,⟨_,cE⟩,⟨_,cE⟩,⟨_,cE⟩,fun t ht=>absurd ht (Nat.not_lt_zero _),fun y hy=>cM⟩ ?_
 rintro⟨t,ids⟩ H n ⟨ht,hn,hil,hnd,hin,⟨d0,r0'⟩,⟨d1,r1'⟩,⟨d2,r2'⟩,⟨d3,r3'⟩,⟨d4,r4⟩,⟨d5,r5⟩,⟨d6,r6⟩,⟨d7,r7⟩,hls,hkp⟩
 dsimp only at ht hil hnd hin r0' r1' r4 r5 hls ⊢
 have hgk:((u.cD.take t).map cG.av).length=t:=by simp;omega
 have htk:((eH u).cH.take t).length=t:=by rw[List.length_take];omega
 have hrl:(eJ ids ((eH u).cH.take t)).length=t:=by unfold eJ;rw[List.length_map,List.length_zip,htk,hil];omega
 by_cases htl:t<u.cD.length
 ·have e0:=fun d=>kZ (l:=u.cD) htl d
  rw[show u.cD.getD t default=u.gr t from rfl] at e0
  have a0:(u.cD.map cG.av).length=u.cD.length:=by simp
  have c3:=xS (u.gr t).nodes (hnl t htl)
  obtain⟨s1,s2⟩:=hsz t htl
  have hnx1:(u.cD.take (t+1)).map cG.av=(u.cD.take t).map cG.av++[(u.gr t).av]:=by
   rw[List.take_succ_eq_append_getElem htl,List.map_append,show u.gr t=u.cD[t] by simp[cF.gr,List.getD,htl]];rfl
  have hnx2:eJ (ids++[n+29]) ((eH u).cH.take (t+1))=eJ ids ((eH u).cH.take t)++[.sl (n+29) (u.gr t).cH.toNat]:=by
   have e:=hns t htl
   rw[List.take_succ_eq_append_getElem (by omega),wg (by rw[hil,htk]),show(eH u).cH[t]'(by omega)=List.replicate (u.gr t).cH.toNat 0 by rw[<-e];simp[List.getD,show t<(eH u).cH.length by omega]]
   simp
  have hnx3:((eH u).cH.getD t []).map i64=List.replicate (u.gr t).cH.toNat (i64 0):=by rw[hns t htl];simp
  refine ca ?_
  refine⟨(t+1,ids++[n+29]),by dsimp only;omega,_,_,_,Rt.refl _ _ _,cJ,by dsimp only;omega,cZ,by simp[hil], ?_, ?_,⟨_,cE⟩,⟨_,cE⟩,⟨_,cE⟩,⟨_,cE⟩,⟨_,by dsimp only;rw[hnx1];exact cE⟩,⟨_,by dsimp only;rw[hnx2];exact cE⟩,⟨_,cE⟩,⟨_,cE⟩, ?_,fun y hy=>Eq.trans cM (hkp y hy)⟩
  ·refine List.nodup_append.2 ⟨hnd,by simp,fun a ha b hb=> ?_⟩
   simp only[List.mem_cons,List.not_mem_nil,or_false] at hb
   have:=hin _ ha;omega
  ·intro x hx
   rcases List.mem_append.1 hx with hx|hx
   ·have:=hin _ hx;exact⟨this.1,Nat.lt_of_lt_of_le this.2 cZ⟩
   ·simp only[List.mem_cons,List.not_mem_nil,or_false] at hx
    subst hx;exact⟨by omega,cZ⟩
  ·intro q hq
   have hq:q<t+1:=hq
   by_cases e:q=t
   ·subst e
    have e2:(ids++[n+29]).getD q 0=n+29:=by rw[List.getD,List.getElem?_append_right (by omega),hil,Nat.sub_self];rfl
    dsimp only
    rw[e2,hnx3];exact⟨_,cE⟩
   ·obtain⟨d,hd⟩:=hls q (by omega)
    have e2:(ids++[n+29]).getD q 0=ids.getD q 0:=by simp[List.getD,List.getElem?_append,show q<ids.length by omega]
    have:=hin _ (eW (l:=ids) (q:=q) (by omega))
    dsimp only
    rw[e2];exact⟨d,Eq.trans cM hd⟩
 ·have:t=u.cD.length:=by omega
  subst this
  rw[List.take_length] at r4
  rw[List.take_of_length_le (by omega)] at r5
  refine ca ?_
  rw[List.length_map]
  have hM:=Wk.pT (nx:=n+1+1+1+1+1) (H:=H) (cb:=nx+22) [(nx+42,some (.row 60 4 d4 (u.cD.map cG.av)))] 2 .any r1' (fun x q hx=>by
   by_cases hb:x=nx+42
   ·subst hb;rw[cx] at hx;rw[<-hx];exact r4
   ·rw[cc hb] at hx;cases hx)
  rw[V2 u _ _ _ _ _ _ _ _ _ _ _ _ (by omega) (by omega) (by omega) (by omega) (by omega)] at hM
  refine aV (fun j:Nat=>[(7, .pt (nx+22) 1 0 0),(83,cq u.shared),(84,i64 u.shared.length),(85,i64 j)])
   (fun j H n=>j<=u.shared.length/\nx+46<=n/\(∀x∈ids,nx+46<=x/\x<n)/\(∃d,cC H (nx+22)=some (.row 114 8 d [.agg [cq u.shared,cq u.cI,dy u.cD, .sl (nx+16) u.cD.length, .sl (nx+43) u.cD.length, .sl (nx+44) j, .sl (nx+20) u.cI.length, .sl (nx+45) 0]]))/\(∃d,cC H (nx+16)=some (.row 3 1 d ((eH u).at_.map i64)))/\(∃d,cC H (nx+20)=some (.row 3 1 d (List.replicate u.cI.length (i64 0))))/\(∃d,cC H (nx+43)=some (.row 93 1 d (eJ ids (eH u).cH)))/\(∃d,cC H (nx+44)=some (.row 2 1 d (((eH u).mem.take j).map i64)))/\(∃d,cC H (nx+45)=some (.row 155 2 d []))/\(∀t,t<u.cD.length->∃d,cC H (ids.getD t 0)=some (.row 2 1 d (((eH u).cH.getD t []).map i64)))/\∀y,y<nx->cC H y=cC H0 y) (fun j=>u.shared.length - j) 0
   ⟨_,_,_,Rt.wk hM,cJ,Nat.zero_le _,cZ, ?_,⟨_,cE⟩,⟨_,cE⟩,⟨_,cE⟩,⟨_,cE⟩,⟨_,cE⟩,⟨_,cE⟩, ?_,fun y hy=>Eq.trans cM (hkp y hy)⟩ ?_
  ·exact fun x hx=>⟨(hin x hx).1,by have:=(hin x hx).2;exact cZ⟩
  ·intro q hq
   obtain⟨d,hd⟩:=hls q hq
   have:=hin _ (eW (l:=ids) (q:=q) (by omega))
   exact⟨d,Eq.trans cM hd⟩
  clear r0' r1' r2' r3' r4 r5 r6 r7 hls hkp hM hin hn
  rintro j H n ⟨hj,hn,hin,⟨d1,r1'⟩,⟨d2,r2'⟩,⟨d3,r3'⟩,⟨d5,r5⟩,⟨d6,r6⟩,⟨d7,r7⟩,hls,hkp⟩
  have hml:(eH u).mem.length=u.shared.length:=by simp[eH]
  have hmk:(((eH u).mem.take j).map i64).length=j:=by simp;omega
  by_cases hjl:j<u.shared.length
  ·have e0:∀d,(u.shared.map Decl.av).getD ((j:Int)).toNat d=(u.shared.getD j default).av:=fun d=>by rw[Int.toNat_natCast];exact dI Decl.av u.shared j d hjl
   have a0:(u.shared.map Decl.av).length=u.shared.length:=by simp
   have hnx1:((eH u).mem.take (j+1)).map i64=((eH u).mem.take j).map i64++[i64 (u.shared.getD j default).word]:=by
    rw[List.take_succ_eq_append_getElem (by omega),List.map_append]
    simp[eH,List.getD,hjl]
   refine ca ?_
   refine⟨j+1,by omega,_,_,_,Rt.refl _ _ _,cJ,by omega,cZ,fun x hx=>⟨(hin x hx).1,Nat.lt_of_lt_of_le (hin x hx).2 cZ⟩,⟨_,cE⟩,⟨_,cE⟩,⟨_,cE⟩,⟨_,cE⟩,⟨_,by rw[hnx1];exact cE⟩,⟨_,cE⟩, ?_,fun y hy=>Eq.trans cM (hkp y hy)⟩
   intro q hq
   obtain⟨d,hd⟩:=hls q hq
   have:=hin _ (eW (l:=ids) (q:=q) (by omega))
   exact⟨d,Eq.trans cM hd⟩
  ·have:j=u.shared.length:=by omega
   subst this
   rw[List.take_of_length_le (by omega)] at r6
   refine ca ?_
   refine aI (fun i:Nat=>[(7, .pt (nx+22) 1 0 0),(105,i64 u.cI.length),(106,i64 i)])
    (fun i H n=>i<=u.cI.length/\nx+46<=n/\(∀x∈ids,nx+46<=x/\x<n)/\(∃d,cC H (nx+22)=some (.row 114 8 d [.agg [cq u.shared,cq u.cI,dy u.cD, .sl (nx+16) u.cD.length, .sl (nx+43) u.cD.length, .sl (nx+44) u.shared.length, .sl (nx+20) u.cI.length, .sl (nx+45) 0]]))/\(∃d,cC H (nx+16)=some (.row 3 1 d ((eH u).at_.map i64)))/\(∃d,cC H (nx+20)=some (.row 3 1 d (List.replicate i (i64 (-1))++List.replicate (u.cI.length - i) (i64 0))))/\(∃d,cC H (nx+43)=some (.row 93 1 d (eJ ids (eH u).cH)))/\(∃d,cC H (nx+44)=some (.row 2 1 d ((eH u).mem.map i64)))/\(∃d,cC H (nx+45)=some (.row 155 2 d []))/\(∀t,t<u.cD.length->∃d,cC H (ids.getD t 0)=some (.row 2 1 d (((eH u).cH.getD t []).map i64)))/\∀y,y<nx->cC H y=cC H0 y) (fun i=>u.cI.length - i) 0 cJ
    ⟨Nat.zero_le _,cZ,fun x hx=>⟨(hin x hx).1,Nat.lt_of_lt_of_le (hin x hx).2 cZ⟩,⟨_,cE⟩,⟨_,cE⟩,⟨_,cE⟩,⟨_,cE⟩,⟨_,cE⟩,⟨_,cE⟩, ?_,fun y hy=>Eq.trans cM (hkp y hy)⟩ ?_
   ·intro q hq
    obtain⟨d,hd⟩:=hls q hq
    have:=hin _ (eW (l:=ids) (q:=q) (by omega))
    exact⟨d,Eq.trans cM hd⟩
   clear r1' r2' r3' r5 r6 r7 hls hkp hin hn
   rintro i H n ⟨hi,hn,hin,⟨d1,r1'⟩,⟨d2,r2'⟩,⟨d3,r3'⟩,⟨d5,r5⟩,⟨d6,r6⟩,⟨d7,r7⟩,hls,hkp⟩
   have hrl2:(List.replicate i (i64 (-1))++List.replicate (u.cI.length - i) (i64 0)).length=u.cI.length:=by simp;omega
   by_cases hil2:i<u.cI.length
   ·have e1:∀d,(List.replicate i (i64 (-1))++List.replicate (u.cI.length - i) (i64 0)).getD ((i:Int)).toNat d=i64 0:=fun d=>by
     rw[Int.toNat_natCast]
     simp[List.getD,List.getElem?_append,List.getElem?_replicate,show 0<u.cI.length - i by omega]
    refine ca ?_
    refine⟨i+1,by omega,cJ,by omega,cZ,fun x hx=>⟨(hin x hx).1,Nat.lt_of_lt_of_le (hin x hx).2 cZ⟩,⟨_,cE⟩,⟨_,cE⟩,⟨_,by rw[<-L5 _ _ _ _ hil2];exact cE⟩,⟨_,cE⟩,⟨_,cE⟩,⟨_,cE⟩, ?_,fun y hy=>Eq.trans cM (hkp y hy)⟩
    intro q hq
    obtain⟨d,hd⟩:=hls q hq
    have:=hin _ (eW (l:=ids) (q:=q) (by omega))
    exact⟨d,Eq.trans cM hd⟩
   ·have:i=u.cI.length:=by omega
    subst this
    rw[Nat.sub_self,List.replicate_zero,List.append_nil] at r3'
    have hho:(eH u).hold.map i64=List.replicate u.cI.length (i64 (-1)):=by
     simp only[eH,List.map_map]
     rw[List.eq_replicate_iff]
     exact⟨by simp,fun b hb=>by obtain⟨g,_,rfl⟩:=List.mem_map.1 hb;rfl⟩
    refine ca ?_
    refine⟨⟨⟨nx+22,nx+16,nx+43,nx+44,nx+20,nx+45,ids⟩,rfl,⟨⟨d1, ?_⟩,⟨_,cE⟩,⟨_,cE⟩,fun t ht=> ?_,⟨_,cE⟩,⟨_,by rw[hho];exact cE⟩,⟨_,cE⟩,by rw[hnsl];exact hil, ?_⟩, ?_,cZ,fun y hy=>Eq.trans cM (hkp y hy)⟩⟩
    ·rw[show(eH u).rows u (nx+16) (nx+43) (nx+44) (nx+20) (nx+45)= .agg [cq u.shared,cq u.cI,dy u.cD, .sl (nx+16) u.cD.length, .sl (nx+43) u.cD.length, .sl (nx+44) u.shared.length, .sl (nx+20) u.cI.length, .sl (nx+45) 0] by simp[MS.rows,eH]]
     exact cE
    ·rw[hnsl] at ht
     obtain⟨d,hd⟩:=hls t ht
     have:=hin _ (eW (l:=ids) (q:=t) (by omega))
     exact⟨d,Eq.trans cM hd⟩
    ·have hno:∀k,k<nx+46->k∉ids:=fun k hk h=>by have:=hin _ h;omega
     simp only[List.nodup_cons,List.mem_cons,not_or]
     exact⟨⟨by omega,by omega,by omega,by omega,by omega,hno _ (by omega)⟩,⟨by omega,by omega,by omega,by omega,hno _ (by omega)⟩,⟨by omega,by omega,by omega,hno _ (by omega)⟩,⟨by omega,by omega,hno _ (by omega)⟩,⟨by omega,hno _ (by omega)⟩,hno _ (by omega),hnd⟩
    ·intro x hx
     simp only[List.mem_cons] at hx
     rcases hx with rfl|rfl|rfl|rfl|rfl|rfl|hx
     all_goals first
      |exact⟨by omega,cZ⟩
      |(have:=hin _ hx;exact⟨by omega,cZ⟩)
end Go.Proofs.YtjopoheligmmoaaGreatDoor
