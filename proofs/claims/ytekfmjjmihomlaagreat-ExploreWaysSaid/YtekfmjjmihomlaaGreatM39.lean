import Derived.Test.YtekfmjjmihomlaaGreatM35
import Derived.Test.YtekfmjjmihomlaaGreatM33
import Derived.Test.YtekfmjjmihomlaaGreatM38
section
/- The document's machine in rows: what a store makes of it (turned out of Xw). -/
namespace Go.Proofs.YtekfmjjmihomlaaGreat
open Go Go.cV Go.Proofs
set_option linter.unusedSimpArgs false
set_option linter.unusedVariables false
structure L4 (u:bj) (m:MS) (mr a s me ho pr:Nat) (ids:List Nat) (H:Hp):Prop where
 rM:∃d,bd H mr=some (.row 80 8 d [m.rows u a s me ho pr])
 rA:∃d,bd H a=some (.row 3 1 d (m.at_.map i64))
 rS:∃d,bd H s=some (.row 38 1 d (cx ids m.bg))
 rL:∀t,t<m.bg.length→∃d,bd H (ids.getD t 0)=some (.row 2 1 d ((m.bg.getD t []).map i64))
 rE:∃d,bd H me=some (.row 2 1 d (m.mem.map i64))
 rH:∃d,bd H ho=some (.row 3 1 d (m.hold.map i64))
 rP:∃d,bd H pr=some (.row 89 2 d (m.bk.map cM.av))
 len:ids.length=m.bg.length
 nodup:(mr::a::s::me::ho::pr::ids).Nodup
abbrev ML.Nt (L:ML) (u:bj) (m:MS) (H:Hp):Prop:=L4 u m L.mr L.a L.s L.me L.ho L.pr L.ids H
theorem L4.yR {u:bj} {m:MS} {mr a s me ho pr:Nat} {ids:List Nat} {H:Hp} (h:L4 u m mr a s me ho pr ids H) (k:Nat):cV.dR H (k+4) (.pt mr 1 0 0)=m.fz u:=by
 obtain⟨d1,h1⟩:=h.rM
 obtain⟨d2,h2⟩:=h.rA
 obtain⟨d3,h3⟩:=h.rS
 obtain⟨d4,h4⟩:=h.rE
 obtain⟨d5,h5⟩:=h.rH
 obtain⟨d6,h6⟩:=h.rP
 have hsl:(cx ids m.bg).length=m.bg.length:=by unfold cx;rw[List.length_map,List.length_zip,h.len];simp
 have hs:(cx ids m.bg).map (cV.dR H (k+1))=m.bg.map cW:=by
  apply List.ext_getElem (by simp[hsl])
  intro t q1 q2
  have ht:t<m.bg.length:=by simpa using q2
  have hti:t<ids.length:=by rw[h.len];exact ht
  obtain⟨d,hd⟩:=h.rL t ht
  rw[show ids.getD t 0=ids[t] by simp[List.getD,hti],show m.bg.getD t []=m.bg[t] by simp[List.getD,ht]] at hd
  rw[List.getElem_map,List.getElem_map]
  simp only[cx,List.getElem_map,List.getElem_zip]
  rw[dG hd (by simp),cc _ ((bu _ _).2 fun _ _=>by simp[bw])]
 simp only[cV.dR,h1]
 simp only[List.length_cons,List.length_nil,if_true,List.map_cons,List.map_nil,MS.rows]
 rw[lh]
 simp only[List.map_cons,List.map_nil]
 rw[dG h2 (by simp),dG h3 hsl,dG h4 (by simp),dG h5 (by simp),dG h6 (by simp),hs]
 rw[cc _ ((bu _ _).2 fun _ _=>by simp[bw]),cc _ ((bu _ _).2 fun _ _=>by simp[bw]),cc _ ((bu _ _).2 fun _ _=>by simp[bw]),cc _ ((bu _ _).2 fun _ _=>by simp[bw])]
 rw[cr _ (show bw 0 (bn u.shared) by simp[bw,bu]),cr _ (show bw 0 (bn u.bo) by simp[bw,bu]),cr _ (show bw 0 (cL u.bh) by simp[bw,bu])]
 rfl
theorem L4.JZ {u:bj} {m:MS} {mr a s me ho pr:Nat} {ids:List Nat} {H:Hp} (h:L4 u m mr a s me ho pr ids H) (k:Nat):cV.dR H (k+3) (m.rows u a s me ho pr)=m.av u:=by
 obtain⟨d1,h1⟩:=h.rM
 obtain⟨d2,h2⟩:=h.rA
 obtain⟨d3,h3⟩:=h.rS
 obtain⟨d4,h4⟩:=h.rE
 obtain⟨d5,h5⟩:=h.rH
 obtain⟨d6,h6⟩:=h.rP
 have hsl:(cx ids m.bg).length=m.bg.length:=by unfold cx;rw[List.length_map,List.length_zip,h.len];simp
 have hs:(cx ids m.bg).map (cV.dR H (k+1))=m.bg.map cW:=by
  apply List.ext_getElem (by simp[hsl])
  intro t q1 q2
  have ht:t<m.bg.length:=by simpa using q2
  have hti:t<ids.length:=by rw[h.len];exact ht
  obtain⟨d,hd⟩:=h.rL t ht
  rw[show ids.getD t 0=ids[t] by simp[List.getD,hti],show m.bg.getD t []=m.bg[t] by simp[List.getD,ht]] at hd
  rw[List.getElem_map,List.getElem_map]
  simp only[cx,List.getElem_map,List.getElem_zip]
  rw[dG hd (by simp),cc _ ((bu _ _).2 fun _ _=>by simp[bw])]
 rw[MS.rows,lh]
 simp only[List.map_cons,List.map_nil]
 rw[dG h2 (by simp),dG h3 hsl,dG h4 (by simp),dG h5 (by simp),dG h6 (by simp),hs]
 rw[cc _ ((bu _ _).2 fun _ _=>by simp[bw]),cc _ ((bu _ _).2 fun _ _=>by simp[bw]),cc _ ((bu _ _).2 fun _ _=>by simp[bw]),cc _ ((bu _ _).2 fun _ _=>by simp[bw])]
 rw[cr _ (show bw 0 (bn u.shared) by simp[bw,bu]),cr _ (show bw 0 (bn u.bo) by simp[bw,bu]),cr _ (show bw 0 (cL u.bh) by simp[bw,bu])]
 rfl
section
variable {u:bj} {m:MS} {L:ML} {H H':Hp}
theorem ML.Nt.mem (h:L.Nt u m H):(∀x∈[L.a,L.s,L.me,L.ho,L.pr],x∈L.all):=by
 intro x hx
 simp only[List.mem_cons,List.not_mem_nil,or_false] at hx
 simp only[ML.all,List.mem_cons]
 omega
theorem lp (h:L.Nt u m H) {t:Nat} (ht:t<m.bg.length):L.it t∈L.all:=by
 have:L.it t∈L.ids:=dU (by rw[h.len];exact ht)
 simp only[ML.all,List.mem_cons]
 exact .inr (.inr (.inr (.inr (.inr (.inr this)))))
theorem NU (h:L.Nt u m H) {t s:Nat} (ht:t<m.bg.length) (hs:s<m.bg.length) (e:s≠t):L.it s≠L.it t:=by
 have h1:=(List.nodup_cons.1 (List.nodup_cons.1 (List.nodup_cons.1 (List.nodup_cons.1 (List.nodup_cons.1 (List.nodup_cons.1 h.nodup).2).2).2).2).2).2
 have hl:=h.len
 intro he
 have ht':t<L.ids.length:=by omega
 have hs':s<L.ids.length:=by omega
 have:L.ids[s]=L.ids[t]:=by simpa[ML.it,List.getD,ht',hs'] using he
 exact e ((List.getElem_inj h1).1 this)
theorem jd (h:L.Nt u m H) {t:Nat} (ht:t<m.bg.length):L.LZ t:=by
 have hn:=h.nodup
 have hi:L.it t∈L.ids:=dU (by rw[h.len];exact ht)
 have hne:∀x,x∉L.ids→L.it t≠x:=fun x hx e=>hx (e▸hi)
 simp only[List.nodup_cons,List.mem_cons,not_or] at hn
 obtain⟨⟨a1,a2,a3,a4,a5,a6⟩,⟨b1,b2,b3,b4,b5⟩,⟨c1,c2,c3,c4⟩,⟨d1,d2,d3⟩,⟨e1,e2⟩,f1,_⟩:=hn
 exact⟨⟨a1,a2,a3,a4,a5,b1,b2,b3,b4,c1,c2,c3,d1,d2,e1⟩,hne _ a6,hne _ b5,hne _ c4,hne _ d3,hne _ e2,hne _ f1⟩
theorem ML.Nt.cO (h:L.Nt u m H) (hk:∀y∈L.all,bd H' y=bd H y):L.Nt u m H':=by
 have hm:=h.mem
 obtain⟨d1,h1⟩:=h.rM
 obtain⟨d2,h2⟩:=h.rA
 obtain⟨d3,h3⟩:=h.rS
 obtain⟨d4,h4⟩:=h.rE
 obtain⟨d5,h5⟩:=h.rH
 obtain⟨d6,h6⟩:=h.rP
 refine⟨⟨d1,(hk _ (by simp)).trans h1⟩,⟨d2,(hk _ (hm _ (by simp))).trans h2⟩,⟨d3,(hk _ (hm _ (by simp))).trans h3⟩,fun t ht=> ?_,⟨d4,(hk _ (hm _ (by simp))).trans h4⟩,⟨d5,(hk _ (hm _ (by simp))).trans h5⟩,⟨d6,(hk _ (hm _ (by simp))).trans h6⟩,h.len,h.nodup⟩
 obtain⟨d,hd⟩:=h.rL t ht
 exact⟨d,(hk _ (lp h ht)).trans hd⟩
theorem ML.Nt.dS (h:L.Nt u m H) {t:Nat} (ht:t<m.bg.length) (k w:Int) (hit:∃d,bd H' (L.it t)=some (.row 2 1 d (((m.bg.getD t []).map i64).set k.toNat (i64 w)))) (hk:∀y∈L.all,y≠L.it t→bd H' y=bd H y):L.Nt u (m.dS t k w) H':=by
 obtain⟨-,n1,n2,n3,n4,n5,n6⟩:=jd h ht
 have hm:=h.mem
 obtain⟨d1,h1⟩:=h.rM
 obtain⟨d2,h2⟩:=h.rA
 obtain⟨d3,h3⟩:=h.rS
 obtain⟨d4,h4⟩:=h.rE
 obtain⟨d5,h5⟩:=h.rH
 obtain⟨d6,h6⟩:=h.rP
 have hl:(m.dS t k w).bg.length=m.bg.length:=by simp[MS.dS]
 have hrow:cx L.ids (m.dS t k w).bg=cx L.ids m.bg:=by
  unfold cx MS.dS
  apply List.ext_getElem (by simp)
  intro i q1 q2
  simp only[List.getElem_map,List.getElem_zip,AV.sl.injEq,true_and]
  rw[List.getElem_set]
  have hi:i<m.bg.length:=by simp at q2;omega
  split
  ·rename_i e;subst e;rw[List.length_set];simp[List.getD,hi]
  ·rfl
 refine⟨⟨d1, ?_⟩,⟨d2,(hk _ (hm _ (by simp)) fm).trans h2⟩,⟨d3,by rw[hrow];exact(hk _ (hm _ (by simp)) fm).trans h3⟩,fun s hs=> ?_,⟨d4,(hk _ (hm _ (by simp)) fm).trans h4⟩,⟨d5,(hk _ (hm _ (by simp)) fm).trans h5⟩,⟨d6,(hk _ (hm _ (by simp)) fm).trans h6⟩,by rw[hl];exact h.len,h.nodup⟩
 ·rw[show(m.dS t k w).rows u L.a L.s L.me L.ho L.pr=m.rows u L.a L.s L.me L.ho L.pr by simp[MS.rows,MS.dS]]
  exact(hk _ (by simp) fm).trans h1
 ·rw[hl] at hs
  by_cases e:s=t
  ·subst e
   obtain⟨d,hd⟩:=hit
   refine⟨d,hd.trans ?_⟩
   rw[show(m.dS s k w).bg.getD s []=(m.bg.getD s []).set k.toNat w from eF hs,List.map_set]
  ·obtain⟨d,hd⟩:=h.rL s hs
   refine⟨d, ?_⟩
   rw[show(m.dS t k w).bg.getD s []=m.bg.getD s [] from getD_set_ne (Ne.symm e)]
   exact(hk _ (lp h hs) (NU h ht hs e)).trans hd
theorem ML.Nt.fQ (h:L.Nt u m H) {t:Nat} (ht:t<m.bg.length) (k w:Int) (hme:∃d,bd H' L.me=some (.row 2 1 d ((m.mem.map i64).set k.toNat (i64 w)))) (hk:∀y∈L.all,y≠L.me→bd H' y=bd H y):L.Nt u { m with mem:=m.mem.set k.toNat w } H':=by
 obtain⟨⟨a1,a2,a3,a4,a5,b1,b2,b3,b4,c1,c2,c3,e1,e2,f1⟩,n1,n2,n3,n4,n5,n6⟩:=jd h ht
 have hm:=h.mem
 obtain⟨d1,h1⟩:=h.rM
 obtain⟨d2,h2⟩:=h.rA
 obtain⟨d3,h3⟩:=h.rS
 obtain⟨d4,h4⟩:=hme
 obtain⟨d5,h5⟩:=h.rH
 obtain⟨d6,h6⟩:=h.rP
 refine⟨⟨d1, ?_⟩,⟨d2,(hk _ (hm _ (by simp)) fm).trans h2⟩,⟨d3,(hk _ (hm _ (by simp)) fm).trans h3⟩,fun s hs=> ?_,⟨d4,by rw[List.map_set];exact h4⟩,⟨d5,(hk _ (hm _ (by simp)) fm).trans h5⟩,⟨d6,(hk _ (hm _ (by simp)) fm).trans h6⟩,h.len,h.nodup⟩
 ·rw[show({ m with mem:=m.mem.set k.toNat w }:MS).rows u L.a L.s L.me L.ho L.pr=m.rows u L.a L.s L.me L.ho L.pr by simp[MS.rows]]
  exact(hk _ (by simp) fm).trans h1
 ·obtain⟨d,hd⟩:=h.rL s hs
  obtain⟨m1,m2,m3,m4,m5,m6⟩:=(jd h hs).it
  exact⟨d,(hk _ (lp h hs) fm).trans hd⟩
theorem ML.Nt.v7 (h:L.Nt u m H) {t:Nat} (ht:t<m.bg.length) (k w:Int) (hho:∃d,bd H' L.ho=some (.row 3 1 d ((m.hold.map i64).set k.toNat (i64 w)))) (hk:∀y∈L.all,y≠L.ho→bd H' y=bd H y):L.Nt u { m with hold:=m.hold.set k.toNat w } H':=by
 obtain⟨⟨a1,a2,a3,a4,a5,b1,b2,b3,b4,c1,c2,c3,e1,e2,f1⟩,n1,n2,n3,n4,n5,n6⟩:=jd h ht
 have hm:=h.mem
 obtain⟨d1,h1⟩:=h.rM
 obtain⟨d2,h2⟩:=h.rA
 obtain⟨d3,h3⟩:=h.rS
 obtain⟨d4,h4⟩:=h.rE
 obtain⟨d5,h5⟩:=hho
 obtain⟨d6,h6⟩:=h.rP
 refine⟨⟨d1, ?_⟩,⟨d2,(hk _ (hm _ (by simp)) fm).trans h2⟩,⟨d3,(hk _ (hm _ (by simp)) fm).trans h3⟩,fun s hs=> ?_,⟨d4,(hk _ (hm _ (by simp)) fm).trans h4⟩,⟨d5,by rw[List.map_set];exact h5⟩,⟨d6,(hk _ (hm _ (by simp)) fm).trans h6⟩,h.len,h.nodup⟩
 ·rw[show({ m with hold:=m.hold.set k.toNat w }:MS).rows u L.a L.s L.me L.ho L.pr=m.rows u L.a L.s L.me L.ho L.pr by simp[MS.rows]]
  exact(hk _ (by simp) fm).trans h1
 ·obtain⟨d,hd⟩:=h.rL s hs
  obtain⟨m1,m2,m3,m4,m5,m6⟩:=(jd h hs).it
  exact⟨d,(hk _ (lp h hs) fm).trans hd⟩
theorem ML.Nt.BO (h:L.Nt u m H) {t:Nat} (ht:t<m.bg.length) (k:Nat) (w:Int) (hat:∃d,bd H' L.a=some (.row 3 1 d ((m.at_.map i64).set k (i64 w)))) (hk:∀y∈L.all,y≠L.a→bd H' y=bd H y):L.Nt u { m with at_:=m.at_.set k w } H':=by
 obtain⟨⟨a1,a2,a3,a4,a5,b1,b2,b3,b4,c1,c2,c3,e1,e2,f1⟩,n1,n2,n3,n4,n5,n6⟩:=jd h ht
 have hm:=h.mem
 obtain⟨d1,h1⟩:=h.rM
 obtain⟨d2,h2⟩:=hat
 obtain⟨d3,h3⟩:=h.rS
 obtain⟨d4,h4⟩:=h.rE
 obtain⟨d5,h5⟩:=h.rH
 obtain⟨d6,h6⟩:=h.rP
 refine⟨⟨d1, ?_⟩,⟨d2,by rw[List.map_set];exact h2⟩,⟨d3,(hk _ (hm _ (by simp)) fm).trans h3⟩,fun s hs=> ?_,⟨d4,(hk _ (hm _ (by simp)) fm).trans h4⟩,⟨d5,(hk _ (hm _ (by simp)) fm).trans h5⟩,⟨d6,(hk _ (hm _ (by simp)) fm).trans h6⟩,h.len,h.nodup⟩
 ·rw[show({ m with at_:=m.at_.set k w }:MS).rows u L.a L.s L.me L.ho L.pr=m.rows u L.a L.s L.me L.ho L.pr by simp[MS.rows]]
  exact(hk _ (by simp) fm).trans h1
 ·obtain⟨d,hd⟩:=h.rL s hs
  obtain⟨m1,m2,m3,m4,m5,m6⟩:=(jd h hs).it
  exact⟨d,(hk _ (lp h hs) fm).trans hd⟩
theorem ML.Nt.yr (h:L.Nt u m H) {t:Nat} (ht:t<m.bg.length) (p:cM) (hmr:∃d,bd H' L.mr=some (.row 80 8 d [({ m with bk:=m.bk++[p] }:MS).rows u L.a L.s L.me L.ho L.pr])) (hpr:∃d,bd H' L.pr=some (.row 89 2 d (m.bk.map cM.av++[p.av]))) (hk:∀y∈L.all,y≠L.pr→y≠L.mr→bd H' y=bd H y):L.Nt u { m with bk:=m.bk++[p] } H':=by
 obtain⟨⟨a1,a2,a3,a4,a5,b1,b2,b3,b4,c1,c2,c3,e1,e2,f1⟩,n1,n2,n3,n4,n5,n6⟩:=jd h ht
 have hm:=h.mem
 obtain⟨d2,h2⟩:=h.rA
 obtain⟨d3,h3⟩:=h.rS
 obtain⟨d4,h4⟩:=h.rE
 obtain⟨d5,h5⟩:=h.rH
 obtain⟨d6,h6⟩:=hpr
 refine⟨hmr,⟨d2,(hk _ (hm _ (by simp)) fm fm).trans h2⟩,⟨d3,(hk _ (hm _ (by simp)) fm fm).trans h3⟩,fun s hs=> ?_,⟨d4,(hk _ (hm _ (by simp)) fm fm).trans h4⟩,⟨d5,(hk _ (hm _ (by simp)) fm fm).trans h5⟩,⟨d6,by rw[List.map_append];exact h6⟩,h.len,h.nodup⟩
 obtain⟨d,hd⟩:=h.rL s hs
 obtain⟨m1,m2,m3,m4,m5,m6⟩:=(jd h hs).it
 exact⟨d,(hk _ (lp h hs) fm fm).trans hd⟩
end
end Go.Proofs.YtekfmjjmihomlaaGreat
end
section
/- The document's new machine. -/
namespace Go.Proofs.YtekfmjjmihomlaaGreat
open Go Go.cV Go.Proofs
set_option linter.unusedSimpArgs false
set_option linter.unusedVariables false
set_option maxRecDepth 8000
theorem AA (n:Nat) (u:bj) (m:MS):bw n (m.av u):=by simp[bw]
set_option maxHeartbeats 4000000 in
theorem DE (u:bj) (hu:u.Wf) (hr:ct u) (c0:Pure Tryz.prog 66 [u.av] (fun r=>r=mQ (0,0,0))):Pure Tryz.prog 67 [u.av] (fun r=>r= .dH [(cq u).av u,i64 0]):=by
 have hgl:=hr.tv
 refine dP ?_ (by simp[bw,cP])
 refine aQ GW rfl ?_
 refine cN ?_
 rw[List.length_map]
 have hsz:∀t,t<u.bh.length→0≤(u.gr t).bg∧(u.gr t).bg≤4160:=fun t ht=>by
  have h1:=(hr.gr ht).bg
  have h2:=(hr.gr ht).locals
  omega
 have hnat:(cq u).at_.length=u.bh.length:=by simp[cq]
 have hnsl:(cq u).bg.length=u.bh.length:=by simp[cq]
 have hnml:(cq u).mem.length=u.shared.length:=by simp[cq]
 have hnhl:(cq u).hold.length=u.bo.length:=by simp[cq]
 have hns:∀t,t<u.bh.length→(cq u).bg.getD t []=List.replicate (u.gr t).bg.toNat 0:=fun t ht=>by simp[cq,List.getD,bj.gr,ht]
 refine aU (fun σ:Nat×List Nat=>[(1, .pt 0 1 0 0),(2, .pt 1 1 0 0),(7, .pt 15 1 0 0),(25,cL u.bh),(26,i64 u.bh.length),(27,i64 σ.1)])
  (fun σ H n=>σ.1≤u.bh.length∧26≤n∧σ.2.length=σ.1∧σ.2.Nodup∧(∀x∈σ.2,26≤x∧x<n)∧(∃d,bd H 0=some (.row 25 3 d [u.av]))∧(∃d,bd H 1=some (.row 80 8 d [fU true [.slice none 0 0, .slice none 0 0, .slice none 0 0, .slice none 0 0, .slice none 0 0, .slice none 0 0, .slice none 0 0, .slice none 0 0]]))∧(∃d,bd H 15=some (.row 80 8 d [.agg [bn u.shared,bn u.bo,cL u.bh, .sl 21 σ.1, .sl 22 σ.1, .sl 23 0, .sl 24 0, .sl 25 0]]))∧(∃d,bd H 21=some (.row 3 1 d (((cq u).at_.take σ.1).map i64)))∧(∃d,bd H 22=some (.row 38 1 d (cx σ.2 ((cq u).bg.take σ.1))))∧(∃d,bd H 23=some (.row 2 1 d (((cq u).mem.take 0).map i64)))∧(∃d,bd H 24=some (.row 3 1 d (((cq u).hold.take 0).map i64)))∧(∃d,bd H 25=some (.row 89 2 d []))∧(∀t,t<σ.1→∃d,bd H (σ.2.getD t 0)=some (.row 2 1 d (((cq u).bg.getD t []).map i64)))) (fun σ=>u.bh.length - σ.1) (0,[])
  ⟨_,_,_,Rt.trans (Rt.wk (Wk.fV (b:=15) (nx:=21) (e:=3) (sz:=1) cU (by omega) (te:=80) (tz:=8) (cs:=[bn u.shared,bn u.bo,cL u.bh, .sc (.slice none 0 0), .sc (.slice none 0 0), .sc (.slice none 0 0), .sc (.slice none 0 0), .sc (.slice none 0 0)]) (j:=3) bf (by show 3<8;omega) rfl)) (Rt.trans (Rt.wk (Wk.fV (b:=15) (nx:=22) (e:=38) (sz:=1) cU (by omega) (te:=80) (tz:=8) (cs:=[bn u.shared,bn u.bo,cL u.bh, .sl 21 0, .sc (.slice none 0 0), .sc (.slice none 0 0), .sc (.slice none 0 0), .sc (.slice none 0 0)]) (j:=4) bf (by show 4<8;omega) rfl)) (Rt.trans (Rt.wk (Wk.fV (b:=15) (nx:=23) (e:=2) (sz:=1) cU (by omega) (te:=80) (tz:=8) (cs:=[bn u.shared,bn u.bo,cL u.bh, .sl 21 0, .sl 22 0, .sc (.slice none 0 0), .sc (.slice none 0 0), .sc (.slice none 0 0)]) (j:=5) bf (by show 5<8;omega) rfl)) (Rt.trans (Rt.wk (Wk.fV (b:=15) (nx:=24) (e:=3) (sz:=1) cU (by omega) (te:=80) (tz:=8) (cs:=[bn u.shared,bn u.bo,cL u.bh, .sl 21 0, .sl 22 0, .sl 23 0, .sc (.slice none 0 0), .sc (.slice none 0 0)]) (j:=6) bf (by show 6<8;omega) rfl)) (Rt.wk (Wk.fV (b:=15) (nx:=25) (e:=89) (sz:=2) cU (by omega) (te:=80) (tz:=8) (cs:=[bn u.shared,bn u.bo,cL u.bh, .sl 21 0, .sl 22 0, .sl 23 0, .sl 24 0, .sc (.slice none 0 0)]) (j:=7) bf (by show 7<8;omega) rfl))))),cC,Nat.zero_le _,cU,rfl,List.nodup_nil,fun x hx=>by simp at hx,⟨_,bf⟩,⟨_,bf⟩,⟨_,bf⟩,⟨_,bf⟩,⟨_,bf⟩,⟨_,bf⟩,⟨_,bf⟩,⟨_,bf⟩,fun t ht=>absurd ht (Nat.not_lt_zero _)⟩ ?_
 rintro⟨t,ids⟩ H n ⟨ht,hn,hil,hnd,hin,⟨d0,r0'⟩,⟨d1,r1'⟩,⟨d2,r2'⟩,⟨d3,r3'⟩,⟨d4,r4⟩,⟨d5,r5⟩,⟨d6,r6⟩,⟨d7,r7⟩,hls⟩
 dsimp only at ht hil hnd hin r2' r3' r4 hls ⊢
 have htk:((cq u).bg.take t).length=t:=by rw[List.length_take];omega
 have htk2:(((cq u).at_.take t).map i64).length=t:=by rw[List.length_map,List.length_take];omega
 have hrl:(cx ids ((cq u).bg.take t)).length=t:=by unfold cx;rw[List.length_map,List.length_zip,htk,hil];omega
 by_cases htl:t<u.bh.length
 ·have e0:=fun d=>oz (l:=u.bh) htl d
  rw[show u.bh.getD t default=u.gr t from rfl] at e0
  have a0:(u.bh.map cB.av).length=u.bh.length:=by simp
  obtain⟨s1,s2⟩:=hsz t htl
  have hnx1:((cq u).at_.take (t+1)).map i64=((cq u).at_.take t).map i64++[i64 0]:=by
   rw[List.take_succ_eq_append_getElem (by omega),List.map_append]
   simp[cq]
  have hnx3:((cq u).bg.getD t []).map i64=List.replicate (u.gr t).bg.toNat (i64 0):=by rw[hns t htl];simp
  have hnx2:cx (ids++[n+15]) ((cq u).bg.take (t+1))=cx ids ((cq u).bg.take t)++[.sl (n+15) (u.gr t).bg.toNat]:=by
   have e:=hns t htl
   rw[List.take_succ_eq_append_getElem (by omega),mB (by rw[hil,htk]),show(cq u).bg[t]'(by omega)=List.replicate (u.gr t).bg.toNat 0 by rw[←e];simp[List.getD,show t<(cq u).bg.length by omega]]
   simp
  refine cN ?_
  refine⟨(t+1,ids++[n+15]),by dsimp only;omega,_,_,_,Rt.refl _ _ _,cC,by dsimp only;omega,cU,by simp[hil], ?_, ?_,⟨_,bf⟩,⟨_,bf⟩,⟨_,bf⟩,⟨_,by dsimp only;rw[hnx1];exact bf⟩,⟨_,by dsimp only;rw[hnx2];exact bf⟩,⟨_,bf⟩,⟨_,bf⟩,⟨_,bf⟩, ?_⟩
  ·refine List.nodup_append.2 ⟨hnd,by simp,fun a ha b hb=> ?_⟩
   simp only[List.mem_cons,List.not_mem_nil,or_false] at hb
   have:=hin _ ha;omega
  ·intro x hx
   rcases List.mem_append.1 hx with hx|hx
   ·have:=hin _ hx;exact⟨this.1,Nat.lt_of_lt_of_le this.2 cU⟩
   ·simp only[List.mem_cons,List.not_mem_nil,or_false] at hx
    subst hx;exact⟨by omega,cU⟩
  ·intro q hq
   have hq:q<t+1:=hq
   by_cases e:q=t
   ·subst e
    have e2:(ids++[n+15]).getD q 0=n+15:=by rw[List.getD,List.getElem?_append_right (by omega),hil,Nat.sub_self];rfl
    dsimp only
    rw[e2,hnx3];exact⟨_,bf⟩
   ·obtain⟨d,hd⟩:=hls q (by omega)
    have e2:(ids++[n+15]).getD q 0=ids.getD q 0:=by simp[List.getD,List.getElem?_append,show q<ids.length by omega]
    have:=hin _ (dU (l:=ids) (q:=q) (by omega))
    dsimp only
    rw[e2];exact⟨d,Eq.trans br hd⟩
 ·obtain rfl:t=u.bh.length:=by omega
  rw[List.take_of_length_le (by omega)] at r3' r4
  refine cN ?_
  rw[List.length_map]
  refine aP (fun j:Nat=>[(1, .pt 0 1 0 0),(2, .pt 1 1 0 0),(7, .pt 15 1 0 0),(46,bn u.shared),(47,i64 u.shared.length),(48,i64 j)])
   (fun j H n=>j≤u.shared.length∧26≤n∧(∀x∈ids,26≤x∧x<n)∧(∃d,bd H 0=some (.row 25 3 d [u.av]))∧(∃d,bd H 1=some (.row 80 8 d [fU true [.slice none 0 0, .slice none 0 0, .slice none 0 0, .slice none 0 0, .slice none 0 0, .slice none 0 0, .slice none 0 0, .slice none 0 0]]))∧(∃d,bd H 15=some (.row 80 8 d [.agg [bn u.shared,bn u.bo,cL u.bh, .sl 21 u.bh.length, .sl 22 u.bh.length, .sl 23 j, .sl 24 0, .sl 25 0]]))∧(∃d,bd H 21=some (.row 3 1 d ((cq u).at_.map i64)))∧(∃d,bd H 22=some (.row 38 1 d (cx ids (cq u).bg)))∧(∃d,bd H 23=some (.row 2 1 d (((cq u).mem.take j).map i64)))∧(∃d,bd H 24=some (.row 3 1 d ([])))∧(∃d,bd H 25=some (.row 89 2 d []))∧(∀t,t<u.bh.length→∃d,bd H (ids.getD t 0)=some (.row 2 1 d (((cq u).bg.getD t []).map i64)))) (fun j=>u.shared.length - j) 0 cC
   ⟨Nat.zero_le _,cU,fun x hx=>⟨(hin x hx).1,Nat.lt_of_lt_of_le (hin x hx).2 cU⟩,⟨_,bf⟩,⟨_,bf⟩,⟨_,bf⟩,⟨_,bf⟩,⟨_,bf⟩,⟨_,bf⟩,⟨_,bf⟩,⟨_,bf⟩,fun q hq=>by
    obtain⟨d,hd⟩:=hls q hq
    have:=hin _ (dU (l:=ids) (q:=q) (by omega))
    exact⟨d,Eq.trans br hd⟩⟩ ?_
  clear r0' r1' r2' r3' r4 r5 r6 r7 hls hin hn
  rintro j H n ⟨hj,hn,hin,⟨d0,r0'⟩,⟨d1,r1'⟩,⟨d2,r2'⟩,⟨d3,r3'⟩,⟨d4,r4⟩,⟨d5,r5⟩,⟨d6,r6⟩,⟨d7,r7⟩,hls⟩
  have hmk:(((cq u).mem.take j).map i64).length=j:=by simp;omega
  by_cases hjl:j<u.shared.length
  ·have e0:∀d,(u.shared.map Decl.av).getD ((j:Int)).toNat d=(u.shared.getD j default).av:=fun d=>by rw[Int.toNat_natCast];exact cu Decl.av u.shared j d hjl
   have a0:(u.shared.map Decl.av).length=u.shared.length:=by simp
   have hnx1:((cq u).mem.take (j+1)).map i64=((cq u).mem.take j).map i64++[i64 (u.shared.getD j default).word]:=by
    rw[List.take_succ_eq_append_getElem (by omega),List.map_append]
    simp[cq,List.getD,hjl]
   refine cN ?_
   exact⟨j+1,by omega,cC,by omega,cU,fun x hx=>⟨(hin x hx).1,Nat.lt_of_lt_of_le (hin x hx).2 cU⟩,⟨_,bf⟩,⟨_,bf⟩,⟨_,bf⟩,⟨_,bf⟩,⟨_,bf⟩,⟨_,by rw[hnx1];exact bf⟩,⟨_,bf⟩,⟨_,bf⟩,fun q hq=>by
    obtain⟨d,hd⟩:=hls q hq
    have:=hin _ (dU (l:=ids) (q:=q) (by omega))
    exact⟨d,Eq.trans br hd⟩⟩
  ·obtain rfl:j=u.shared.length:=by omega
   rw[List.take_of_length_le (by omega)] at r5
   refine cN ?_
   rw[List.length_map]
   refine aP (fun j:Nat=>[(1, .pt 0 1 0 0),(2, .pt 1 1 0 0),(7, .pt 15 1 0 0),(62,i64 u.bo.length),(63,i64 j)])
    (fun j H n=>j≤u.bo.length∧26≤n∧(∀x∈ids,26≤x∧x<n)∧(∃d,bd H 0=some (.row 25 3 d [u.av]))∧(∃d,bd H 1=some (.row 80 8 d [fU true [.slice none 0 0, .slice none 0 0, .slice none 0 0, .slice none 0 0, .slice none 0 0, .slice none 0 0, .slice none 0 0, .slice none 0 0]]))∧(∃d,bd H 15=some (.row 80 8 d [.agg [bn u.shared,bn u.bo,cL u.bh, .sl 21 u.bh.length, .sl 22 u.bh.length, .sl 23 u.shared.length, .sl 24 j, .sl 25 0]]))∧(∃d,bd H 21=some (.row 3 1 d ((cq u).at_.map i64)))∧(∃d,bd H 22=some (.row 38 1 d (cx ids (cq u).bg)))∧(∃d,bd H 23=some (.row 2 1 d ((cq u).mem.map i64)))∧(∃d,bd H 24=some (.row 3 1 d (((cq u).hold.take j).map i64)))∧(∃d,bd H 25=some (.row 89 2 d []))∧(∀t,t<u.bh.length→∃d,bd H (ids.getD t 0)=some (.row 2 1 d (((cq u).bg.getD t []).map i64)))) (fun j=>u.bo.length - j) 0 cC
    ⟨Nat.zero_le _,cU,fun x hx=>⟨(hin x hx).1,Nat.lt_of_lt_of_le (hin x hx).2 cU⟩,⟨_,bf⟩,⟨_,bf⟩,⟨_,bf⟩,⟨_,bf⟩,⟨_,bf⟩,⟨_,bf⟩,⟨_,bf⟩,⟨_,bf⟩,fun q hq=>by
     obtain⟨d,hd⟩:=hls q hq
     have:=hin _ (dU (l:=ids) (q:=q) (by omega))
     exact⟨d,Eq.trans br hd⟩⟩ ?_
   clear r0' r1' r2' r3' r4 r5 r6 r7 hls hin hn hmk
   rintro j H n ⟨hj,hn,hin,⟨d0,r0'⟩,⟨d1,r1'⟩,⟨d2,r2'⟩,⟨d3,r3'⟩,⟨d4,r4⟩,⟨d5,r5⟩,⟨d6,r6⟩,⟨d7,r7⟩,hls⟩
   have hmk:(((cq u).hold.take j).map i64).length=j:=by simp;omega
   by_cases hjl:j<u.bo.length
   ·have hnx1:((cq u).hold.take (j+1)).map i64=((cq u).hold.take j).map i64++[i64 (-1)]:=by
     rw[List.take_succ_eq_append_getElem (by omega),List.map_append]
     simp[cq]
    refine cN ?_
    exact⟨j+1,by omega,cC,by omega,cU,fun x hx=>⟨(hin x hx).1,Nat.lt_of_lt_of_le (hin x hx).2 cU⟩,⟨_,bf⟩,⟨_,bf⟩,⟨_,bf⟩,⟨_,bf⟩,⟨_,bf⟩,⟨_,bf⟩,⟨_,by rw[hnx1];exact bf⟩,⟨_,bf⟩,fun q hq=>by
     obtain⟨d,hd⟩:=hls q hq
     have:=hin _ (dU (l:=ids) (q:=q) (by omega))
     exact⟨d,Eq.trans br hd⟩⟩
   ·obtain rfl:j=u.bo.length:=by omega
    rw[List.take_of_length_le (by omega)] at r6
    refine cN ?_
    refine⟨?_⟩
    have hN:L4 u (cq u) 15 21 22 23 24 25 ids H:=by
     refine⟨⟨d2, ?_⟩,⟨_,r3'⟩,⟨_,r4⟩,fun t ht=>hls t (by rw[←hnsl];exact ht),⟨_,r5⟩,⟨_,r6⟩,⟨_,r7⟩,by rw[hnsl];exact hil, ?_⟩
     ·rw[r2'];simp[MS.rows,cq]
     ·have hno:∀k,k<26→k∉ids:=fun k hk h=>by have:=hin _ h;omega
      simp only[List.nodup_cons,List.mem_cons,not_or]
      exact⟨⟨by omega,by omega,by omega,by omega,by omega,hno _ (by omega)⟩,⟨by omega,by omega,by omega,by omega,hno _ (by omega)⟩,⟨by omega,by omega,by omega,hno _ (by omega)⟩,⟨by omega,by omega,hno _ (by omega)⟩,⟨by omega,hno _ (by omega)⟩,hno _ (by omega),hnd⟩
    have hN1:ML.Nt ⟨15,21,22,23,24,25,ids⟩ u (cq u) H:=hN
    have hN2:ML.Nt ⟨15,21,22,23,24,25,ids⟩ u (cq u) ((1,some (.row 80 8 d1 [(cq u).rows u 21 22 23 24 25]))::H):=hN1.cO fun y hy=>by
     refine bz ?_
     rcases List.mem_cons.1 hy with rfl|hy
     ·show 15≠1;omega
     simp only[List.mem_cons] at hy
     rcases hy with rfl|rfl|rfl|rfl|rfl|hy
     all_goals first
      |(intro h;exact absurd h (by decide))
      |(have:=hin _ hy;omega)
    have hf:=hN2.JZ 2
    have hrows:(cq u).rows u 21 22 23 24 25= .agg [bn u.shared,bn u.bo,cL u.bh, .sl 21 u.bh.length, .sl 22 u.bh.length, .sl 23 u.shared.length, .sl 24 u.bo.length, .sl 25 0]:=by simp[MS.rows,cq]
    rw[hrows] at hf
    show AV.dH [cV.dR ((1,some (.row 80 8 d1 [.agg [bn u.shared,bn u.bo,cL u.bh, .sl 21 u.bh.length, .sl 22 u.bh.length, .sl 23 u.shared.length, .sl 24 u.bo.length, .sl 25 0]]))::H) 5 (.agg [bn u.shared,bn u.bo,cL u.bh, .sl 21 u.bh.length, .sl 22 u.bh.length, .sl 23 u.shared.length, .sl 24 u.bo.length, .sl 25 0]),i64 0]=_
    rw[hf]
end Go.Proofs.YtekfmjjmihomlaaGreat
end
section
/- How a machine stands, as an end; a slot told anew ahead of a drawn stretch. -/
namespace Go.Proofs.YtekfmjjmihomlaaGreat
open Go Go.cV Go.Proofs
set_option linter.unusedSimpArgs false
set_option linter.unusedVariables false
set_option maxRecDepth 8000
theorem vH {P:Program} {ss:List pK} {fr fr2:Fr} {H H2:Hp} {nx nx2:Nat} {Q:QT} (h:Rt fr H nx fr2 H2 nx2) (k:fY P ss fr2 H2 nx2 Q):fY P ss fr H nx Q:=
 ⟨fun n lo code hc w0 M0 c0 a w hh=>k.1 n lo code hc w0 M0 c0 a w (h w0 M0 c0 lo n a w hh)⟩
theorem BW {P:Program} {ss:List pK} {fr fr2:Fr} {H H2:Hp} {nx nx2:Nat} {Q:QT} (h:Rt fr H nx fr2 H2 nx2) (C:Hp→Prop) (hC:C H2) (k:∀H3,C H3→fY P ss fr2 H3 nx2 Q):fY P ss fr H nx Q:=vH h (k H2 hC)
end Go.Proofs.YtekfmjjmihomlaaGreat
end
section
/- The document's Copy of a machine. -/
namespace Go.Proofs.YtekfmjjmihomlaaGreat
open Go Go.cV Go.Proofs
set_option linter.unusedSimpArgs false
set_option linter.unusedVariables false
set_option maxRecDepth 8000
set_option maxHeartbeats 4000000 in
theorem qw (u:bj) (hr:ct u) (m:MS) (h:eN u m) (hne:m.at_≠[]) (hp:m.bk.length≤1048576) (H0:Hp) (nx:Nat):cJ Tryz.prog 70 [m.av u] H0 nx (fun r H n=>∃(mr:Nat) (a s me ho pr:Nat) (ids:List Nat),r=m.rows u a s me ho pr∧L4 u m mr a s me ho pr ids H∧(∀x∈mr::a::s::me::ho::pr::ids,nx≤x∧x<n)∧nx≤n∧∀y,y<nx→bd H y=bd H0 y):=by
 have hgl:=hr.tv
 have a0:(m.at_.map i64).length=m.at_.length:=by simp
 have a1:(m.bg.map cW).length=m.bg.length:=by simp
 have a2:(m.mem.map i64).length=m.mem.length:=by simp
 have a3:(m.hold.map i64).length=m.hold.length:=by simp
 have a4:(m.bk.map cM.av).length=m.bk.length:=by simp
 have hal:=h.nD
 have hsl:=h.sl
 have hml:=h.ml
 have hhl:=h.hl
 have hap:0<m.at_.length:=List.length_pos_iff.2 hne
 refine aQ GY rfl ?_
 refine cN ?_
 simp only[List.length_map]
 refine aU (fun σ:Nat×List Nat=>[(1, .pt nx 1 0 0),(2, .pt (nx+1) 1 0 0),(3, .pt (nx+5) 1 0 0),(17,pc m.bg),(18,i64 m.bg.length),(19,i64 σ.1)])
  (fun σ H n=>σ.1≤m.bg.length∧nx+22≤n∧σ.2.length=σ.1∧σ.2.Nodup∧(∀x∈σ.2,nx+22≤x∧x<n)∧(∃d,bd H nx=some (.row 80 8 d [m.av u]))∧(∃d,bd H (nx+1)=some (.row 80 8 d [fU true [.slice none 0 0, .slice none 0 0, .slice none 0 0, .slice none 0 0, .slice none 0 0, .slice none 0 0, .slice none 0 0, .slice none 0 0]]))∧(∃d,bd H (nx+5)=some (.row 80 8 d [.agg [bn u.shared,bn u.bo,cL u.bh, .sl (nx+11) m.at_.length, .sl (nx+18) σ.1, .sl (nx+19) 0, .sl (nx+20) 0, .sl (nx+21) 0]]))∧(∃d,bd H (nx+11)=some (.row 3 1 d (m.at_.map i64)))∧(∃d,bd H (nx+18)=some (.row 38 1 d (cx σ.2 (m.bg.take σ.1))))∧(∃d,bd H (nx+19)=some (.row 2 1 d []))∧(∃d,bd H (nx+20)=some (.row 3 1 d []))∧(∃d,bd H (nx+21)=some (.row 89 2 d []))∧(∀t,t<σ.1→∃d,bd H (σ.2.getD t 0)=some (.row 2 1 d ((m.bg.getD t []).map i64)))∧∀y,y<nx→bd H y=bd H0 y) (fun σ=>m.bg.length - σ.1) (0,[])
  ⟨_,_,_,Rt.trans (Rt.wk (Wk.fV (b:=nx+5) (nx:=nx+18) (e:=38) (sz:=1) (by omega) (by omega) (te:=80) (tz:=8) (d:=fU true [.slice none 0 0, .slice none 0 0, .slice none 0 0, .slice none 0 0, .slice none 0 0, .slice none 0 0, .slice none 0 0, .slice none 0 0]) (cs:=[bn u.shared,bn u.bo,cL u.bh, .sl (nx+11) m.at_.length, .sc (.slice none 0 0), .sc (.slice none 0 0), .sc (.slice none 0 0), .sc (.slice none 0 0)]) (j:=4) bf (by show 4<8;omega) rfl)) (Rt.trans (Rt.wk (Wk.fV (b:=nx+5) (nx:=nx+19) (e:=2) (sz:=1) (by omega) (by omega) (te:=80) (tz:=8) (d:=fU true [.slice none 0 0, .slice none 0 0, .slice none 0 0, .slice none 0 0, .slice none 0 0, .slice none 0 0, .slice none 0 0, .slice none 0 0]) (cs:=[bn u.shared,bn u.bo,cL u.bh, .sl (nx+11) m.at_.length, .sl (nx+18) 0, .sc (.slice none 0 0), .sc (.slice none 0 0), .sc (.slice none 0 0)]) (j:=5) bf (by show 5<8;omega) rfl)) (Rt.trans (Rt.wk (Wk.fV (b:=nx+5) (nx:=nx+20) (e:=3) (sz:=1) (by omega) (by omega) (te:=80) (tz:=8) (d:=fU true [.slice none 0 0, .slice none 0 0, .slice none 0 0, .slice none 0 0, .slice none 0 0, .slice none 0 0, .slice none 0 0, .slice none 0 0]) (cs:=[bn u.shared,bn u.bo,cL u.bh, .sl (nx+11) m.at_.length, .sl (nx+18) 0, .sl (nx+19) 0, .sc (.slice none 0 0), .sc (.slice none 0 0)]) (j:=6) bf (by show 6<8;omega) rfl)) (Rt.wk (Wk.fV (b:=nx+5) (nx:=nx+21) (e:=89) (sz:=2) (by omega) (by omega) (te:=80) (tz:=8) (d:=fU true [.slice none 0 0, .slice none 0 0, .slice none 0 0, .slice none 0 0, .slice none 0 0, .slice none 0 0, .slice none 0 0, .slice none 0 0]) (cs:=[bn u.shared,bn u.bo,cL u.bh, .sl (nx+11) m.at_.length, .sl (nx+18) 0, .sl (nx+19) 0, .sl (nx+20) 0, .sc (.slice none 0 0)]) (j:=7) bf (by show 7<8;omega) rfl)))),cC,Nat.zero_le _,cU,rfl,List.nodup_nil,fun x hx=>(by cases hx),⟨_,bf⟩,⟨_,bf⟩,⟨_,bf⟩,⟨_,bf⟩,⟨_,bf⟩,⟨_,bf⟩,⟨_,bf⟩,⟨_,bf⟩,fun t ht=>absurd ht (Nat.not_lt_zero _),fun y hy=>br⟩ ?_
 rintro⟨k,ids⟩ H n ⟨hk,hn,hil,hnd,hin,⟨d0,r0'⟩,⟨d1,r1'⟩,⟨d2,r2'⟩,⟨d3,r3'⟩,⟨d4,r4⟩,⟨d5,r5⟩,⟨d6,r6⟩,⟨d7,r7⟩,hls,hkp⟩
 dsimp only at hk hil hnd hin r2' r4 hls ⊢
 have htk:(m.bg.take k).length=k:=by rw[List.length_take];omega
 have hrl:(cx ids (m.bg.take k)).length=k:=by unfold cx;rw[List.length_map,List.length_zip,htk,hil];omega
 by_cases hkl:k<m.bg.length
 ·have e0:∀d,(m.bg.map cW).getD ((k:Int)).toNat d=cW (m.bg.getD k []):=fun d=>by rw[Int.toNat_natCast];exact cu cW m.bg k d hkl
  have a5:((m.bg.getD k []).map i64).length=(m.bg.getD k []).length:=by simp
  have hsll:(m.bg.getD k []).length≤4160:=by
   have h1:=h.xi k (by omega)
   have h2:=(hr.gr (t:=k) (by omega)).bg
   have h3:=(hr.gr (t:=k) (by omega)).locals
   omega
  refine JB ?_
  refine vH (Rt.nil 6 2 1 (by omega) rfl) ?_
  refine cN ?_
  have hnx2:cx (ids++[n+5]) (m.bg.take (k+1))=cx ids (m.bg.take k)++[.sl (n+5) (0+((m.bg.getD k []).map i64).length)]:=by
   rw[List.take_succ_eq_append_getElem hkl,mB (by rw[hil,htk]),show m.bg[k]=m.bg.getD k [] by simp[List.getD,hkl]]
   simp
  refine⟨(k+1,ids++[n+5]),by dsimp only;omega,_,_,_,Rt.refl _ _ _,cC,by dsimp only;omega,cU,by simp[hil], ?_, ?_,⟨_,bf⟩,⟨_,bf⟩,⟨_,bf⟩,⟨_,bf⟩,⟨_,by dsimp only;rw[hnx2];exact bf⟩,⟨_,bf⟩,⟨_,bf⟩,⟨_,bf⟩, ?_,fun y hy=>Eq.trans br (hkp y hy)⟩
  ·refine List.nodup_append.2 ⟨hnd,by simp,fun a ha b hb=> ?_⟩
   simp only[List.mem_cons,List.not_mem_nil,or_false] at hb
   have:=hin _ ha;omega
  ·intro x hx
   rcases List.mem_append.1 hx with hx|hx
   ·have:=hin _ hx;exact⟨this.1,Nat.lt_of_lt_of_le this.2 cU⟩
   ·simp only[List.mem_cons,List.not_mem_nil,or_false] at hx
    subst hx;exact⟨by omega,cU⟩
  ·intro q hq
   have hq:q<k+1:=hq
   by_cases e:q=k
   ·subst e
    have e2:(ids++[n+5]).getD q 0=n+5:=by rw[List.getD,List.getElem?_append_right (by omega),hil,Nat.sub_self];rfl
    dsimp only
    rw[e2];exact⟨_,bf⟩
   ·obtain⟨d,hd⟩:=hls q (by omega)
    have e2:(ids++[n+5]).getD q 0=ids.getD q 0:=by simp[List.getD,List.getElem?_append,show q<ids.length by omega]
    have:=hin _ (dU (l:=ids) (q:=q) (by omega))
    dsimp only
    rw[e2];exact⟨d,Eq.trans br hd⟩
 ·obtain rfl:k=m.bg.length:=by omega
  rw[List.take_of_length_le (by omega)] at r4
  refine cN ?_
  have hrow:m.rows u (nx+11) (nx+18) (nx+19) (nx+20) (nx+21)= .agg [bn u.shared,bn u.bo,cL u.bh, .sl (nx+11) m.at_.length, .sl (nx+18) m.bg.length, .sl (nx+19) (0+(m.mem.map i64).length), .sl (nx+20) (0+(m.hold.map i64).length), .sl (nx+21) (0+(m.bk.map cM.av).length)]:=by simp[MS.rows]
  have hno:∀j,j<nx+22→j∉ids:=fun j hj h=>by have:=hin _ h;omega
  refine⟨nx+5,nx+11,nx+18,nx+19,nx+20,nx+21,ids,by rw[hrow];rfl,⟨⟨d2,by rw[hrow];exact bf⟩,⟨_,bf⟩,⟨_,bf⟩,fun t ht=> ?_,⟨_,bf⟩,⟨_,bf⟩,⟨_,bf⟩,hil, ?_⟩,fun x hx=> ?_,cU,fun y hy=>Eq.trans br (hkp y hy)⟩
  ·obtain⟨d,hd⟩:=hls t ht
   have:=hin _ (dU (l:=ids) (q:=t) (by omega))
   exact⟨d,Eq.trans br hd⟩
  ·simp only[List.nodup_cons,List.mem_cons,not_or]
   exact⟨⟨by omega,by omega,by omega,by omega,by omega,hno _ (by omega)⟩,⟨by omega,by omega,by omega,by omega,hno _ (by omega)⟩,⟨by omega,by omega,by omega,hno _ (by omega)⟩,⟨by omega,by omega,hno _ (by omega)⟩,⟨by omega,hno _ (by omega)⟩,hno _ (by omega),hnd⟩
  ·simp only[List.mem_cons] at hx
   rcases hx with rfl|rfl|rfl|rfl|rfl|rfl|hx
   all_goals first
    |omega
    |(have:=hin _ hx;exact⟨by omega,Nat.lt_of_lt_of_le this.2 cU⟩)
end Go.Proofs.YtekfmjjmihomlaaGreat
end
section
/- The document's small functions of a machine. -/
namespace Go.Proofs.YtekfmjjmihomlaaGreat
open Go Go.cV Go.Proofs
set_option linter.unusedSimpArgs false
set_option linter.unusedVariables false
set_option maxRecDepth 8000
theorem qx (u:bj) (m:MS) (hg:u.bh.length≤8) (h:eN u m) {t:Nat} (ht:t<u.bh.length):Pure Tryz.prog 101 [m.av u,i64 t] (fun r=>r=(m.node u t).av):=by
 have hl:=h.nD
 obtain⟨p0,p1⟩:=h.gn t ht
 have e0:=fun d=>oz (l:=u.bh) ht d
 have e1:=fun d=>eG (l:=m.at_) (k:=t) (by omega) d
 obtain⟨j,hj⟩:∃j:Nat,m.at_.getD t 0=j:=⟨(m.at_.getD t 0).toNat,by omega⟩
 rw[hj] at e1 p1
 have hnd:m.node u t=(u.gr t).nd j:=by unfold MS.node;rw[hj,Int.toNat_natCast]
 rw[hnd]
 rw[show u.bh.getD t default=u.gr t from rfl] at e0
 generalize u.gr t=g at *
 have e2:=fun d=>gb (l:=g.nodes) (i:=j) (by omega) d
 have a0:(u.bh.map cB.av).length=u.bh.length:=by simp
 have a1:(m.at_.map i64).length=u.bh.length:=by simp[hl]
 have a2:(g.nodes.map Node.av).length=g.nodes.length:=by simp
 refine aI vj rfl ?_
 refine cN ?_
 first|exact rfl|trivial
theorem oe (u:bj) (hr:ct u) (m:MS) (h:eN u m) (t:Int):Pure Tryz.prog 100 [m.av u,i64 t] (fun r=>r=i64 (m.mC u t)):=by
 have hl:=h.nD
 have hg:=hr.tv
 by_cases ht:t<0∨(m.at_.length:Int)≤t
 ·rw[zo ht]
  refine aI nh rfl ?_
  by_cases h1:t<0
  ·refine cN ?_
   first|exact rfl|trivial
  ·have h2:((m.at_.map i64).length:Int)≤t:=by rw[List.length_map];omega
   refine cN ?_
   first|exact rfl|trivial
 ·obtain⟨k,rfl⟩:∃k:Nat,t=k:=⟨t.toNat,by omega⟩
  have hk:k<u.bh.length:=by omega
  have hbar:m.mC u k=if(m.node u k).kind=9 then 70 else if(m.node u k).kind=5∧0≤m.hold.getD (m.node u k).bx.toNat 0 then 71 else 0:=by
   unfold MS.mC;rw[if_neg ht,Int.toNat_natCast]
  rw[hbar]
  have hno:=h.node hr hk
  have c0:=qx u m (by omega) h hk
  generalize m.node u k=n at *
  have a3:(m.hold.map i64).length=u.bo.length:=by simp[h.hl]
  have a4:(m.at_.map i64).length=u.bh.length:=by simp[hl]
  by_cases h9:n.kind=9
  ·have r0:=h9
   rw[if_pos h9]
   refine aI nh rfl ?_
   refine cN ?_
   first|exact rfl|trivial
  ·rw[if_neg h9]
   by_cases h5:n.kind=5
   ·have hth:=hno.bx.1 (by unfold eS;exact decide_eq_true (by omega))
    rw[if_pos (.inl h5)] at hth
    have hhl:=h.hl
    have e3:=fun d=>gW (l:=m.hold) (k:=n.bx) (by omega) d
    have r0:=h5
    by_cases hh:0≤m.hold.getD n.bx.toNat 0
    ·rw[if_pos ⟨h5,hh⟩]
     refine aI nh rfl ?_
     refine cN ?_
     first|exact rfl|trivial
    ·rw[if_neg fun e=>hh e.2]
     refine aI nh rfl ?_
     refine cN ?_
     first|exact rfl|trivial
   ·rw[if_neg fun e=>h5 e.1]
    have r1:=decide_eq_false h5
    refine aI nh rfl ?_
    refine cN ?_
    first|exact rfl|trivial
theorem ej (u:bj) (m:MS) {t:Nat} (v:jH) (ht:t<m.bg.length) (hl:m.bg.length≤8) (hv:jj m t v):Pure Tryz.prog 103 [m.av u,i64 t,v.av] (fun r=>r=i64 (m.val t v)):=by
 unfold MS.val
 have e0:∀d,(m.bg.map cW).getD ((t:Int)).toNat d=cW (m.bg.getD t []):=fun d=>by rw[Int.toNat_natCast];exact cu cW m.bg t d ht
 have a0:(m.bg.map cW).length=m.bg.length:=by simp
 cases hs:v.gX with
 |true=>
  have r0:=hs
  obtain⟨v1,v2⟩:=hv hs
  have a1:((m.bg.getD t []).map i64).length=(m.bg.getD t []).length:=by simp
  have e1:=fun d=>gW (l:=m.bg.getD t []) (k:=v.slot) (by omega) d
  rw[if_pos rfl]
  refine aI sx rfl ?_
  refine cN ?_
  first|exact rfl|trivial
 |false=>
  have r0:=hs
  rw[if_neg (by decide)]
  refine aI sx rfl ?_
  refine cN ?_
  first|exact rfl|trivial
theorem pG (t:Bool):Pure Tryz.prog 153 [bl t] (fun r=>r= .dH [i64 (tr t),i64 0]):=by
 cases t<;>
 ·refine aI wO rfl ?_
  refine cN ?_
  first|exact rfl|trivial
theorem DF (a b:Int):Pure Tryz.prog 152 [i64 a,i64 b] (fun r=>r=i64 (xF a b)):=by
 unfold xF
 by_cases h0:b=0
 ·rw[if_pos h0]
  refine aI qd rfl ?_
  refine cN ?_
  first|exact rfl|trivial
 ·rw[if_neg h0]
  by_cases h1:b=-1
  ·rw[if_pos h1]
   refine aI qd rfl ?_
   refine cN ?_
   first|exact rfl|trivial
  ·rw[if_neg h1]
   refine aI qd rfl ?_
   refine cN ?_
   first|exact rfl|trivial
theorem M8 (b:Int):IntKind.u64.wrap (IntKind.i64.wrap ((BitVec.ofInt 64 b&&& BitVec.ofInt 64 63).toNat:Int))=tn b:=by
 have e1:BitVec.ofInt 64 (IntKind.u64.wrap b)=BitVec.ofInt 64 b:=by
  rw[IntKind.wrap_u64]
  apply BitVec.eq_of_toNat_eq
  simp only[BitVec.toNat_ofInt]
  congr 1
  omega
 unfold tn
 rw[e1]
 have h:(BitVec.ofInt 64 b&&& BitVec.ofInt 64 63).toNat≤63:=by
  rw[BitVec.toNat_and]
  refine Nat.le_trans Nat.and_le_right ?_
  decide
 generalize (BitVec.ofInt 64 b&&& BitVec.ofInt 64 63).toNat=n at *
 rw[IntKind.wrap_i64,IntKind.wrap_u64,IntKind.wrap_u64]
 omega
theorem K1 (op a b:Int) (h:dN op=true):Pure Tryz.prog 136 [u8 op,i64 a,i64 b] (fun r=>r= .dH [i64 (IX op a b),i64 0]):=by
 have c0:=DF a b
 have k0:=pG
 have hc:=M8 b
 have hn:0≤tn b:=by unfold tn;rw[IntKind.wrap_u64];omega
 have a0:0≤IntKind.u64.wrap (IntKind.i64.wrap ((BitVec.ofInt IntKind.i64.bits b&&& BitVec.ofInt IntKind.i64.bits 63).toNat:Int)):=by
  show 0≤IntKind.u64.wrap (IntKind.i64.wrap ((BitVec.ofInt 64 b&&& BitVec.ofInt 64 63).toNat:Int))
  rw[hc];exact hn
 refine aI wF rfl ?_
 rcases tK h with rfl|rfl|rfl|rfl|rfl|rfl|rfl|rfl|rfl|rfl|rfl|rfl|rfl|rfl|rfl|rfl
 case inr.inr.inr.inr.inl=>
  by_cases h0:b=0
  ·refine cN ?_
   show _=AV.dH [i64 (uO a b),i64 0]
   unfold uO
   rw[if_pos h0]
  ·refine cN ?_
   show _=AV.dH [i64 (uO a b),i64 0]
   unfold uO
   rw[if_neg h0]
 case inr.inr.inr.inr.inr.inr.inr.inr.inl=>
  refine cN ?_
  show _=AV.dH [i64 (K9 a b),i64 0]
  unfold K9
  rw[←hc]
  rfl
 case inr.inr.inr.inr.inr.inr.inr.inr.inr.inl=>
  refine cN ?_
  show _=AV.dH [i64 (DK a b),i64 0]
  unfold DK
  rw[←hc]
  rfl
 all_goals (refine cN ?_;exact rfl)
theorem H9 (op a:Int) (h:op=17∨op=18):Pure Tryz.prog 137 [u8 op,i64 a] (fun r=>r= .dH [i64 (HX op a),i64 0]):=by
 have k0:=pG
 refine aI wG rfl ?_
 rcases h with rfl|rfl
 all_goals (refine cN ?_;exact rfl)
theorem uS (u:bj) (m:MS) {t:Nat} (n:Node) (ht:t<m.bg.length) (hl:m.bg.length≤8) (hva:jj m t n.a) (hvb:dN n.op=true→jj m t n.b) (hop:0≤n.op∧n.op<19):Pure Tryz.prog 102 [m.av u,i64 t,n.av] (fun r=>r=i64 (m.lQ t n)):=by
 have hfr:∀(v:jH) (H1:Hp),[m.av u,i64 t,v.av].map (cV.dR H1 6)=[m.av u,i64 t,v.av]:=fun v H1=>by
  rw[List.map_cons,List.map_cons,List.map_cons,List.map_nil,cr _ (AA 0 u m),cr _ (show bw 0 (i64 t) by simp[bw]),cr _ (show bw 0 v.av by simp[bw])]
 have c2:=fk n.op
 unfold MS.lQ
 cases h2:dN n.op with
 |true=>
  rw[h2] at c2
  have c3:=K1 n.op (m.val t n.a) (m.val t n.b) h2
  have hne:¬n.op=0:=by unfold dN at h2;simp only[Bool.and_eq_true,decide_eq_true_eq] at h2;omega
  rw[if_pos rfl]
  refine aI qc rfl ?_
  refine cN ?_
  refine aS (ej u m n.a ht hl hva) (hfr n.a _) (by simp[cP,bw]) trivial ?_
  refine cN ?_
  refine aV [] (ej u m n.b ht hl (hvb h2)) (fun H1 h1=>hfr n.b H1) (by simp[cP,bw]) trivial ?_
  refine cN ?_
  first|exact rfl|trivial
 |false=>
  rw[h2] at c2
  rw[if_neg (by decide)]
  by_cases h0:n.op=0
  ·rw[if_neg (fun e=>e h0)]
   refine aI qc rfl ?_
   refine cN ?_
   refine aS (ej u m n.a ht hl hva) (hfr n.a _) (by simp[cP,bw]) trivial ?_
   refine cN ?_
   first|exact rfl|trivial
  ·rw[if_pos h0]
   have c1:=H9 n.op (m.val t n.a) (by unfold dN at h2;simp only[Bool.and_eq_false_iff,decide_eq_false_iff_not] at h2;omega)
   refine aI qc rfl ?_
   refine cN ?_
   refine aS (ej u m n.a ht hl hva) (hfr n.a _) (by simp[cP,bw]) trivial ?_
   refine cN ?_
   first|exact rfl|trivial
theorem xI (u:bj) (hr:ct u) (m:MS) (h:eN u m):Pure Tryz.prog 75 [m.av u] (fun r=>r=bl (m.ended u)):=by
 have hl:=h.nD
 have hgl:=hr.tv
 refine aI G1 rfl ?_
 refine cN ?_
 rw[List.length_map]
 refine aP (fun i:Nat=>[(1, .pt 0 1 0 0),(6,i64 m.at_.length),(7,i64 i)]) (fun i H n=>i≤m.at_.length∧1≤n∧(∃d,bd H 0=some (.row 80 8 d [m.av u]))∧∀j:Nat,j<i→m.mC u j=70) (fun i=>m.at_.length - i) 0 cC ⟨Nat.zero_le _,cU,⟨_,bf⟩,fun j hj=>by omega⟩ ?_
 rintro i H n ⟨hi,hn,⟨d,r1⟩,hall⟩
 by_cases hil:i<m.at_.length
 ·have c0:=oe u hr m h i
  by_cases hb:m.mC u i=70
  ·refine cN ?_
   exact⟨i+1,by omega,cC,by omega,cU,⟨_,bf⟩,fun j hj=>by
    by_cases e:j=i
    ·rw[e];exact hb
    ·exact hall j (by omega)⟩
  ·refine cN ?_
   refine dW (Eq.symm ?_)
   unfold MS.ended
   rw[List.all_eq_false]
   exact⟨i,List.mem_range.2 hil,by simpa using hb⟩
 ·refine cN ?_
  refine dW (Eq.symm ?_)
  unfold MS.ended
  rw[List.all_eq_true]
  intro j hj
  exact decide_eq_true (hall j (by have:=List.mem_range.1 hj;omega))
end Go.Proofs.YtekfmjjmihomlaaGreat
end
