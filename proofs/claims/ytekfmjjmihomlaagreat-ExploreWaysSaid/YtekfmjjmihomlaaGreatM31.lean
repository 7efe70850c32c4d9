import Derived.Test.YtekfmjjmihomlaaGreatM30
section
/- A step keeps a situation right. -/
namespace Go.Proofs.YtekfmjjmihomlaaGreat
open Go Go.cV Go.Proofs
set_option linter.unusedSimpArgs false
set_option linter.unusedVariables false
theorem rO (n:Int):dz (u9 n):=by unfold dz u9;rw[IntKind.wrap_i64];omega
theorem NN {p:Prop} [Decidable p] {a b:Int} (h1:dz a) (h2:dz b):dz (if p then a else b):=by
 split
 ·exact h1
 ·exact h2
theorem MO (t:Bool):dz (tr t):=by unfold tr dz;split<;>omega
theorem LA {a:Int} (h:dz a) (b:Int):dz (DK a b):=by
 unfold DK
 have hd:(1:Int)≤2^(min (tn b).toNat 64):=Int.le_of_lt_add_one (by have:(0:Int)<2^(min (tn b).toNat 64):=Int.pow_pos (by omega);omega)
 generalize (2:Int)^(min (tn b).toNat 64)=d at *
 rw[Int.fdiv_eq_ediv_of_nonneg _ (by omega)]
 have h1:=Int.mul_ediv_add_emod a d
 have h2:=Int.emod_nonneg a (b:=d) (by omega)
 have h3:=Int.emod_lt_of_pos a (b:=d) (by omega)
 obtain⟨h4,h5⟩:=h
 generalize a /d=q at *
 generalize a%d=r at *
 constructor
 ·apply Int.not_lt.1
  intro hq
  have:d * (q+1)≤1 * (q+1):=Int.mul_le_mul_of_nonpos_right hd (by omega)
  rw[Int.mul_add] at this
  omega
 ·apply Int.not_le.1
  intro hq
  have:1 * q≤d * q:=Int.mul_le_mul_of_nonneg_right hd (by omega)
  omega
theorem LW {a b:Int} (ha:dz a) (op:Int):dz (IX op a b):=by
 have hq:dz (xF a b):=by
  unfold xF
  split
  ·exact⟨by omega,by omega⟩
  ·split
   ·exact rO _
   ·exact rO _
 have hm:dz (uO a b):=by
  unfold uO
  split
  ·exact ha
  ·exact rO _
 unfold IX
 repeat' (with_reducible refine NN ?_ ?_)
 all_goals first
  |exact MO _
  |exact LA ha _
  |exact hq
  |exact hm
  |exact rO _
theorem KZ (op a:Int):dz (HX op a):=by
 unfold HX
 split
 ·exact rO _
 ·exact MO _
theorem getD_none {α:Type} {l:List α} {k:Nat} {d:α} (h:l.length≤k):l.getD k d=d:=by simp[List.getD,List.getElem?_eq_none h]
section
variable {u:bj} {m:MS} {t:Nat}
theorem LB (h:eN u m) (ht:t<u.bh.length) (k:Nat):dz ((m.bg.getD t []).getD k 0):=by
 by_cases hk:k<(m.bg.getD t []).length
 ·exact h.zZ t ht _ (cX 0 hk)
 ·rw[getD_none (Nat.le_of_not_lt hk)]
  exact⟨by omega,by omega⟩
theorem ze (h:eN u m) (ht:t<u.bh.length) {v:jH} (hv:v.Wf):dz (m.val t v):=by
 unfold MS.val
 split
 ·exact LB h ht _
 ·exact hv.word
theorem K8 (h:eN u m) (ht:t<u.bh.length) {n:Node} (hn:n.Wf):dz (m.lQ t n):=by
 unfold MS.lQ
 split
 ·exact LW (ze h ht hn.a) _
 ·split
  ·exact KZ _ _
  ·exact ze h ht hn.a
theorem mg {α:Type} {l:List α} {i:Nat} {a x:α} (h:x∈l.set i a):x∈l∨x=a:=by
 rcases List.mem_or_eq_of_mem_set h with h|h
 ·exact .inl h
 ·exact .inr h
theorem getD_set_ne {α:Type} {l:List α} {i j:Nat} {v d:α} (h:i≠j):(l.set i v).getD j d=l.getD j d:=by simp[List.getD,List.getElem?_set_ne h]
theorem eN.dS (h:eN u m) (k w:Int) (hw:dz w):eN u (m.dS t k w) where
 nD:=h.nD
 gn:=h.gn
 sl:=by simp only[MS.dS,List.length_set];exact h.sl
 xi:=fun s hs=>by
  simp only[MS.dS]
  by_cases e:t=s
  ·subst e
   rw[eF (by rw[h.sl];exact hs),List.length_set]
   exact h.xi t hs
  ·rw[getD_set_ne e];exact h.xi s hs
 zZ:=fun s hs x hx=>by
  simp only[MS.dS] at hx
  by_cases e:t=s
  ·subst e
   rw[eF (by rw[h.sl];exact hs)] at hx
   rcases mg hx with hx|rfl
   ·exact h.zZ t hs x hx
   ·exact hw
  ·rw[getD_set_ne e] at hx;exact h.zZ s hs x hx
 ml:=h.ml
 mw:=h.mw
 hl:=h.hl
 hw:=h.hw
 pw:=h.pw
theorem eN.mem (h:eN u m) (k:Nat) (w:Int) (hw:dz w):eN u { m with mem:=m.mem.set k w } where
 nD:=h.nD
 gn:=h.gn
 sl:=h.sl
 xi:=h.xi
 zZ:=h.zZ
 ml:=by simp only[List.length_set];exact h.ml
 mw:=fun x hx=>by
  rcases mg hx with hx|rfl
  ·exact h.mw x hx
  ·exact hw
 hl:=h.hl
 hw:=h.hw
 pw:=h.pw
theorem eN.hold (h:eN u m) (k:Nat) (w:Int) (hw:-1≤w∧w<u.bh.length):eN u { m with hold:=m.hold.set k w } where
 nD:=h.nD
 gn:=h.gn
 sl:=h.sl
 xi:=h.xi
 zZ:=h.zZ
 ml:=h.ml
 mw:=h.mw
 hl:=by simp only[List.length_set];exact h.hl
 hw:=fun x hx=>by
  rcases mg hx with hx|rfl
  ·exact h.hw x hx
  ·exact hw
 pw:=h.pw
theorem eN.print (h:eN u m) (p:cM) (hp:0≤p.cS∧p.cS<u.bh.length∧dz p.word):eN u { m with bk:=m.bk++[p] } where
 nD:=h.nD
 gn:=h.gn
 sl:=h.sl
 xi:=h.xi
 zZ:=h.zZ
 ml:=h.ml
 mw:=h.mw
 hl:=h.hl
 hw:=h.hw
 pw:=fun x hx=>by
  rcases List.mem_append.1 hx with hx|hx
  ·exact h.pw x hx
  ·simp only[List.mem_cons,List.not_mem_nil,or_false] at hx
   subst hx;exact hp
theorem eN.BO (h:eN u m) (k:Int) (hk:t<u.bh.length→0≤k∧k<(u.gr t).nodes.length):eN u { m with at_:=m.at_.set t k } where
 nD:=by simp only[List.length_set];exact h.nD
 gn:=fun s hs=>by
  by_cases e:t=s
  ·subst e
   dsimp only
   rw[eF (by rw[h.nD];exact hs)]
   exact hk hs
  ·dsimp only
   rw[getD_set_ne e];exact h.gn s hs
 sl:=h.sl
 xi:=h.xi
 zZ:=h.zZ
 ml:=h.ml
 mw:=h.mw
 hl:=h.hl
 hw:=h.hw
 pw:=h.pw
theorem lA (h:eN u m) (ht:t<u.bh.length) (hb:m.mC u t=0):(m.node u t).kind≠9∧¬((m.node u t).kind=5∧0≤m.hold.getD (m.node u t).bx.toNat 0):=by
 unfold MS.mC at hb
 rw[if_neg (by have:=h.nD;omega),Int.toNat_natCast] at hb
 refine⟨fun e=> ?_,fun e=> ?_⟩
 ·rw[if_pos e] at hb;cases hb
 ·rw[if_neg (by omega)] at hb
  rw[if_pos e] at hb
  cases hb
theorem A1 (hu:u.Wf) (h:eN u m) (ht:t<u.bh.length):(m.node u t).Wf:=by
 have h1:=h.gn t ht
 exact(hu.bh _ (cX default ht)).nodes _ (cX default (show(m.at_.getD t 0).toNat<(u.gr t).nodes.length by omega))
theorem M1 (hu:u.Wf) (hr:ct u) (h:eN u m) (ht:t<u.bh.length):eN u (m.act t (m.node u t)).1:=by
 have hn:=h.node hr ht
 have hw:=A1 hu h ht
 have hst:=K8 h ht hw
 have hva:=ze h ht hw.a
 have hmw:dz (m.mem.getD (m.node u t).bx.toNat 0):=by
  by_cases hk:(m.node u t).bx.toNat<m.mem.length
  ·exact h.mw _ (cX 0 hk)
  ·rw[getD_none (Nat.le_of_not_lt hk)];exact⟨by omega,by omega⟩
 generalize m.node u t=n at *
 unfold MS.act
 split
 ·exact h.dS _ _ hst
 split
 ·exact h.dS _ _ hmw
 split
 ·exact h.mem _ _ hva
 split
 ·exact(h.dS (t:=t) n.slot _ hmw).mem _ _ hva
 split
 ·exact h.hold _ _ ⟨by omega,by omega⟩
 split
 ·exact h.hold _ _ ⟨by omega,by omega⟩
 split
 ·exact h.print _ ⟨by dsimp only;omega,by dsimp only;omega,hva⟩
 ·exact h
theorem EB (hr:ct u) (h:eN u m) (ht:t<u.bh.length) (hk:(m.node u t).kind≠9):0≤(m.act t (m.node u t)).2.1∧(m.act t (m.node u t)).2.1<(u.gr t).nodes.length:=by
 have hn:=h.node hr ht
 generalize m.node u t=n at *
 have hkd:=hn.kind
 have hnx:=hn.next.1 (by unfold gl;exact decide_eq_true (by omega))
 unfold MS.act
 repeat' split
 all_goals first
  |exact hnx
  |exact hn.oV.1 (by omega)
theorem u0 (hu:u.Wf) (hr:ct u) (h:eN u m) (ht:t<u.bh.length) (hk:(m.node u t).kind≠9):eN u (m.step u t).1:=by
 have h1:=M1 hu hr h ht
 have h2:=EB hr h ht hk
 have h3:(m.step u t).1={ (m.act t (m.node u t)).1 with at_:=m.at_.set t (m.act t (m.node u t)).2.1 }:=rfl
 have h4:(m.act t (m.node u t)).1.at_=m.at_:=by
  unfold MS.act
  repeat' split
  all_goals rfl
 rw[h3,←h4]
 exact h1.BO _ fun _=>h2
end
end Go.Proofs.YtekfmjjmihomlaaGreat
end
section
/- The machine in rows: what a store makes of it. -/
namespace Go.Proofs.YtekfmjjmihomlaaGreat
open Go Go.cV Go.Proofs
set_option linter.unusedSimpArgs false
set_option linter.unusedVariables false
structure ML where
 mr:Nat
 a:Nat
 s:Nat
 me:Nat
 ho:Nat
 pr:Nat
 ids:List Nat
abbrev ML.all (L:ML):List Nat:=L.mr::L.a::L.s::L.me::L.ho::L.pr::L.ids
abbrev ML.it (L:ML) (t:Nat):Nat:=L.ids.getD t 0
abbrev ML.At (L:ML) (u:bj) (m:MS) (H:Hp):Prop:=OH u m L.mr L.a L.s L.me L.ho L.pr L.ids H
theorem OH.yR {u:bj} {m:MS} {mr a s me ho pr:Nat} {ids:List Nat} {H:Hp} (h:OH u m mr a s me ho pr ids H) (k:Nat):cV.dR H (k+4) (.pt mr 1 0 0)=m.fz u:=by
 obtain⟨d1,h1⟩:=h.rM
 obtain⟨d2,h2⟩:=h.rA
 obtain⟨d3,h3⟩:=h.rS
 obtain⟨d4,h4⟩:=h.rE
 obtain⟨d5,h5⟩:=h.rH
 obtain⟨d6,h6⟩:=h.rP
 have hsl:(cx ids m.bg).length=m.bg.length:=by unfold cx;rw[List.length_map,List.length_zip,h.len];simp
 have hs:(cx ids m.bg).map (cV.dR H (k+1))=m.bg.map cW:=by
  apply List.ext_getElem (by simp[hsl])
  intro t q1 q2
  have ht:t<m.bg.length:=by simpa using q2
  have hti:t<ids.length:=by rw[h.len];exact ht
  obtain⟨d,hd⟩:=h.rL t ht
  rw[show ids.getD t 0=ids[t] by simp[List.getD,hti],show m.bg.getD t []=m.bg[t] by simp[List.getD,ht]] at hd
  rw[List.getElem_map,List.getElem_map]
  simp only[cx,List.getElem_map,List.getElem_zip]
  rw[dG hd (by simp),cc _ ((bu _ _).2 fun _ _=>by simp[bw])]
 simp only[cV.dR,h1]
 simp only[List.length_cons,List.length_nil,if_true,List.map_cons,List.map_nil,MS.rows]
 rw[lh]
 simp only[List.map_cons,List.map_nil]
 rw[dG h2 (by simp),dG h3 hsl,dG h4 (by simp),dG h5 (by simp),dG h6 (by simp),hs]
 rw[cc _ ((bu _ _).2 fun _ _=>by simp[bw]),cc _ ((bu _ _).2 fun _ _=>by simp[bw]),cc _ ((bu _ _).2 fun _ _=>by simp[bw]),cc _ ((bu _ _).2 fun _ _=>by simp[bw])]
 rw[cr _ (show bw 0 (bn u.shared) by simp[bw,bu]),cr _ (show bw 0 (bn u.bo) by simp[bw,bu]),cr _ (show bw 0 (cL u.bh) by simp[bw,bu])]
 rfl
section
variable {u:bj} {m:MS} {L:ML} {H H':Hp}
theorem fm {p:Prop} (h:p:=by first|assumption|(refine Ne.symm ?_;assumption)):p:=h
theorem ML.At.mem (h:L.At u m H):(∀x∈[L.a,L.s,L.me,L.ho,L.pr],x∈L.all):=by
 intro x hx
 simp only[List.mem_cons,List.not_mem_nil,or_false] at hx
 simp only[ML.all,List.mem_cons]
 omega
theorem kQ (h:L.At u m H) {t:Nat} (ht:t<m.bg.length):L.it t∈L.all:=by
 have:L.it t∈L.ids:=dU (by rw[h.len];exact ht)
 simp only[ML.all,List.mem_cons]
 exact .inr (.inr (.inr (.inr (.inr (.inr this)))))
theorem PF (h:L.At u m H) {t s:Nat} (ht:t<m.bg.length) (hs:s<m.bg.length) (e:s≠t):L.it s≠L.it t:=by
 have h1:=(List.nodup_cons.1 (List.nodup_cons.1 (List.nodup_cons.1 (List.nodup_cons.1 (List.nodup_cons.1 (List.nodup_cons.1 h.nodup).2).2).2).2).2).2
 have hl:=h.len
 intro he
 have ht':t<L.ids.length:=by omega
 have hs':s<L.ids.length:=by omega
 have:L.ids[s]=L.ids[t]:=by simpa[ML.it,List.getD,ht',hs'] using he
 exact e ((List.getElem_inj h1).1 this)
structure ML.LZ (L:ML) (t:Nat):Prop where
 ne:L.mr≠L.a∧L.mr≠L.s∧L.mr≠L.me∧L.mr≠L.ho∧L.mr≠L.pr∧L.a≠L.s∧L.a≠L.me∧L.a≠L.ho∧L.a≠L.pr∧L.s≠L.me∧L.s≠L.ho∧L.s≠L.pr∧L.me≠L.ho∧L.me≠L.pr∧L.ho≠L.pr
 it:L.it t≠L.mr∧L.it t≠L.a∧L.it t≠L.s∧L.it t≠L.me∧L.it t≠L.ho∧L.it t≠L.pr
theorem apart (h:L.At u m H) {t:Nat} (ht:t<m.bg.length):L.LZ t:=by
 have hn:=h.nodup
 have hi:L.it t∈L.ids:=dU (by rw[h.len];exact ht)
 have hne:∀x,x∉L.ids→L.it t≠x:=fun x hx e=>hx (e▸hi)
 simp only[List.nodup_cons,List.mem_cons,not_or] at hn
 obtain⟨⟨a1,a2,a3,a4,a5,a6⟩,⟨b1,b2,b3,b4,b5⟩,⟨c1,c2,c3,c4⟩,⟨d1,d2,d3⟩,⟨e1,e2⟩,f1,_⟩:=hn
 exact⟨⟨a1,a2,a3,a4,a5,b1,b2,b3,b4,c1,c2,c3,d1,d2,e1⟩,hne _ a6,hne _ b5,hne _ c4,hne _ d3,hne _ e2,hne _ f1⟩
theorem ML.At.cO (h:L.At u m H) (hk:∀y∈L.all,bd H' y=bd H y):L.At u m H':=by
 have hm:=h.mem
 obtain⟨d1,h1⟩:=h.rM
 obtain⟨d2,h2⟩:=h.rA
 obtain⟨d3,h3⟩:=h.rS
 obtain⟨d4,h4⟩:=h.rE
 obtain⟨d5,h5⟩:=h.rH
 obtain⟨d6,h6⟩:=h.rP
 refine⟨⟨d1,(hk _ (by simp)).trans h1⟩,⟨d2,(hk _ (hm _ (by simp))).trans h2⟩,⟨d3,(hk _ (hm _ (by simp))).trans h3⟩,fun t ht=> ?_,⟨d4,(hk _ (hm _ (by simp))).trans h4⟩,⟨d5,(hk _ (hm _ (by simp))).trans h5⟩,⟨d6,(hk _ (hm _ (by simp))).trans h6⟩,h.len,h.nodup⟩
 obtain⟨d,hd⟩:=h.rL t ht
 exact⟨d,(hk _ (kQ h ht)).trans hd⟩
theorem ML.At.dS (h:L.At u m H) {t:Nat} (ht:t<m.bg.length) (k w:Int) (hit:∃d,bd H' (L.it t)=some (.row 2 1 d (((m.bg.getD t []).map i64).set k.toNat (i64 w)))) (hk:∀y∈L.all,y≠L.it t→bd H' y=bd H y):L.At u (m.dS t k w) H':=by
 obtain⟨-,n1,n2,n3,n4,n5,n6⟩:=apart h ht
 have hm:=h.mem
 obtain⟨d1,h1⟩:=h.rM
 obtain⟨d2,h2⟩:=h.rA
 obtain⟨d3,h3⟩:=h.rS
 obtain⟨d4,h4⟩:=h.rE
 obtain⟨d5,h5⟩:=h.rH
 obtain⟨d6,h6⟩:=h.rP
 have hl:(m.dS t k w).bg.length=m.bg.length:=by simp[MS.dS]
 have hrow:cx L.ids (m.dS t k w).bg=cx L.ids m.bg:=by
  unfold cx MS.dS
  apply List.ext_getElem (by simp)
  intro i q1 q2
  simp only[List.getElem_map,List.getElem_zip,AV.sl.injEq,true_and]
  rw[List.getElem_set]
  have hi:i<m.bg.length:=by simp at q2;omega
  split
  ·rename_i e;subst e;rw[List.length_set];simp[List.getD,hi]
  ·rfl
 refine⟨⟨d1, ?_⟩,⟨d2,(hk _ (hm _ (by simp)) fm).trans h2⟩,⟨d3,by rw[hrow];exact(hk _ (hm _ (by simp)) fm).trans h3⟩,fun s hs=> ?_,⟨d4,(hk _ (hm _ (by simp)) fm).trans h4⟩,⟨d5,(hk _ (hm _ (by simp)) fm).trans h5⟩,⟨d6,(hk _ (hm _ (by simp)) fm).trans h6⟩,by rw[hl];exact h.len,h.nodup⟩
 ·rw[show(m.dS t k w).rows u L.a L.s L.me L.ho L.pr=m.rows u L.a L.s L.me L.ho L.pr by simp[MS.rows,MS.dS]]
  exact(hk _ (by simp) fm).trans h1
 ·rw[hl] at hs
  by_cases e:s=t
  ·subst e
   obtain⟨d,hd⟩:=hit
   refine⟨d,hd.trans ?_⟩
   rw[show(m.dS s k w).bg.getD s []=(m.bg.getD s []).set k.toNat w from eF hs,List.map_set]
  ·obtain⟨d,hd⟩:=h.rL s hs
   refine⟨d, ?_⟩
   rw[show(m.dS t k w).bg.getD s []=m.bg.getD s [] from getD_set_ne (Ne.symm e)]
   exact(hk _ (kQ h hs) (PF h ht hs e)).trans hd
theorem ML.At.fQ (h:L.At u m H) {t:Nat} (ht:t<m.bg.length) (k w:Int) (hme:∃d,bd H' L.me=some (.row 2 1 d ((m.mem.map i64).set k.toNat (i64 w)))) (hk:∀y∈L.all,y≠L.me→bd H' y=bd H y):L.At u { m with mem:=m.mem.set k.toNat w } H':=by
 obtain⟨⟨a1,a2,a3,a4,a5,b1,b2,b3,b4,c1,c2,c3,e1,e2,f1⟩,n1,n2,n3,n4,n5,n6⟩:=apart h ht
 have hm:=h.mem
 obtain⟨d1,h1⟩:=h.rM
 obtain⟨d2,h2⟩:=h.rA
 obtain⟨d3,h3⟩:=h.rS
 obtain⟨d4,h4⟩:=hme
 obtain⟨d5,h5⟩:=h.rH
 obtain⟨d6,h6⟩:=h.rP
 refine⟨⟨d1, ?_⟩,⟨d2,(hk _ (hm _ (by simp)) fm).trans h2⟩,⟨d3,(hk _ (hm _ (by simp)) fm).trans h3⟩,fun s hs=> ?_,⟨d4,by rw[List.map_set];exact h4⟩,⟨d5,(hk _ (hm _ (by simp)) fm).trans h5⟩,⟨d6,(hk _ (hm _ (by simp)) fm).trans h6⟩,h.len,h.nodup⟩
 ·rw[show({ m with mem:=m.mem.set k.toNat w }:MS).rows u L.a L.s L.me L.ho L.pr=m.rows u L.a L.s L.me L.ho L.pr by simp[MS.rows]]
  exact(hk _ (by simp) fm).trans h1
 ·obtain⟨d,hd⟩:=h.rL s hs
  obtain⟨m1,m2,m3,m4,m5,m6⟩:=(apart h hs).it
  exact⟨d,(hk _ (kQ h hs) fm).trans hd⟩
theorem ML.At.v7 (h:L.At u m H) {t:Nat} (ht:t<m.bg.length) (k w:Int) (hho:∃d,bd H' L.ho=some (.row 3 1 d ((m.hold.map i64).set k.toNat (i64 w)))) (hk:∀y∈L.all,y≠L.ho→bd H' y=bd H y):L.At u { m with hold:=m.hold.set k.toNat w } H':=by
 obtain⟨⟨a1,a2,a3,a4,a5,b1,b2,b3,b4,c1,c2,c3,e1,e2,f1⟩,n1,n2,n3,n4,n5,n6⟩:=apart h ht
 have hm:=h.mem
 obtain⟨d1,h1⟩:=h.rM
 obtain⟨d2,h2⟩:=h.rA
 obtain⟨d3,h3⟩:=h.rS
 obtain⟨d4,h4⟩:=h.rE
 obtain⟨d5,h5⟩:=hho
 obtain⟨d6,h6⟩:=h.rP
 refine⟨⟨d1, ?_⟩,⟨d2,(hk _ (hm _ (by simp)) fm).trans h2⟩,⟨d3,(hk _ (hm _ (by simp)) fm).trans h3⟩,fun s hs=> ?_,⟨d4,(hk _ (hm _ (by simp)) fm).trans h4⟩,⟨d5,by rw[List.map_set];exact h5⟩,⟨d6,(hk _ (hm _ (by simp)) fm).trans h6⟩,h.len,h.nodup⟩
 ·rw[show({ m with hold:=m.hold.set k.toNat w }:MS).rows u L.a L.s L.me L.ho L.pr=m.rows u L.a L.s L.me L.ho L.pr by simp[MS.rows]]
  exact(hk _ (by simp) fm).trans h1
 ·obtain⟨d,hd⟩:=h.rL s hs
  obtain⟨m1,m2,m3,m4,m5,m6⟩:=(apart h hs).it
  exact⟨d,(hk _ (kQ h hs) fm).trans hd⟩
theorem ML.At.BO (h:L.At u m H) {t:Nat} (ht:t<m.bg.length) (k:Nat) (w:Int) (hat:∃d,bd H' L.a=some (.row 3 1 d ((m.at_.map i64).set k (i64 w)))) (hk:∀y∈L.all,y≠L.a→bd H' y=bd H y):L.At u { m with at_:=m.at_.set k w } H':=by
 obtain⟨⟨a1,a2,a3,a4,a5,b1,b2,b3,b4,c1,c2,c3,e1,e2,f1⟩,n1,n2,n3,n4,n5,n6⟩:=apart h ht
 have hm:=h.mem
 obtain⟨d1,h1⟩:=h.rM
 obtain⟨d2,h2⟩:=hat
 obtain⟨d3,h3⟩:=h.rS
 obtain⟨d4,h4⟩:=h.rE
 obtain⟨d5,h5⟩:=h.rH
 obtain⟨d6,h6⟩:=h.rP
 refine⟨⟨d1, ?_⟩,⟨d2,by rw[List.map_set];exact h2⟩,⟨d3,(hk _ (hm _ (by simp)) fm).trans h3⟩,fun s hs=> ?_,⟨d4,(hk _ (hm _ (by simp)) fm).trans h4⟩,⟨d5,(hk _ (hm _ (by simp)) fm).trans h5⟩,⟨d6,(hk _ (hm _ (by simp)) fm).trans h6⟩,h.len,h.nodup⟩
 ·rw[show({ m with at_:=m.at_.set k w }:MS).rows u L.a L.s L.me L.ho L.pr=m.rows u L.a L.s L.me L.ho L.pr by simp[MS.rows]]
  exact(hk _ (by simp) fm).trans h1
 ·obtain⟨d,hd⟩:=h.rL s hs
  obtain⟨m1,m2,m3,m4,m5,m6⟩:=(apart h hs).it
  exact⟨d,(hk _ (kQ h hs) fm).trans hd⟩
theorem ML.At.yr (h:L.At u m H) {t:Nat} (ht:t<m.bg.length) (p:cM) (hmr:∃d,bd H' L.mr=some (.row 100 8 d [({ m with bk:=m.bk++[p] }:MS).rows u L.a L.s L.me L.ho L.pr])) (hpr:∃d,bd H' L.pr=some (.row 89 2 d (m.bk.map cM.av++[p.av]))) (hk:∀y∈L.all,y≠L.pr→y≠L.mr→bd H' y=bd H y):L.At u { m with bk:=m.bk++[p] } H':=by
 obtain⟨⟨a1,a2,a3,a4,a5,b1,b2,b3,b4,c1,c2,c3,e1,e2,f1⟩,n1,n2,n3,n4,n5,n6⟩:=apart h ht
 have hm:=h.mem
 obtain⟨d2,h2⟩:=h.rA
 obtain⟨d3,h3⟩:=h.rS
 obtain⟨d4,h4⟩:=h.rE
 obtain⟨d5,h5⟩:=h.rH
 obtain⟨d6,h6⟩:=hpr
 refine⟨hmr,⟨d2,(hk _ (hm _ (by simp)) fm fm).trans h2⟩,⟨d3,(hk _ (hm _ (by simp)) fm fm).trans h3⟩,fun s hs=> ?_,⟨d4,(hk _ (hm _ (by simp)) fm fm).trans h4⟩,⟨d5,(hk _ (hm _ (by simp)) fm fm).trans h5⟩,⟨d6,by rw[List.map_append];exact h6⟩,h.len,h.nodup⟩
 obtain⟨d,hd⟩:=h.rL s hs
 obtain⟨m1,m2,m3,m4,m5,m6⟩:=(apart h hs).it
 exact⟨d,(hk _ (kQ h hs) fm fm).trans hd⟩
end
end Go.Proofs.YtekfmjjmihomlaaGreat
end
section
/- An action at work: what a value is; a word into a slot. -/
namespace Go.Proofs.YtekfmjjmihomlaaGreat
open Go Go.cV Go.Proofs
set_option linter.unusedSimpArgs false
set_option linter.unusedVariables false
set_option maxRecDepth 8000
def AC (x:AV) (t:Int) (n:Node) (d:fC):List AV:=[x,i64 t,u8 n.kind,u8 n.op,i64 n.slot,i64 n.bx,bl n.a.gX,i64 n.a.slot,i64 n.a.word,bl n.b.gX,i64 n.b.slot,i64 n.b.word,i64 n.next,i64 n.oV,i64 n.origin,i64 d.cS,i64 d.node,u8 d.kind,i64 d.bx,i64 d.word,i64 d.put]
abbrev mI (u:bj) (m:MS) (t:Int) (n:Node) (d:fC):AV:= .ip 21 .any [.agg (AC (m.fz u) t n d)] 0 0
@[simp] theorem QU (k:Nat) (u:bj) (m:MS) (t:Int) (n:Node) (d:fC):cP k (AC (m.fz u) t n d):=by
  simp[bw,cP,AC]
structure rz (u:bj) (m:MS) (t:Nat) (n:Node) (d:fC) (ab:Nat) (L:ML) (H:Hp):Prop where
 M:L.At u m H
 row:∃dd,bd H ab=some (.row 113 21 dd [.agg (AC (.pt L.mr 1 0 0) t n d)])
 out:ab∉L.all
theorem rz.dR {u:bj} {m:MS} {t:Nat} {n:Node} {d:fC} {ab:Nat} {L:ML} {H:Hp} (h:rz u m t n d ab L H):cV.dR H 6 (.pt ab 1 0 0)=mI u m t n d:=by
 obtain⟨dd,hr⟩:=h.row
 rw[show cV.dR H 6 (.pt ab 1 0 0)= .ip 21 .any (([.agg (AC (.pt L.mr 1 0 0) t n d)]:List AV).map (cV.dR H 5)) 0 0 from NJ hr rfl]
 simp only[List.map_cons,List.map_nil]
 rw[lh]
 simp only[AC,List.map_cons,List.map_nil]
 have:=h.M.yR 0
 rw[this]
 simp only[cV.dR]
 rfl
theorem rz.cO {u:bj} {m:MS} {t:Nat} {n:Node} {d:fC} {ab:Nat} {L:ML} {H H':Hp} (h:rz u m t n d ab L H) (hk:∀y∈ab::L.all,bd H' y=bd H y):rz u m t n d ab L H':=by
 obtain⟨dd,hr⟩:=h.row
 exact⟨h.M.cO fun y hy=>hk y (List.mem_cons_of_mem _ hy),⟨dd,(hk ab (by simp)).trans hr⟩,h.out⟩
def jj (m:MS) (t:Nat) (v:jH):Prop:=v.gX=true→0≤v.slot∧v.slot<(m.bg.getD t []).length
theorem iu (u:bj) (m:MS) {t:Nat} (n:Node) (d:fC) (v:jH) (ht:t<m.bg.length) (hl:m.bg.length≤8) (hv:jj m t v):Pure Tryz.prog 122 [mI u m t n d,v.av] (fun r=>r=i64 (m.val t v)):=by
 unfold MS.val
 have e0:∀d,(m.bg.map cW).getD ((t:Int)).toNat d=cW (m.bg.getD t []):=fun d=>by rw[Int.toNat_natCast];exact cu cW m.bg t d ht
 have a0:(m.bg.map cW).length=m.bg.length:=by simp
 cases hs:v.gX with
 |true=>
  have r0:=hs
  obtain⟨v1,v2⟩:=hv hs
  have a1:((m.bg.getD t []).map i64).length=(m.bg.getD t []).length:=by simp
  have e1:=fun d=>gW (l:=m.bg.getD t []) (k:=v.slot) (by omega) d
  rw[if_pos rfl]
  refine aI sy rfl ?_
  refine cN ?_
  first|exact rfl|trivial
 |false=>
  have r0:=hs
  rw[if_neg (by decide)]
  refine aI sy rfl ?_
  refine cN ?_
  first|exact rfl|trivial
abbrev rX (u:bj) (m:MS) (t:Nat) (n:Node) (d:fC) (ab:Nat) (L:ML) (H0:Hp) (nx:Nat) (H:Hp) (k:Nat):Prop:=rz u m t n d ab L H∧nx≤k∧∀y,y<nx→y≠ab→y∉L.all→bd H y=bd H0 y
theorem oG {L:ML} {m:MS} {t:Nat} (hl:L.ids.length=m.bg.length) (ht:t<m.bg.length) (d:AV):(cx L.ids m.bg).getD t d= .sl (L.it t) (m.bg.getD t []).length:=by
 have h1:t<L.ids.length:=by omega
 have h2:t<(L.ids.zip m.bg).length:=by rw[List.length_zip];omega
 simp[cx,List.getD,ht,h1,List.getElem?_eq_getElem h2]
theorem oh {L:ML} {m:MS} (hl:L.ids.length=m.bg.length):(cx L.ids m.bg).length=m.bg.length:=by
 unfold cx;rw[List.length_map,List.length_zip,hl];simp
theorem dI {x y:Nat} {l:List Nat} (h:x∉l) (hy:y∈l):y≠x:=fun e=>h (e▸hy)
set_option maxHeartbeats 1000000 in
theorem ju {u:bj} {m:MS} {t:Nat} {n:Node} {d:fC} {ab:Nat} {L:ML} {H:Hp} {nx:Nat} (h:rz u m t n d ab L H) (hlt:∀y∈ab::L.all,y<nx) (ht:t<m.bg.length) (hl:m.bg.length≤8) (hs:0≤n.slot∧n.slot<(m.bg.getD t []).length) (w:Int):
 cJ Tryz.prog 126 [.pt ab 1 0 0,i64 w] H nx (fun _ H' k=>rX u (m.dS t n.slot w) t n { d with word:=w } ab L H nx H' k):=by
 obtain⟨hM,⟨dd,ra⟩,hout⟩:=h
 obtain⟨⟨a1,a2,a3,a4,a5,b1,b2,b3,b4,c1,c2,c3,e1,e2,f1⟩,n1,n2,n3,n4,n5,n6⟩:=apart hM ht
 have hmem:=hM.mem
 have k0:=hlt ab (by simp)
 have km:=hlt L.mr (by simp)
 have ks:=hlt L.s (List.mem_cons_of_mem _ (hmem _ (by simp)))
 have ki:=hlt (L.it t) (List.mem_cons_of_mem _ (kQ hM ht))
 have o1:=dI hout (List.mem_cons_self (a:=L.mr))
 have o2:=dI hout (hmem L.s (by simp))
 have o3:=dI hout (kQ hM ht)
 obtain⟨d1,r1⟩:=hM.rM
 obtain⟨d3,r3⟩:=hM.rS
 obtain⟨d7,r7⟩:=hM.rL t ht
 have e0:∀d,(cx L.ids m.bg).getD ((t:Int)).toNat d= .sl (L.it t) (m.bg.getD t []).length:=fun d=>by rw[Int.toNat_natCast];exact oG hM.len ht d
 have q0:=oh hM.len
 have q1:((m.bg.getD t []).map i64).length=(m.bg.getD t []).length:=by simp
 obtain⟨hs1,hs2⟩:=hs
 refine aQ vx rfl ?_
 refine cN ?_
 exact⟨⟨hM.dS ht _ _ ⟨_,bf⟩ fun y hy hne=>by have:=dI hout hy;exact br,⟨_,bf⟩,hout⟩,cU,fun y y1 y2 y3=>by have y4:=dI y3 (kQ hM ht);exact br⟩
end Go.Proofs.YtekfmjjmihomlaaGreat
end
section
/- An action at work: the kinds of nodes. -/
namespace Go.Proofs.YtekfmjjmihomlaaGreat
open Go Go.cV Go.Proofs
set_option linter.unusedSimpArgs false
set_option linter.unusedVariables false
set_option maxRecDepth 8000
set_option maxHeartbeats 2000000
theorem CX {u:bj} {m:MS} {t:Nat} {n:Node} {d:fC} {ab:Nat} {L:ML} {H:Hp} {nx:Nat} (h:rz u m t n d ab L H) (hlt:∀y∈ab::L.all,y<nx) (ht:t<m.bg.length) (hl:m.bg.length≤8) (hth:0≤n.bx∧n.bx<m.hold.length):
 cJ Tryz.prog 86 [.pt ab 1 0 0] H nx (fun r H' k=>r=i64 n.next∧rX u { m with hold:=m.hold.set n.bx.toNat t } t n { d with bx:=n.bx } ab L H nx H' k):=by
 have hfr:∀(v:jH) (H1:Hp),(∀y∈ab::L.all,bd H1 y=bd H y)→[.pt ab 1 0 0,v.av].map (cV.dR H1 6)=[mI u m t n d,v.av]:=fun v H1 h1=>by
  rw[List.map_cons,List.map_cons,List.map_nil,(h.cO h1).dR,cr _ (show bw 0 v.av by simp[bw])]
 have h0:=h
 obtain⟨hM,⟨dd,ra⟩,hout⟩:=h
 obtain⟨⟨a1,a2,a3,a4,a5,b1,b2,b3,b4,c1,c2,c3,e1',e2',f1⟩,n1,n2,n3,n4,n5,n6⟩:=apart hM ht
 have hmem:=hM.mem
 have k0:=hlt ab (by simp)
 have km:=hlt L.mr (by simp)
 have ke:=hlt L.me (List.mem_cons_of_mem _ (hmem _ (by simp)))
 have kh:=hlt L.ho (List.mem_cons_of_mem _ (hmem _ (by simp)))
 have kp:=hlt L.pr (List.mem_cons_of_mem _ (hmem _ (by simp)))
 have o1:=dI hout (List.mem_cons_self (a:=L.mr))
 have o2:=dI hout (hmem L.me (by simp))
 have o3:=dI hout (hmem L.ho (by simp))
 have o4:=dI hout (hmem L.pr (by simp))
 clear a1 a2 a4 b1 b2 b3 b4 c1 c2 c3 e1' e2' f1 n1 n2 n3 n4 n5 n6
 obtain⟨d1,r1⟩:=hM.rM
 obtain⟨d3,r4⟩:=hM.rE
 obtain⟨d5,r5⟩:=hM.rH
 obtain⟨d6,r6⟩:=hM.rP
 have q1:(m.mem.map i64).length=m.mem.length:=by simp
 have q2:(m.hold.map i64).length=m.hold.length:=by simp
 have q3:(m.bk.map cM.av).length=m.bk.length:=by simp
 refine aQ HB rfl ?_
 refine cN ?_
 exact⟨⟨rfl,⟨hM.v7 ht _ _ ⟨_,bf⟩ fun y hy hne=>by have:=dI hout hy;exact br,⟨_,bf⟩,hout⟩,cU,fun y y1 y2 y3=>by have y4:=dI y3 (hmem L.ho (by simp));exact br⟩⟩
theorem x7 {u:bj} {m:MS} {t:Nat} {n:Node} {d:fC} {ab:Nat} {L:ML} {H:Hp} {nx:Nat} (h:rz u m t n d ab L H) (hlt:∀y∈ab::L.all,y<nx) (ht:t<m.bg.length) (hl:m.bg.length≤8) (hth:0≤n.bx∧n.bx<m.hold.length):
 cJ Tryz.prog 87 [.pt ab 1 0 0] H nx (fun r H' k=>r=i64 n.next∧rX u { m with hold:=m.hold.set n.bx.toNat (-1) } t n { d with bx:=n.bx } ab L H nx H' k):=by
 have hfr:∀(v:jH) (H1:Hp),(∀y∈ab::L.all,bd H1 y=bd H y)→[.pt ab 1 0 0,v.av].map (cV.dR H1 6)=[mI u m t n d,v.av]:=fun v H1 h1=>by
  rw[List.map_cons,List.map_cons,List.map_nil,(h.cO h1).dR,cr _ (show bw 0 v.av by simp[bw])]
 have h0:=h
 obtain⟨hM,⟨dd,ra⟩,hout⟩:=h
 obtain⟨⟨a1,a2,a3,a4,a5,b1,b2,b3,b4,c1,c2,c3,e1',e2',f1⟩,n1,n2,n3,n4,n5,n6⟩:=apart hM ht
 have hmem:=hM.mem
 have k0:=hlt ab (by simp)
 have km:=hlt L.mr (by simp)
 have ke:=hlt L.me (List.mem_cons_of_mem _ (hmem _ (by simp)))
 have kh:=hlt L.ho (List.mem_cons_of_mem _ (hmem _ (by simp)))
 have kp:=hlt L.pr (List.mem_cons_of_mem _ (hmem _ (by simp)))
 have o1:=dI hout (List.mem_cons_self (a:=L.mr))
 have o2:=dI hout (hmem L.me (by simp))
 have o3:=dI hout (hmem L.ho (by simp))
 have o4:=dI hout (hmem L.pr (by simp))
 clear a1 a2 a4 b1 b2 b3 b4 c1 c2 c3 e1' e2' f1 n1 n2 n3 n4 n5 n6
 obtain⟨d1,r1⟩:=hM.rM
 obtain⟨d3,r4⟩:=hM.rE
 obtain⟨d5,r5⟩:=hM.rH
 obtain⟨d6,r6⟩:=hM.rP
 have q1:(m.mem.map i64).length=m.mem.length:=by simp
 have q2:(m.hold.map i64).length=m.hold.length:=by simp
 have q3:(m.bk.map cM.av).length=m.bk.length:=by simp
 refine aQ HC rfl ?_
 refine cN ?_
 exact⟨⟨rfl,⟨hM.v7 ht _ _ ⟨_,bf⟩ fun y hy hne=>by have:=dI hout hy;exact br,⟨_,bf⟩,hout⟩,cU,fun y y1 y2 y3=>by have y4:=dI y3 (hmem L.ho (by simp));exact br⟩⟩
theorem uz {u:bj} {m:MS} {t:Nat} {n:Node} {d:fC} {ab:Nat} {L:ML} {H:Hp} {nx:Nat} (h:rz u m t n d ab L H) (hlt:∀y∈ab::L.all,y<nx) (ht:t<m.bg.length) (hl:m.bg.length≤8) (hva:jj m t n.a):
 cJ Tryz.prog 89 [.pt ab 1 0 0] H nx (fun r H' k=>r=i64 (if m.val t n.a=0 then n.oV else n.next)∧rX u m t n { d with word:=m.val t n.a } ab L H nx H' k):=by
 have hfr:∀(v:jH) (H1:Hp),(∀y∈ab::L.all,bd H1 y=bd H y)→[.pt ab 1 0 0,v.av].map (cV.dR H1 6)=[mI u m t n d,v.av]:=fun v H1 h1=>by
  rw[List.map_cons,List.map_cons,List.map_nil,(h.cO h1).dR,cr _ (show bw 0 v.av by simp[bw])]
 have h0:=h
 obtain⟨hM,⟨dd,ra⟩,hout⟩:=h
 obtain⟨⟨a1,a2,a3,a4,a5,b1,b2,b3,b4,c1,c2,c3,e1',e2',f1⟩,n1,n2,n3,n4,n5,n6⟩:=apart hM ht
 have hmem:=hM.mem
 have k0:=hlt ab (by simp)
 have km:=hlt L.mr (by simp)
 have ke:=hlt L.me (List.mem_cons_of_mem _ (hmem _ (by simp)))
 have kh:=hlt L.ho (List.mem_cons_of_mem _ (hmem _ (by simp)))
 have kp:=hlt L.pr (List.mem_cons_of_mem _ (hmem _ (by simp)))
 have o1:=dI hout (List.mem_cons_self (a:=L.mr))
 have o2:=dI hout (hmem L.me (by simp))
 have o3:=dI hout (hmem L.ho (by simp))
 have o4:=dI hout (hmem L.pr (by simp))
 clear a1 a2 a4 b1 b2 b3 b4 c1 c2 c3 e1' e2' f1 n1 n2 n3 n4 n5 n6
 obtain⟨d1,r1⟩:=hM.rM
 obtain⟨d3,r4⟩:=hM.rE
 obtain⟨d5,r5⟩:=hM.rH
 obtain⟨d6,r6⟩:=hM.rP
 have q1:(m.mem.map i64).length=m.mem.length:=by simp
 have q2:(m.hold.map i64).length=m.hold.length:=by simp
 have q3:(m.bk.map cM.av).length=m.bk.length:=by simp
 by_cases hz:m.val t n.a=0
 ·rw[if_pos hz]
  refine aQ CS rfl ?_
  refine cN ?_
  refine aS (iu u m n d n.a ht hl hva) (hfr n.a _ ?_) (by simp[cP,bw]) trivial ?_
  ·exact fun y hy=>rfl
  refine cN ?_
  exact⟨⟨rfl,⟨hM.cO fun y hy=>by have:=dI hout hy;exact br,⟨_,bf⟩,hout⟩,cU,fun y y1 y2 y3=>br⟩⟩
 ·rw[if_neg hz]
  refine aQ CS rfl ?_
  refine cN ?_
  refine aS (iu u m n d n.a ht hl hva) (hfr n.a _ ?_) (by simp[cP,bw]) trivial ?_
  ·exact fun y hy=>rfl
  refine cN ?_
  exact⟨⟨rfl,⟨hM.cO fun y hy=>by have:=dI hout hy;exact br,⟨_,bf⟩,hout⟩,cU,fun y y1 y2 y3=>br⟩⟩
theorem CW {u:bj} {m:MS} {t:Nat} {n:Node} {d:fC} {ab:Nat} {L:ML} {H:Hp} {nx:Nat} (h:rz u m t n d ab L H) (hlt:∀y∈ab::L.all,y<nx) (ht:t<m.bg.length) (hl:m.bg.length≤8) (hs:0≤n.slot∧n.slot<(m.bg.getD t []).length) (hth:0≤n.bx∧n.bx<m.mem.length):
 cJ Tryz.prog 83 [.pt ab 1 0 0] H nx (fun r H' k=>r=i64 n.next∧rX u (m.dS t n.slot (m.mem.getD n.bx.toNat 0)) t n { d with bx:=n.bx,word:=m.mem.getD n.bx.toNat 0 } ab L H nx H' k):=by
 have hfr:∀(v:jH) (H1:Hp),(∀y∈ab::L.all,bd H1 y=bd H y)→[.pt ab 1 0 0,v.av].map (cV.dR H1 6)=[mI u m t n d,v.av]:=fun v H1 h1=>by
  rw[List.map_cons,List.map_cons,List.map_nil,(h.cO h1).dR,cr _ (show bw 0 v.av by simp[bw])]
 have h0:=h
 obtain⟨hM,⟨dd,ra⟩,hout⟩:=h
 obtain⟨⟨a1,a2,a3,a4,a5,b1,b2,b3,b4,c1,c2,c3,e1',e2',f1⟩,n1,n2,n3,n4,n5,n6⟩:=apart hM ht
 have hmem:=hM.mem
 have k0:=hlt ab (by simp)
 have km:=hlt L.mr (by simp)
 have ke:=hlt L.me (List.mem_cons_of_mem _ (hmem _ (by simp)))
 have kh:=hlt L.ho (List.mem_cons_of_mem _ (hmem _ (by simp)))
 have kp:=hlt L.pr (List.mem_cons_of_mem _ (hmem _ (by simp)))
 have o1:=dI hout (List.mem_cons_self (a:=L.mr))
 have o2:=dI hout (hmem L.me (by simp))
 have o3:=dI hout (hmem L.ho (by simp))
 have o4:=dI hout (hmem L.pr (by simp))
 clear a1 a2 a4 b1 b2 b3 b4 c1 c2 c3 e1' e2' f1 n1 n2 n3 n4 n5 n6
 obtain⟨d1,r1⟩:=hM.rM
 obtain⟨d3,r4⟩:=hM.rE
 obtain⟨d5,r5⟩:=hM.rH
 obtain⟨d6,r6⟩:=hM.rP
 have q1:(m.mem.map i64).length=m.mem.length:=by simp
 have q2:(m.hold.map i64).length=m.hold.length:=by simp
 have q3:(m.bk.map cM.av).length=m.bk.length:=by simp
 have e0:=fun d=>gW (l:=m.mem) (k:=n.bx) (by omega) d
 refine aQ G8 rfl ?_
 refine cN ?_
 refine aL (ju (u:=u) (t:=t) (n:=n) (d:={ d with bx:=n.bx }) (L:=L) (m:=m) (ab:=ab) ?_ ?_ ht hl hs _) ?_
 ·exact⟨hM.cO fun y hy=>by have:=dI hout hy;exact br,⟨_,bf⟩,hout⟩
 ·exact fun y hy=>Nat.lt_of_lt_of_le (hlt y hy) cU
 rintro _ H2 n2 ⟨hA,hn2,hk2⟩
 obtain⟨dd2,ra2⟩:=hA.row
 refine cN ?_
 exact⟨⟨rfl,hA.cO fun y hy=>br,cU,fun y y1 y2 y3=>Eq.trans br ((hk2 y (Nat.lt_of_lt_of_le y1 cU) y2 y3).trans br)⟩⟩
theorem za {u:bj} {m:MS} {t:Nat} {n:Node} {d:fC} {ab:Nat} {L:ML} {H:Hp} {nx:Nat} (h:rz u m t n d ab L H) (hlt:∀y∈ab::L.all,y<nx) (ht:t<m.bg.length) (hl:m.bg.length≤8) (hva:jj m t n.a) (hth:0≤n.bx∧n.bx<m.mem.length):
 cJ Tryz.prog 84 [.pt ab 1 0 0] H nx (fun r H' k=>r=i64 n.next∧rX u { m with mem:=m.mem.set n.bx.toNat (m.val t n.a) } t n { d with bx:=n.bx,word:=m.val t n.a } ab L H nx H' k):=by
 have hfr:∀(v:jH) (H1:Hp),(∀y∈ab::L.all,bd H1 y=bd H y)→[.pt ab 1 0 0,v.av].map (cV.dR H1 6)=[mI u m t n d,v.av]:=fun v H1 h1=>by
  rw[List.map_cons,List.map_cons,List.map_nil,(h.cO h1).dR,cr _ (show bw 0 v.av by simp[bw])]
 have h0:=h
 obtain⟨hM,⟨dd,ra⟩,hout⟩:=h
 obtain⟨⟨a1,a2,a3,a4,a5,b1,b2,b3,b4,c1,c2,c3,e1',e2',f1⟩,n1,n2,n3,n4,n5,n6⟩:=apart hM ht
 have hmem:=hM.mem
 have k0:=hlt ab (by simp)
 have km:=hlt L.mr (by simp)
 have ke:=hlt L.me (List.mem_cons_of_mem _ (hmem _ (by simp)))
 have kh:=hlt L.ho (List.mem_cons_of_mem _ (hmem _ (by simp)))
 have kp:=hlt L.pr (List.mem_cons_of_mem _ (hmem _ (by simp)))
 have o1:=dI hout (List.mem_cons_self (a:=L.mr))
 have o2:=dI hout (hmem L.me (by simp))
 have o3:=dI hout (hmem L.ho (by simp))
 have o4:=dI hout (hmem L.pr (by simp))
 clear a1 a2 a4 b1 b2 b3 b4 c1 c2 c3 e1' e2' f1 n1 n2 n3 n4 n5 n6
 obtain⟨d1,r1⟩:=hM.rM
 obtain⟨d3,r4⟩:=hM.rE
 obtain⟨d5,r5⟩:=hM.rH
 obtain⟨d6,r6⟩:=hM.rP
 have q1:(m.mem.map i64).length=m.mem.length:=by simp
 have q2:(m.hold.map i64).length=m.hold.length:=by simp
 have q3:(m.bk.map cM.av).length=m.bk.length:=by simp
 refine aQ G9 rfl ?_
 refine cN ?_
 refine aV (ab::L.all) (iu u m n d n.a ht hl hva) (fun H1 h1=>hfr n.a H1 h1) (by simp[cP,bw]) trivial ?_
 refine Eq.mpr (qm (ab::L.all) _) (rK ?_)
 refine cN ?_
 exact⟨⟨rfl,⟨hM.fQ ht _ _ ⟨_,bf⟩ fun y hy hne=>by have:=dI hout hy;exact br,⟨_,bf⟩,hout⟩,cU,fun y y1 y2 y3=>by have y4:=dI y3 (hmem L.me (by simp));exact br⟩⟩
theorem yu {u:bj} {m:MS} {t:Nat} {n:Node} {d:fC} {ab:Nat} {L:ML} {H:Hp} {nx:Nat} (h:rz u m t n d ab L H) (hlt:∀y∈ab::L.all,y<nx) (ht:t<m.bg.length) (hl:m.bg.length≤8) (hva:jj m t n.a) (hpl:m.bk.length≤1048576):
 cJ Tryz.prog 88 [.pt ab 1 0 0] H nx (fun r H' k=>r=i64 n.next∧rX u { m with bk:=m.bk++[⟨t,m.val t n.a⟩] } t n { d with word:=m.val t n.a } ab L H nx H' k):=by
 have hfr:∀(v:jH) (H1:Hp),(∀y∈ab::L.all,bd H1 y=bd H y)→[.pt ab 1 0 0,v.av].map (cV.dR H1 6)=[mI u m t n d,v.av]:=fun v H1 h1=>by
  rw[List.map_cons,List.map_cons,List.map_nil,(h.cO h1).dR,cr _ (show bw 0 v.av by simp[bw])]
 have h0:=h
 obtain⟨hM,⟨dd,ra⟩,hout⟩:=h
 obtain⟨⟨a1,a2,a3,a4,a5,b1,b2,b3,b4,c1,c2,c3,e1',e2',f1⟩,n1,n2,n3,n4,n5,n6⟩:=apart hM ht
 have hmem:=hM.mem
 have k0:=hlt ab (by simp)
 have km:=hlt L.mr (by simp)
 have ke:=hlt L.me (List.mem_cons_of_mem _ (hmem _ (by simp)))
 have kh:=hlt L.ho (List.mem_cons_of_mem _ (hmem _ (by simp)))
 have kp:=hlt L.pr (List.mem_cons_of_mem _ (hmem _ (by simp)))
 have o1:=dI hout (List.mem_cons_self (a:=L.mr))
 have o2:=dI hout (hmem L.me (by simp))
 have o3:=dI hout (hmem L.ho (by simp))
 have o4:=dI hout (hmem L.pr (by simp))
 clear a1 a2 a4 b1 b2 b3 b4 c1 c2 c3 e1' e2' f1 n1 n2 n3 n4 n5 n6
 obtain⟨d1,r1⟩:=hM.rM
 obtain⟨d3,r4⟩:=hM.rE
 obtain⟨d5,r5⟩:=hM.rH
 obtain⟨d6,r6⟩:=hM.rP
 have q1:(m.mem.map i64).length=m.mem.length:=by simp
 have q2:(m.hold.map i64).length=m.hold.length:=by simp
 have q3:(m.bk.map cM.av).length=m.bk.length:=by simp
 refine aQ HD rfl ?_
 refine cN ?_
 refine aS (iu u m n d n.a ht hl hva) (hfr n.a _ ?_) (by simp[cP,bw]) trivial ?_
 ·exact fun y hy=>rfl
 refine cN ?_
 exact⟨⟨rfl,⟨hM.yr ht _ ⟨_,by simp only[MS.rows,List.length_append,List.length_cons,List.length_nil];exact bf⟩ ⟨_,bf⟩ fun y hy hne hn2=>by have:=dI hout hy;have:=hlt y (List.mem_cons_of_mem _ hy);exact br,⟨_,bf⟩,hout⟩,cU,fun y y1 y2 y3=>by have y4:=dI y3 (List.mem_cons_self (a:=L.mr));have y5:=dI y3 (hmem L.pr (by simp));exact br⟩⟩
theorem DS {u:bj} {m:MS} {t:Nat} {n:Node} {d:fC} {ab:Nat} {L:ML} {H:Hp} {nx:Nat} (h:rz u m t n d ab L H) (hlt:∀y∈ab::L.all,y<nx) (ht:t<m.bg.length) (hl:m.bg.length≤8) (hva:jj m t n.a) (hs:0≤n.slot∧n.slot<(m.bg.getD t []).length) (hth:0≤n.bx∧n.bx<m.mem.length):
 cJ Tryz.prog 85 [.pt ab 1 0 0] H nx (fun r H' k=>r=i64 n.next∧rX u { m.dS t n.slot (m.mem.getD n.bx.toNat 0) with mem:=m.mem.set n.bx.toNat (m.val t n.a) } t n { d with bx:=n.bx,word:=m.mem.getD n.bx.toNat 0,put:=m.val t n.a } ab L H nx H' k):=by
 have hfr:∀(v:jH) (H1:Hp),(∀y∈ab::L.all,bd H1 y=bd H y)→[.pt ab 1 0 0,v.av].map (cV.dR H1 6)=[mI u m t n d,v.av]:=fun v H1 h1=>by
  rw[List.map_cons,List.map_cons,List.map_nil,(h.cO h1).dR,cr _ (show bw 0 v.av by simp[bw])]
 have h0:=h
 obtain⟨hM,⟨dd,ra⟩,hout⟩:=h
 obtain⟨⟨a1,a2,a3,a4,a5,b1,b2,b3,b4,c1,c2,c3,e1',e2',f1⟩,n1,n2,n3,n4,n5,n6⟩:=apart hM ht
 have hmem:=hM.mem
 have k0:=hlt ab (by simp)
 have km:=hlt L.mr (by simp)
 have ke:=hlt L.me (List.mem_cons_of_mem _ (hmem _ (by simp)))
 have kh:=hlt L.ho (List.mem_cons_of_mem _ (hmem _ (by simp)))
 have kp:=hlt L.pr (List.mem_cons_of_mem _ (hmem _ (by simp)))
 have o1:=dI hout (List.mem_cons_self (a:=L.mr))
 have o2:=dI hout (hmem L.me (by simp))
 have o3:=dI hout (hmem L.ho (by simp))
 have o4:=dI hout (hmem L.pr (by simp))
 clear a1 a2 a4 b1 b2 b3 b4 c1 c2 c3 e1' e2' f1 n1 n2 n3 n4 n5 n6
 obtain⟨d1,r1⟩:=hM.rM
 obtain⟨d3,r4⟩:=hM.rE
 obtain⟨d5,r5⟩:=hM.rH
 obtain⟨d6,r6⟩:=hM.rP
 have q1:(m.mem.map i64).length=m.mem.length:=by simp
 have q2:(m.hold.map i64).length=m.hold.length:=by simp
 have q3:(m.bk.map cM.av).length=m.bk.length:=by simp
 have e0:=fun d=>gW (l:=m.mem) (k:=n.bx) (by omega) d
 refine aQ HA rfl ?_
 refine cN ?_
 refine aV (ab::L.all) (iu u m n d n.a ht hl hva) (fun H1 h1=>hfr n.a H1 h1) (by simp[cP,bw]) trivial ?_
 refine Eq.mpr (qm (ab::L.all) _) (rK ?_)
 refine cN ?_
 refine aL (ju (u:=u) (t:=t) (n:=n) (d:={ d with bx:=n.bx,put:=m.val t n.a }) (L:=L) (m:=m) (ab:=ab) ?_ ?_ ht hl hs _) ?_
 ·exact⟨hM.cO fun y hy=>by have:=dI hout hy;exact br,⟨_,bf⟩,hout⟩
 ·exact fun y hy=>Nat.lt_of_lt_of_le (hlt y hy) cU
 rintro _ H2 n2 ⟨hA,hn2,hk2⟩
 obtain⟨dd2,ra2⟩:=hA.row
 obtain⟨d8,r8⟩:=hA.M.rM
 obtain⟨d9,r9⟩:=hA.M.rE
 refine cN ?_
 have ht2:t<(m.dS t n.slot (m.mem.getD n.bx.toNat 0)).bg.length:=by simp only[MS.dS,List.length_set];exact ht
 exact⟨⟨rfl,⟨hA.M.fQ ht2 _ _ ⟨_,bf⟩ fun y hy hne=>by have:=dI hout hy;exact br,⟨_,bf⟩,hout⟩,cU,fun y y1 y2 y3=>by have y4:=dI y3 (hmem L.me (by simp));exact Eq.trans br ((hk2 y (Nat.lt_of_lt_of_le y1 cU) y2 y3).trans br)⟩⟩
theorem IK {u:bj} {m:MS} {t:Nat} {n:Node} {d:fC} {ab:Nat} {L:ML} {H:Hp} {nx:Nat} (h:rz u m t n d ab L H) (hlt:∀y∈ab::L.all,y<nx) (ht:t<m.bg.length) (hl:m.bg.length≤8) (hs:0≤n.slot∧n.slot<(m.bg.getD t []).length) (hva:jj m t n.a) (hvb:dN n.op=true→jj m t n.b) (hop:0≤n.op∧n.op<19):
 cJ Tryz.prog 82 [.pt ab 1 0 0] H nx (fun r H' k=>r=i64 n.next∧rX u (m.dS t n.slot (m.lQ t n)) t n { d with word:=m.lQ t n } ab L H nx H' k):=by
 have hfr:∀(v:jH) (H1:Hp),(∀y∈ab::L.all,bd H1 y=bd H y)→[.pt ab 1 0 0,v.av].map (cV.dR H1 6)=[mI u m t n d,v.av]:=fun v H1 h1=>by
  rw[List.map_cons,List.map_cons,List.map_nil,(h.cO h1).dR,cr _ (show bw 0 v.av by simp[bw])]
 have h0:=h
 obtain⟨hM,⟨dd,ra⟩,hout⟩:=h
 obtain⟨⟨a1,a2,a3,a4,a5,b1,b2,b3,b4,c1,c2,c3,e1',e2',f1⟩,n1,n2,n3,n4,n5,n6⟩:=apart hM ht
 have hmem:=hM.mem
 have k0:=hlt ab (by simp)
 have km:=hlt L.mr (by simp)
 have ke:=hlt L.me (List.mem_cons_of_mem _ (hmem _ (by simp)))
 have kh:=hlt L.ho (List.mem_cons_of_mem _ (hmem _ (by simp)))
 have kp:=hlt L.pr (List.mem_cons_of_mem _ (hmem _ (by simp)))
 have o1:=dI hout (List.mem_cons_self (a:=L.mr))
 have o2:=dI hout (hmem L.me (by simp))
 have o3:=dI hout (hmem L.ho (by simp))
 have o4:=dI hout (hmem L.pr (by simp))
 clear a1 a2 a4 b1 b2 b3 b4 c1 c2 c3 e1' e2' f1 n1 n2 n3 n4 n5 n6
 obtain⟨d1,r1⟩:=hM.rM
 obtain⟨d3,r4⟩:=hM.rE
 obtain⟨d5,r5⟩:=hM.rH
 obtain⟨d6,r6⟩:=hM.rP
 have q1:(m.mem.map i64).length=m.mem.length:=by simp
 have q2:(m.hold.map i64).length=m.hold.length:=by simp
 have q3:(m.bk.map cM.av).length=m.bk.length:=by simp
 have c0:=fI n.op hop.1
 unfold MS.lQ
 cases h2:dN n.op with
 |true=>
  rw[h2] at c0
  have c1:=MQ n.op (m.val t n.a) (m.val t n.b) h2
  have hvb:=hvb h2
  rw[if_pos rfl]
  refine aQ yc rfl ?_
  refine cN ?_
  refine aS (iu u m n d n.a ht hl hva) (hfr n.a _ ?_) (by simp[cP,bw]) trivial ?_
  ·exact fun y hy=>rfl
  refine cN ?_
  refine aV (ab::L.all) (iu u m n d n.b ht hl hvb) (fun H1 h1=>hfr n.b H1 h1) (by simp[cP,bw]) trivial ?_
  refine Eq.mpr (qm (ab::L.all) _) (rK ?_)
  refine cN ?_
  refine aL (ju (u:=u) (t:=t) (n:=n) (d:=d) (L:=L) (m:=m) (ab:=ab) ?_ ?_ ht hl hs _) ?_
  ·exact⟨hM.cO fun y hy=>by have:=dI hout hy;exact br,⟨_,bf⟩,hout⟩
  ·exact fun y hy=>Nat.lt_of_lt_of_le (hlt y hy) cU
  rintro _ H2 n2 ⟨hA,hn2,hk2⟩
  obtain⟨dd2,ra2⟩:=hA.row
  refine cN ?_
  exact⟨⟨rfl,hA.cO fun y hy=>br,cU,fun y y1 y2 y3=>Eq.trans br ((hk2 y (Nat.lt_of_lt_of_le y1 cU) y2 y3).trans br)⟩⟩
 |false=>
  rw[h2] at c0
  rw[if_neg (by decide)]
  by_cases h0':n.op=0
  ·rw[if_neg (fun e=>e h0')]
   refine aQ yc rfl ?_
   refine cN ?_
   refine aS (iu u m n d n.a ht hl hva) (hfr n.a _ ?_) (by simp[cP,bw]) trivial ?_
   ·exact fun y hy=>rfl
   refine cN ?_
   refine aL (ju (u:=u) (t:=t) (n:=n) (d:=d) (L:=L) (m:=m) (ab:=ab) ?_ ?_ ht hl hs _) ?_
   ·exact⟨hM.cO fun y hy=>by have:=dI hout hy;exact br,⟨_,bf⟩,hout⟩
   ·exact fun y hy=>Nat.lt_of_lt_of_le (hlt y hy) cU
   rintro _ H2 n2 ⟨hA,hn2,hk2⟩
   obtain⟨dd2,ra2⟩:=hA.row
   refine cN ?_
   exact⟨⟨rfl,hA.cO fun y hy=>br,cU,fun y y1 y2 y3=>Eq.trans br ((hk2 y (Nat.lt_of_lt_of_le y1 cU) y2 y3).trans br)⟩⟩
  ·rw[if_pos h0']
   have c1:=I7 n.op (m.val t n.a) (by unfold dN at h2;simp only[Bool.and_eq_false_iff,decide_eq_false_iff_not] at h2;omega)
   refine aQ yc rfl ?_
   refine cN ?_
   refine aS (iu u m n d n.a ht hl hva) (hfr n.a _ ?_) (by simp[cP,bw]) trivial ?_
   ·exact fun y hy=>rfl
   refine cN ?_
   refine aL (ju (u:=u) (t:=t) (n:=n) (d:=d) (L:=L) (m:=m) (ab:=ab) ?_ ?_ ht hl hs _) ?_
   ·exact⟨hM.cO fun y hy=>by have:=dI hout hy;exact br,⟨_,bf⟩,hout⟩
   ·exact fun y hy=>Nat.lt_of_lt_of_le (hlt y hy) cU
   rintro _ H2 n2 ⟨hA,hn2,hk2⟩
   obtain⟨dd2,ra2⟩:=hA.row
   refine cN ?_
   exact⟨⟨rfl,hA.cO fun y hy=>br,cU,fun y y1 y2 y3=>Eq.trans br ((hk2 y (Nat.lt_of_lt_of_le y1 cU) y2 y3).trans br)⟩⟩
end Go.Proofs.YtekfmjjmihomlaaGreat
end
