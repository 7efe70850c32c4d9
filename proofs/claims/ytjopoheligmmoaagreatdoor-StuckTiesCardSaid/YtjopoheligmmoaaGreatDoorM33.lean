import Derived.Test.YtjopoheligmmoaaGreatDoorM32
section
/- A step keeps a situation right. -/
namespace Go.Proofs.YtjopoheligmmoaaGreatDoor
open Go Go.cY Go.Proofs
set_option linter.unusedSimpArgs false
set_option linter.unusedVariables false
theorem tH (n:Int):eP (wg n):=by unfold eP wg;rw[IntKind.wrap_i64];omega
theorem VT {p:Prop} [Decidable p] {a b:Int} (h1:eP a) (h2:eP b):eP (if p then a else b):=by
 split
 ·exact h1
 ·exact h2
theorem UN (t:Bool):eP (tr t):=by unfold tr eP;split<;>omega
theorem TG {a:Int} (h:eP a) (b:Int):eP (TF a b):=by
 unfold TF
 have hd:(1:Int)≤2^(min (LX b).toNat 64):=Int.le_of_lt_add_one (by have:(0:Int)<2^(min (LX b).toNat 64):=Int.pow_pos (by omega);omega)
 generalize (2:Int)^(min (LX b).toNat 64)=d at *
 rw[Int.fdiv_eq_ediv_of_nonneg _ (by omega)]
 have h1:=Int.mul_ediv_add_emod a d
 have h2:=Int.emod_nonneg a (b:=d) (by omega)
 have h3:=Int.emod_lt_of_pos a (b:=d) (by omega)
 obtain⟨h4,h5⟩:=h
 generalize a /d=q at *
 generalize a%d=r at *
 constructor
 ·apply Int.not_lt.1
  intro hq
  have:d * (q+1)≤1 * (q+1):=Int.mul_le_mul_of_nonpos_right hd (by omega)
  rw[Int.mul_add] at this
  omega
 ·apply Int.not_le.1
  intro hq
  have:1 * q≤d * q:=Int.mul_le_mul_of_nonneg_right hd (by omega)
  omega
theorem TW {a b:Int} (ha:eP a) (op:Int):eP (TV op a b):=by
 have hq:eP (JX a b):=by
  unfold JX
  split
  ·exact⟨by omega,by omega⟩
  ·split
   ·exact tH _
   ·exact tH _
 have hm:eP (O8 a b):=by
  unfold O8
  split
  ·exact ha
  ·exact tH _
 unfold TV
 repeat' (with_reducible refine VT ?_ ?_)
 all_goals first
  |exact UN _
  |exact TG ha _
  |exact hq
  |exact hm
  |exact tH _
theorem S0 (op a:Int):eP (SZ op a):=by
 unfold SZ
 split
 ·exact tH _
 ·exact UN _
theorem getD_none {α:Type} {l:List α} {k:Nat} {d:α} (h:l.length≤k):l.getD k d=d:=by simp[List.getD,List.getElem?_eq_none h]
section
variable {u:bw} {m:MS} {t:Nat}
theorem TI (h:eM u m) (ht:t<u.bu.length) (k:Nat):eP ((m.bz.getD t []).getD k 0):=by
 by_cases hk:k<(m.bz.getD t []).length
 ·exact h.DN t ht _ (cS 0 hk)
 ·rw[getD_none (Nat.le_of_not_lt hk)]
  exact⟨by omega,by omega⟩
theorem D0 (h:eM u m) (ht:t<u.bu.length) {v:lZ} (hv:v.Wf):eP (m.val t v):=by
 unfold MS.val
 split
 ·exact TI h ht _
 ·exact hv.word
theorem TE (h:eM u m) (ht:t<u.bu.length) {n:Node} (hn:n.Wf):eP (m.DH t n):=by
 unfold MS.DH
 split
 ·exact TW (D0 h ht hn.a) _
 ·split
  ·exact S0 _ _
  ·exact D0 h ht hn.a
theorem nw {α:Type} {l:List α} {i:Nat} {a x:α} (h:x∈l.set i a):x∈l∨x=a:=by
 rcases List.mem_or_eq_of_mem_set h with h|h
 ·exact .inl h
 ·exact .inr h
theorem getD_set_ne {α:Type} {l:List α} {i j:Nat} {v d:α} (h:i≠j):(l.set i v).getD j d=l.getD j d:=by simp[List.getD,List.getElem?_set_ne h]
theorem eM.gZ (h:eM u m) (k w:Int) (hw:eP w):eM u (m.gZ t k w) where
 pd:=h.pd
 fy:=h.fy
 sl:=by simp only[MS.gZ,List.length_set];exact h.sl
 DM:=fun s hs=>by
  simp only[MS.gZ]
  by_cases e:t=s
  ·subst e
   rw[ed (by rw[h.sl];exact hs),List.length_set]
   exact h.DM t hs
  ·rw[getD_set_ne e];exact h.DM s hs
 DN:=fun s hs x hx=>by
  simp only[MS.gZ] at hx
  by_cases e:t=s
  ·subst e
   rw[ed (by rw[h.sl];exact hs)] at hx
   rcases nw hx with hx|rfl
   ·exact h.DN t hs x hx
   ·exact hw
  ·rw[getD_set_ne e] at hx;exact h.DN s hs x hx
 ml:=h.ml
 mw:=h.mw
 hl:=h.hl
 hw:=h.hw
 pw:=h.pw
theorem eM.mem (h:eM u m) (k:Nat) (w:Int) (hw:eP w):eM u { m with mem:=m.mem.set k w } where
 pd:=h.pd
 fy:=h.fy
 sl:=h.sl
 DM:=h.DM
 DN:=h.DN
 ml:=by simp only[List.length_set];exact h.ml
 mw:=fun x hx=>by
  rcases nw hx with hx|rfl
  ·exact h.mw x hx
  ·exact hw
 hl:=h.hl
 hw:=h.hw
 pw:=h.pw
theorem eM.hold (h:eM u m) (k:Nat) (w:Int) (hw:-1≤w∧w<u.bu.length):eM u { m with hold:=m.hold.set k w } where
 pd:=h.pd
 fy:=h.fy
 sl:=h.sl
 DM:=h.DM
 DN:=h.DN
 ml:=h.ml
 mw:=h.mw
 hl:=by simp only[List.length_set];exact h.hl
 hw:=fun x hx=>by
  rcases nw hx with hx|rfl
  ·exact h.hw x hx
  ·exact hw
 pw:=h.pw
theorem eM.print (h:eM u m) (p:dV) (hp:0≤p.dW∧p.dW<u.bu.length∧eP p.word):eM u { m with cP:=m.cP++[p] } where
 pd:=h.pd
 fy:=h.fy
 sl:=h.sl
 DM:=h.DM
 DN:=h.DN
 ml:=h.ml
 mw:=h.mw
 hl:=h.hl
 hw:=h.hw
 pw:=fun x hx=>by
  rcases List.mem_append.1 hx with hx|hx
  ·exact h.pw x hx
  ·simp only[List.mem_cons,List.not_mem_nil,or_false] at hx
   subst hx;exact hp
theorem eM.ZI (h:eM u m) (k:Int) (hk:t<u.bu.length→0≤k∧k<(u.gr t).nodes.length):eM u { m with at_:=m.at_.set t k } where
 pd:=by simp only[List.length_set];exact h.pd
 fy:=fun s hs=>by
  by_cases e:t=s
  ·subst e
   dsimp only
   rw[ed (by rw[h.pd];exact hs)]
   exact hk hs
  ·dsimp only
   rw[getD_set_ne e];exact h.fy s hs
 sl:=h.sl
 DM:=h.DM
 DN:=h.DN
 ml:=h.ml
 mw:=h.mw
 hl:=h.hl
 hw:=h.hw
 pw:=h.pw
theorem kF (h:eM u m) (ht:t<u.bu.length) (hb:m.k9 u t=0):(m.node u t).kind≠9∧¬((m.node u t).kind=5∧0≤m.hold.getD (m.node u t).cM.toNat 0):=by
 unfold MS.k9 at hb
 rw[if_neg (by have:=h.pd;omega),Int.toNat_natCast] at hb
 refine⟨fun e=> ?_,fun e=> ?_⟩
 ·rw[if_pos e] at hb;cases hb
 ·rw[if_neg (by omega)] at hb
  rw[if_pos e] at hb
  cases hb
theorem GU (hu:u.Wf) (h:eM u m) (ht:t<u.bu.length):(m.node u t).Wf:=by
 have h1:=h.fy t ht
 exact(hu.bu _ (cS default ht)).nodes _ (cS default (show(m.at_.getD t 0).toNat<(u.gr t).nodes.length by omega))
theorem UZ (hu:u.Wf) (hr:cT u) (h:eM u m) (ht:t<u.bu.length):eM u (m.act t (m.node u t)).1:=by
 have hn:=h.node hr ht
 have hw:=GU hu h ht
 have hst:=TE h ht hw
 have hva:=D0 h ht hw.a
 have hmw:eP (m.mem.getD (m.node u t).cM.toNat 0):=by
  by_cases hk:(m.node u t).cM.toNat<m.mem.length
  ·exact h.mw _ (cS 0 hk)
  ·rw[getD_none (Nat.le_of_not_lt hk)];exact⟨by omega,by omega⟩
 generalize m.node u t=n at *
 unfold MS.act
 split
 ·exact h.gZ _ _ hst
 split
 ·exact h.gZ _ _ hmw
 split
 ·exact h.mem _ _ hva
 split
 ·exact(h.gZ (t:=t) n.slot _ hmw).mem _ _ hva
 split
 ·exact h.hold _ _ ⟨by omega,by omega⟩
 split
 ·exact h.hold _ _ ⟨by omega,by omega⟩
 split
 ·exact h.print _ ⟨by dsimp only;omega,by dsimp only;omega,hva⟩
 ·exact h
theorem K5 (hr:cT u) (h:eM u m) (ht:t<u.bu.length) (hk:(m.node u t).kind≠9):0≤(m.act t (m.node u t)).2.1∧(m.act t (m.node u t)).2.1<(u.gr t).nodes.length:=by
 have hn:=h.node hr ht
 generalize m.node u t=n at *
 have hkd:=hn.kind
 have hnx:=hn.next.1 (by unfold jV;exact decide_eq_true (by omega))
 unfold MS.act
 repeat' split
 all_goals first
  |exact hnx
  |exact hn.sC.1 (by omega)
theorem w6 (hu:u.Wf) (hr:cT u) (h:eM u m) (ht:t<u.bu.length) (hk:(m.node u t).kind≠9):eM u (m.step u t).1:=by
 have h1:=UZ hu hr h ht
 have h2:=K5 hr h ht hk
 have h3:(m.step u t).1={ (m.act t (m.node u t)).1 with at_:=m.at_.set t (m.act t (m.node u t)).2.1 }:=rfl
 have h4:(m.act t (m.node u t)).1.at_=m.at_:=by
  unfold MS.act
  repeat' split
  all_goals rfl
 rw[h3,←h4]
 exact h1.ZI _ fun _=>h2
end
end Go.Proofs.YtjopoheligmmoaaGreatDoor
end
section
/- The machine in rows: what a store makes of it. -/
namespace Go.Proofs.YtjopoheligmmoaaGreatDoor
open Go Go.cY Go.Proofs
set_option linter.unusedSimpArgs false
set_option linter.unusedVariables false
structure ML where
 mr:Nat
 a:Nat
 s:Nat
 me:Nat
 ho:Nat
 pr:Nat
 ids:List Nat
abbrev ML.all (L:ML):List Nat:=L.mr::L.a::L.s::L.me::L.ho::L.pr::L.ids
abbrev ML.it (L:ML) (t:Nat):Nat:=L.ids.getD t 0
abbrev ML.At (L:ML) (u:bw) (m:MS) (H:Hp):Prop:=WZ u m L.mr L.a L.s L.me L.ho L.pr L.ids H
theorem WZ.IB {u:bw} {m:MS} {mr a s me ho pr:Nat} {ids:List Nat} {H:Hp} (h:WZ u m mr a s me ho pr ids H) (k:Nat):cY.dX H (k+4) (.pt mr 1 0 0)=m.fz u:=by
 obtain⟨d1,h1⟩:=h.rM
 obtain⟨d2,h2⟩:=h.rA
 obtain⟨d3,h3⟩:=h.rS
 obtain⟨d4,h4⟩:=h.rE
 obtain⟨d5,h5⟩:=h.rH
 obtain⟨d6,h6⟩:=h.rP
 have hsl:(eS ids m.bz).length=m.bz.length:=by unfold eS;rw[List.length_map,List.length_zip,h.len];simp
 have hs:(eS ids m.bz).map (cY.dX H (k+1))=m.bz.map cO:=by
  apply List.ext_getElem (by simp[hsl])
  intro t q1 q2
  have ht:t<m.bz.length:=by simpa using q2
  have hti:t<ids.length:=by rw[h.len];exact ht
  obtain⟨d,hd⟩:=h.rL t ht
  rw[show ids.getD t 0=ids[t] by simp[List.getD,hti],show m.bz.getD t []=m.bz[t] by simp[List.getD,ht]] at hd
  rw[List.getElem_map,List.getElem_map]
  simp only[eS,List.getElem_map,List.getElem_zip]
  rw[dh hd (by simp),cy _ ((cC _ _).2 fun _ _=>by simp[cK])]
 simp only[cY.dX,h1]
 simp only[List.length_cons,List.length_nil,if_true,List.map_cons,List.map_nil,MS.rows]
 rw[vw]
 simp only[List.map_cons,List.map_nil]
 rw[dh h2 (by simp),dh h3 hsl,dh h4 (by simp),dh h5 (by simp),dh h6 (by simp),hs]
 rw[cy _ ((cC _ _).2 fun _ _=>by simp[cK]),cy _ ((cC _ _).2 fun _ _=>by simp[cK]),cy _ ((cC _ _).2 fun _ _=>by simp[cK]),cy _ ((cC _ _).2 fun _ _=>by simp[cK])]
 rw[dv _ (show cK 0 (ct u.shared) by simp[cK,cC]),dv _ (show cK 0 (ct u.cE) by simp[cK,cC]),dv _ (show cK 0 (de u.bu) by simp[cK,cC])]
 rfl
section
variable {u:bw} {m:MS} {L:ML} {H H':Hp}
theorem mR {p:Prop} (h:p:=by first|assumption|(refine Ne.symm ?_;assumption)):p:=h
theorem ML.At.mem (h:L.At u m H):(∀x∈[L.a,L.s,L.me,L.ho,L.pr],x∈L.all):=by
 intro x hx
 simp only[List.mem_cons,List.not_mem_nil,or_false] at hx
 simp only[ML.all,List.mem_cons]
 omega
theorem lE (h:L.At u m H) {t:Nat} (ht:t<m.bz.length):L.it t∈L.all:=by
 have:L.it t∈L.ids:=fJ (by rw[h.len];exact ht)
 simp only[ML.all,List.mem_cons]
 exact .inr (.inr (.inr (.inr (.inr (.inr this)))))
theorem X3 (h:L.At u m H) {t s:Nat} (ht:t<m.bz.length) (hs:s<m.bz.length) (e:s≠t):L.it s≠L.it t:=by
 have h1:=(List.nodup_cons.1 (List.nodup_cons.1 (List.nodup_cons.1 (List.nodup_cons.1 (List.nodup_cons.1 (List.nodup_cons.1 h.nodup).2).2).2).2).2).2
 have hl:=h.len
 intro he
 have ht':t<L.ids.length:=by omega
 have hs':s<L.ids.length:=by omega
 have:L.ids[s]=L.ids[t]:=by simpa[ML.it,List.getD,ht',hs'] using he
 exact e ((List.getElem_inj h1).1 this)
structure ML.XB (L:ML) (t:Nat):Prop where
 ne:L.mr≠L.a∧L.mr≠L.s∧L.mr≠L.me∧L.mr≠L.ho∧L.mr≠L.pr∧L.a≠L.s∧L.a≠L.me∧L.a≠L.ho∧L.a≠L.pr∧L.s≠L.me∧L.s≠L.ho∧L.s≠L.pr∧L.me≠L.ho∧L.me≠L.pr∧L.ho≠L.pr
 it:L.it t≠L.mr∧L.it t≠L.a∧L.it t≠L.s∧L.it t≠L.me∧L.it t≠L.ho∧L.it t≠L.pr
theorem apart (h:L.At u m H) {t:Nat} (ht:t<m.bz.length):L.XB t:=by
 have hn:=h.nodup
 have hi:L.it t∈L.ids:=fJ (by rw[h.len];exact ht)
 have hne:∀x,x∉L.ids→L.it t≠x:=fun x hx e=>hx (e▸hi)
 simp only[List.nodup_cons,List.mem_cons,not_or] at hn
 obtain⟨⟨a1,a2,a3,a4,a5,a6⟩,⟨b1,b2,b3,b4,b5⟩,⟨c1,c2,c3,c4⟩,⟨d1,d2,d3⟩,⟨e1,e2⟩,f1,_⟩:=hn
 exact⟨⟨a1,a2,a3,a4,a5,b1,b2,b3,b4,c1,c2,c3,d1,d2,e1⟩,hne _ a6,hne _ b5,hne _ c4,hne _ d3,hne _ e2,hne _ f1⟩
theorem ML.At.cQ (h:L.At u m H) (hk:∀y∈L.all,bt H' y=bt H y):L.At u m H':=by
 have hm:=h.mem
 obtain⟨d1,h1⟩:=h.rM
 obtain⟨d2,h2⟩:=h.rA
 obtain⟨d3,h3⟩:=h.rS
 obtain⟨d4,h4⟩:=h.rE
 obtain⟨d5,h5⟩:=h.rH
 obtain⟨d6,h6⟩:=h.rP
 refine⟨⟨d1,(hk _ (by simp)).trans h1⟩,⟨d2,(hk _ (hm _ (by simp))).trans h2⟩,⟨d3,(hk _ (hm _ (by simp))).trans h3⟩,fun t ht=> ?_,⟨d4,(hk _ (hm _ (by simp))).trans h4⟩,⟨d5,(hk _ (hm _ (by simp))).trans h5⟩,⟨d6,(hk _ (hm _ (by simp))).trans h6⟩,h.len,h.nodup⟩
 obtain⟨d,hd⟩:=h.rL t ht
 exact⟨d,(hk _ (lE h ht)).trans hd⟩
theorem ML.At.gZ (h:L.At u m H) {t:Nat} (ht:t<m.bz.length) (k w:Int) (hit:∃d,bt H' (L.it t)=some (.row 2 1 d (((m.bz.getD t []).map i64).set k.toNat (i64 w)))) (hk:∀y∈L.all,y≠L.it t→bt H' y=bt H y):L.At u (m.gZ t k w) H':=by
 obtain⟨-,n1,n2,n3,n4,n5,n6⟩:=apart h ht
 have hm:=h.mem
 obtain⟨d1,h1⟩:=h.rM
 obtain⟨d2,h2⟩:=h.rA
 obtain⟨d3,h3⟩:=h.rS
 obtain⟨d4,h4⟩:=h.rE
 obtain⟨d5,h5⟩:=h.rH
 obtain⟨d6,h6⟩:=h.rP
 have hl:(m.gZ t k w).bz.length=m.bz.length:=by simp[MS.gZ]
 have hrow:eS L.ids (m.gZ t k w).bz=eS L.ids m.bz:=by
  unfold eS MS.gZ
  apply List.ext_getElem (by simp)
  intro i q1 q2
  simp only[List.getElem_map,List.getElem_zip,AV.sl.injEq,true_and]
  rw[List.getElem_set]
  have hi:i<m.bz.length:=by simp at q2;omega
  split
  ·rename_i e;subst e;rw[List.length_set];simp[List.getD,hi]
  ·rfl
 refine⟨⟨d1, ?_⟩,⟨d2,(hk _ (hm _ (by simp)) mR).trans h2⟩,⟨d3,by rw[hrow];exact(hk _ (hm _ (by simp)) mR).trans h3⟩,fun s hs=> ?_,⟨d4,(hk _ (hm _ (by simp)) mR).trans h4⟩,⟨d5,(hk _ (hm _ (by simp)) mR).trans h5⟩,⟨d6,(hk _ (hm _ (by simp)) mR).trans h6⟩,by rw[hl];exact h.len,h.nodup⟩
 ·rw[show(m.gZ t k w).rows u L.a L.s L.me L.ho L.pr=m.rows u L.a L.s L.me L.ho L.pr by simp[MS.rows,MS.gZ]]
  exact(hk _ (by simp) mR).trans h1
 ·rw[hl] at hs
  by_cases e:s=t
  ·subst e
   obtain⟨d,hd⟩:=hit
   refine⟨d,hd.trans ?_⟩
   rw[show(m.gZ s k w).bz.getD s []=(m.bz.getD s []).set k.toNat w from ed hs,List.map_set]
  ·obtain⟨d,hd⟩:=h.rL s hs
   refine⟨d, ?_⟩
   rw[show(m.gZ t k w).bz.getD s []=m.bz.getD s [] from getD_set_ne (Ne.symm e)]
   exact(hk _ (lE h hs) (X3 h ht hs e)).trans hd
theorem ML.At.jX (h:L.At u m H) {t:Nat} (ht:t<m.bz.length) (k w:Int) (hme:∃d,bt H' L.me=some (.row 2 1 d ((m.mem.map i64).set k.toNat (i64 w)))) (hk:∀y∈L.all,y≠L.me→bt H' y=bt H y):L.At u { m with mem:=m.mem.set k.toNat w } H':=by
 obtain⟨⟨a1,a2,a3,a4,a5,b1,b2,b3,b4,c1,c2,c3,e1,e2,f1⟩,n1,n2,n3,n4,n5,n6⟩:=apart h ht
 have hm:=h.mem
 obtain⟨d1,h1⟩:=h.rM
 obtain⟨d2,h2⟩:=h.rA
 obtain⟨d3,h3⟩:=h.rS
 obtain⟨d4,h4⟩:=hme
 obtain⟨d5,h5⟩:=h.rH
 obtain⟨d6,h6⟩:=h.rP
 refine⟨⟨d1, ?_⟩,⟨d2,(hk _ (hm _ (by simp)) mR).trans h2⟩,⟨d3,(hk _ (hm _ (by simp)) mR).trans h3⟩,fun s hs=> ?_,⟨d4,by rw[List.map_set];exact h4⟩,⟨d5,(hk _ (hm _ (by simp)) mR).trans h5⟩,⟨d6,(hk _ (hm _ (by simp)) mR).trans h6⟩,h.len,h.nodup⟩
 ·rw[show({ m with mem:=m.mem.set k.toNat w }:MS).rows u L.a L.s L.me L.ho L.pr=m.rows u L.a L.s L.me L.ho L.pr by simp[MS.rows]]
  exact(hk _ (by simp) mR).trans h1
 ·obtain⟨d,hd⟩:=h.rL s hs
  obtain⟨m1,m2,m3,m4,m5,m6⟩:=(apart h hs).it
  exact⟨d,(hk _ (lE h hs) mR).trans hd⟩
theorem ML.At.UD (h:L.At u m H) {t:Nat} (ht:t<m.bz.length) (k w:Int) (hho:∃d,bt H' L.ho=some (.row 3 1 d ((m.hold.map i64).set k.toNat (i64 w)))) (hk:∀y∈L.all,y≠L.ho→bt H' y=bt H y):L.At u { m with hold:=m.hold.set k.toNat w } H':=by
 obtain⟨⟨a1,a2,a3,a4,a5,b1,b2,b3,b4,c1,c2,c3,e1,e2,f1⟩,n1,n2,n3,n4,n5,n6⟩:=apart h ht
 have hm:=h.mem
 obtain⟨d1,h1⟩:=h.rM
 obtain⟨d2,h2⟩:=h.rA
 obtain⟨d3,h3⟩:=h.rS
 obtain⟨d4,h4⟩:=h.rE
 obtain⟨d5,h5⟩:=hho
 obtain⟨d6,h6⟩:=h.rP
 refine⟨⟨d1, ?_⟩,⟨d2,(hk _ (hm _ (by simp)) mR).trans h2⟩,⟨d3,(hk _ (hm _ (by simp)) mR).trans h3⟩,fun s hs=> ?_,⟨d4,(hk _ (hm _ (by simp)) mR).trans h4⟩,⟨d5,by rw[List.map_set];exact h5⟩,⟨d6,(hk _ (hm _ (by simp)) mR).trans h6⟩,h.len,h.nodup⟩
 ·rw[show({ m with hold:=m.hold.set k.toNat w }:MS).rows u L.a L.s L.me L.ho L.pr=m.rows u L.a L.s L.me L.ho L.pr by simp[MS.rows]]
  exact(hk _ (by simp) mR).trans h1
 ·obtain⟨d,hd⟩:=h.rL s hs
  obtain⟨m1,m2,m3,m4,m5,m6⟩:=(apart h hs).it
  exact⟨d,(hk _ (lE h hs) mR).trans hd⟩
theorem ML.At.ZI (h:L.At u m H) {t:Nat} (ht:t<m.bz.length) (k:Nat) (w:Int) (hat:∃d,bt H' L.a=some (.row 3 1 d ((m.at_.map i64).set k (i64 w)))) (hk:∀y∈L.all,y≠L.a→bt H' y=bt H y):L.At u { m with at_:=m.at_.set k w } H':=by
 obtain⟨⟨a1,a2,a3,a4,a5,b1,b2,b3,b4,c1,c2,c3,e1,e2,f1⟩,n1,n2,n3,n4,n5,n6⟩:=apart h ht
 have hm:=h.mem
 obtain⟨d1,h1⟩:=h.rM
 obtain⟨d2,h2⟩:=hat
 obtain⟨d3,h3⟩:=h.rS
 obtain⟨d4,h4⟩:=h.rE
 obtain⟨d5,h5⟩:=h.rH
 obtain⟨d6,h6⟩:=h.rP
 refine⟨⟨d1, ?_⟩,⟨d2,by rw[List.map_set];exact h2⟩,⟨d3,(hk _ (hm _ (by simp)) mR).trans h3⟩,fun s hs=> ?_,⟨d4,(hk _ (hm _ (by simp)) mR).trans h4⟩,⟨d5,(hk _ (hm _ (by simp)) mR).trans h5⟩,⟨d6,(hk _ (hm _ (by simp)) mR).trans h6⟩,h.len,h.nodup⟩
 ·rw[show({ m with at_:=m.at_.set k w }:MS).rows u L.a L.s L.me L.ho L.pr=m.rows u L.a L.s L.me L.ho L.pr by simp[MS.rows]]
  exact(hk _ (by simp) mR).trans h1
 ·obtain⟨d,hd⟩:=h.rL s hs
  obtain⟨m1,m2,m3,m4,m5,m6⟩:=(apart h hs).it
  exact⟨d,(hk _ (lE h hs) mR).trans hd⟩
theorem ML.At.V6 (h:L.At u m H) {t:Nat} (ht:t<m.bz.length) (p:dV) (hmr:∃d,bt H' L.mr=some (.row 114 8 d [({ m with cP:=m.cP++[p] }:MS).rows u L.a L.s L.me L.ho L.pr])) (hpr:∃d,bt H' L.pr=some (.row 155 2 d (m.cP.map dV.av++[p.av]))) (hk:∀y∈L.all,y≠L.pr→y≠L.mr→bt H' y=bt H y):L.At u { m with cP:=m.cP++[p] } H':=by
 obtain⟨⟨a1,a2,a3,a4,a5,b1,b2,b3,b4,c1,c2,c3,e1,e2,f1⟩,n1,n2,n3,n4,n5,n6⟩:=apart h ht
 have hm:=h.mem
 obtain⟨d2,h2⟩:=h.rA
 obtain⟨d3,h3⟩:=h.rS
 obtain⟨d4,h4⟩:=h.rE
 obtain⟨d5,h5⟩:=h.rH
 obtain⟨d6,h6⟩:=hpr
 refine⟨hmr,⟨d2,(hk _ (hm _ (by simp)) mR mR).trans h2⟩,⟨d3,(hk _ (hm _ (by simp)) mR mR).trans h3⟩,fun s hs=> ?_,⟨d4,(hk _ (hm _ (by simp)) mR mR).trans h4⟩,⟨d5,(hk _ (hm _ (by simp)) mR mR).trans h5⟩,⟨d6,by rw[List.map_append];exact h6⟩,h.len,h.nodup⟩
 obtain⟨d,hd⟩:=h.rL s hs
 obtain⟨m1,m2,m3,m4,m5,m6⟩:=(apart h hs).it
 exact⟨d,(hk _ (lE h hs) mR mR).trans hd⟩
end
end Go.Proofs.YtjopoheligmmoaaGreatDoor
end
section
/- An action at work: what a value is; a word into a slot. -/
namespace Go.Proofs.YtjopoheligmmoaaGreatDoor
open Go Go.cY Go.Proofs
set_option linter.unusedSimpArgs false
set_option linter.unusedVariables false
set_option maxRecDepth 8000
def AC (x:AV) (t:Int) (n:Node) (d:gS):List AV:=[x,i64 t,u8 n.kind,u8 n.op,i64 n.slot,i64 n.cM,bl n.a.jK,i64 n.a.slot,i64 n.a.word,bl n.b.jK,i64 n.b.slot,i64 n.b.word,i64 n.next,i64 n.sC,i64 n.origin,i64 d.dW,i64 d.node,u8 d.kind,i64 d.cM,i64 d.word,i64 d.put]
abbrev nI (u:bw) (m:MS) (t:Int) (n:Node) (d:gS):AV:= .ip 21 .any [.agg (AC (m.fz u) t n d)] 0 0
@[simp] theorem ZM (k:Nat) (u:bw) (m:MS) (t:Int) (n:Node) (d:gS):cZ k (AC (m.fz u) t n d):=by
  simp[cK,cZ,AC]
structure tj (u:bw) (m:MS) (t:Nat) (n:Node) (d:gS) (ab:Nat) (L:ML) (H:Hp):Prop where
 M:L.At u m H
 row:∃dd,bt H ab=some (.row 118 21 dd [.agg (AC (.pt L.mr 1 0 0) t n d)])
 out:ab∉L.all
theorem tj.dX {u:bw} {m:MS} {t:Nat} {n:Node} {d:gS} {ab:Nat} {L:ML} {H:Hp} (h:tj u m t n d ab L H):cY.dX H 6 (.pt ab 1 0 0)=nI u m t n d:=by
 obtain⟨dd,hr⟩:=h.row
 rw[show cY.dX H 6 (.pt ab 1 0 0)= .ip 21 .any (([.agg (AC (.pt L.mr 1 0 0) t n d)]:List AV).map (cY.dX H 5)) 0 0 from VO hr rfl]
 simp only[List.map_cons,List.map_nil]
 rw[vw]
 simp only[AC,List.map_cons,List.map_nil]
 have:=h.M.IB 0
 rw[this]
 simp only[cY.dX]
 rfl
theorem tj.cQ {u:bw} {m:MS} {t:Nat} {n:Node} {d:gS} {ab:Nat} {L:ML} {H H':Hp} (h:tj u m t n d ab L H) (hk:∀y∈ab::L.all,bt H' y=bt H y):tj u m t n d ab L H':=by
 obtain⟨dd,hr⟩:=h.row
 exact⟨h.M.cQ fun y hy=>hk y (List.mem_cons_of_mem _ hy),⟨dd,(hk ab (by simp)).trans hr⟩,h.out⟩
def nH (m:MS) (t:Nat) (v:lZ):Prop:=v.jK=true→0≤v.slot∧v.slot<(m.bz.getD t []).length
theorem ir (u:bw) (m:MS) {t:Nat} (n:Node) (d:gS) (v:lZ) (ht:t<m.bz.length) (hl:m.bz.length≤8) (hv:nH m t v):Pure Tryz.prog 158 [nI u m t n d,v.av] (fun r=>r=i64 (m.val t v)):=by
 unfold MS.val
 have e0:∀d,(m.bz.map cO).getD ((t:Int)).toNat d=cO (m.bz.getD t []):=fun d=>by rw[Int.toNat_natCast];exact dA cO m.bz t d ht
 have a0:(m.bz.map cO).length=m.bz.length:=by simp
 cases hs:v.jK with
 |true=>
  have r0:=hs
  obtain⟨v1,v2⟩:=hv hs
  have a1:((m.bz.getD t []).map i64).length=(m.bz.getD t []).length:=by simp
  have e1:=fun d=>om (l:=m.bz.getD t []) (k:=v.slot) (by omega) d
  rw[if_pos rfl]
  refine aI uo rfl ?_
  refine cU ?_
  first|exact rfl|trivial
 |false=>
  have r0:=hs
  rw[if_neg (by decide)]
  refine aI uo rfl ?_
  refine cU ?_
  first|exact rfl|trivial
abbrev tN (u:bw) (m:MS) (t:Nat) (n:Node) (d:gS) (ab:Nat) (L:ML) (H0:Hp) (nx:Nat) (H:Hp) (k:Nat):Prop:=tj u m t n d ab L H∧nx≤k∧∀y,y<nx→y≠ab→y∉L.all→bt H y=bt H0 y
theorem PK {L:ML} {m:MS} {t:Nat} (hl:L.ids.length=m.bz.length) (ht:t<m.bz.length) (d:AV):(eS L.ids m.bz).getD t d= .sl (L.it t) (m.bz.getD t []).length:=by
 have h1:t<L.ids.length:=by omega
 have h2:t<(L.ids.zip m.bz).length:=by rw[List.length_zip];omega
 simp[eS,List.getD,ht,h1,List.getElem?_eq_getElem h2]
theorem vD {L:ML} {m:MS} (hl:L.ids.length=m.bz.length):(eS L.ids m.bz).length=m.bz.length:=by
 unfold eS;rw[List.length_map,List.length_zip,hl];simp
theorem dQ {x y:Nat} {l:List Nat} (h:x∉l) (hy:y∈l):y≠x:=fun e=>h (e▸hy)
set_option maxHeartbeats 1000000 in
theorem kN {u:bw} {m:MS} {t:Nat} {n:Node} {d:gS} {ab:Nat} {L:ML} {H:Hp} {nx:Nat} (h:tj u m t n d ab L H) (hlt:∀y∈ab::L.all,y<nx) (ht:t<m.bz.length) (hl:m.bz.length≤8) (hs:0≤n.slot∧n.slot<(m.bz.getD t []).length) (w:Int):
 cJ Tryz.prog 162 [.pt ab 1 0 0,i64 w] H nx (fun _ H' k=>tN u (m.gZ t n.slot w) t n { d with word:=w } ab L H nx H' k):=by
 obtain⟨hM,⟨dd,ra⟩,hout⟩:=h
 obtain⟨⟨a1,a2,a3,a4,a5,b1,b2,b3,b4,c1,c2,c3,e1,e2,f1⟩,n1,n2,n3,n4,n5,n6⟩:=apart hM ht
 have hmem:=hM.mem
 have k0:=hlt ab (by simp)
 have km:=hlt L.mr (by simp)
 have ks:=hlt L.s (List.mem_cons_of_mem _ (hmem _ (by simp)))
 have ki:=hlt (L.it t) (List.mem_cons_of_mem _ (lE hM ht))
 have o1:=dQ hout (List.mem_cons_self (a:=L.mr))
 have o2:=dQ hout (hmem L.s (by simp))
 have o3:=dQ hout (lE hM ht)
 obtain⟨d1,r1⟩:=hM.rM
 obtain⟨d3,r3⟩:=hM.rS
 obtain⟨d7,r7⟩:=hM.rL t ht
 have e0:∀d,(eS L.ids m.bz).getD ((t:Int)).toNat d= .sl (L.it t) (m.bz.getD t []).length:=fun d=>by rw[Int.toNat_natCast];exact PK hM.len ht d
 have q0:=vD hM.len
 have q1:((m.bz.getD t []).map i64).length=(m.bz.getD t []).length:=by simp
 obtain⟨hs1,hs2⟩:=hs
 refine aL yf rfl ?_
 refine cU ?_
 exact⟨⟨hM.gZ ht _ _ ⟨_,bx⟩ fun y hy hne=>by have:=dQ hout hy;exact cA,⟨_,bx⟩,hout⟩,c8,fun y y1 y2 y3=>by have y4:=dQ y3 (lE hM ht);exact cA⟩
end Go.Proofs.YtjopoheligmmoaaGreatDoor
end
section
/- An action at work: the kinds of nodes. -/
namespace Go.Proofs.YtjopoheligmmoaaGreatDoor
open Go Go.cY Go.Proofs
set_option linter.unusedSimpArgs false
set_option linter.unusedVariables false
set_option maxRecDepth 8000
set_option maxHeartbeats 2000000
theorem JH {u:bw} {m:MS} {t:Nat} {n:Node} {d:gS} {ab:Nat} {L:ML} {H:Hp} {nx:Nat} (h:tj u m t n d ab L H) (hlt:∀y∈ab::L.all,y<nx) (ht:t<m.bz.length) (hl:m.bz.length≤8) (hth:0≤n.cM∧n.cM<m.hold.length):
 cJ Tryz.prog 110 [.pt ab 1 0 0] H nx (fun r H' k=>r=i64 n.next∧tN u { m with hold:=m.hold.set n.cM.toNat t } t n { d with cM:=n.cM } ab L H nx H' k):=by
 have hfr:∀(v:lZ) (H1:Hp),(∀y∈ab::L.all,bt H1 y=bt H y)→[.pt ab 1 0 0,v.av].map (cY.dX H1 6)=[nI u m t n d,v.av]:=fun v H1 h1=>by
  rw[List.map_cons,List.map_cons,List.map_nil,(h.cQ h1).dX,dv _ (show cK 0 v.av by simp[cK])]
 have h0:=h
 obtain⟨hM,⟨dd,ra⟩,hout⟩:=h
 obtain⟨⟨a1,a2,a3,a4,a5,b1,b2,b3,b4,c1,c2,c3,e1',e2',f1⟩,n1,n2,n3,n4,n5,n6⟩:=apart hM ht
 have hmem:=hM.mem
 have k0:=hlt ab (by simp)
 have km:=hlt L.mr (by simp)
 have ke:=hlt L.me (List.mem_cons_of_mem _ (hmem _ (by simp)))
 have kh:=hlt L.ho (List.mem_cons_of_mem _ (hmem _ (by simp)))
 have kp:=hlt L.pr (List.mem_cons_of_mem _ (hmem _ (by simp)))
 have o1:=dQ hout (List.mem_cons_self (a:=L.mr))
 have o2:=dQ hout (hmem L.me (by simp))
 have o3:=dQ hout (hmem L.ho (by simp))
 have o4:=dQ hout (hmem L.pr (by simp))
 clear a1 a2 a4 b1 b2 b3 b4 c1 c2 c3 e1' e2' f1 n1 n2 n3 n4 n5 n6
 obtain⟨d1,r1⟩:=hM.rM
 obtain⟨d3,r4⟩:=hM.rE
 obtain⟨d5,r5⟩:=hM.rH
 obtain⟨d6,r6⟩:=hM.rP
 have q1:(m.mem.map i64).length=m.mem.length:=by simp
 have q2:(m.hold.map i64).length=m.hold.length:=by simp
 have q3:(m.cP.map dV.av).length=m.cP.length:=by simp
 refine aL yM rfl ?_
 refine cU ?_
 exact⟨⟨rfl,⟨hM.UD ht _ _ ⟨_,bx⟩ fun y hy hne=>by have:=dQ hout hy;exact cA,⟨_,bx⟩,hout⟩,c8,fun y y1 y2 y3=>by have y4:=dQ y3 (hmem L.ho (by simp));exact cA⟩⟩
theorem AK {u:bw} {m:MS} {t:Nat} {n:Node} {d:gS} {ab:Nat} {L:ML} {H:Hp} {nx:Nat} (h:tj u m t n d ab L H) (hlt:∀y∈ab::L.all,y<nx) (ht:t<m.bz.length) (hl:m.bz.length≤8) (hth:0≤n.cM∧n.cM<m.hold.length):
 cJ Tryz.prog 111 [.pt ab 1 0 0] H nx (fun r H' k=>r=i64 n.next∧tN u { m with hold:=m.hold.set n.cM.toNat (-1) } t n { d with cM:=n.cM } ab L H nx H' k):=by
 have hfr:∀(v:lZ) (H1:Hp),(∀y∈ab::L.all,bt H1 y=bt H y)→[.pt ab 1 0 0,v.av].map (cY.dX H1 6)=[nI u m t n d,v.av]:=fun v H1 h1=>by
  rw[List.map_cons,List.map_cons,List.map_nil,(h.cQ h1).dX,dv _ (show cK 0 v.av by simp[cK])]
 have h0:=h
 obtain⟨hM,⟨dd,ra⟩,hout⟩:=h
 obtain⟨⟨a1,a2,a3,a4,a5,b1,b2,b3,b4,c1,c2,c3,e1',e2',f1⟩,n1,n2,n3,n4,n5,n6⟩:=apart hM ht
 have hmem:=hM.mem
 have k0:=hlt ab (by simp)
 have km:=hlt L.mr (by simp)
 have ke:=hlt L.me (List.mem_cons_of_mem _ (hmem _ (by simp)))
 have kh:=hlt L.ho (List.mem_cons_of_mem _ (hmem _ (by simp)))
 have kp:=hlt L.pr (List.mem_cons_of_mem _ (hmem _ (by simp)))
 have o1:=dQ hout (List.mem_cons_self (a:=L.mr))
 have o2:=dQ hout (hmem L.me (by simp))
 have o3:=dQ hout (hmem L.ho (by simp))
 have o4:=dQ hout (hmem L.pr (by simp))
 clear a1 a2 a4 b1 b2 b3 b4 c1 c2 c3 e1' e2' f1 n1 n2 n3 n4 n5 n6
 obtain⟨d1,r1⟩:=hM.rM
 obtain⟨d3,r4⟩:=hM.rE
 obtain⟨d5,r5⟩:=hM.rH
 obtain⟨d6,r6⟩:=hM.rP
 have q1:(m.mem.map i64).length=m.mem.length:=by simp
 have q2:(m.hold.map i64).length=m.hold.length:=by simp
 have q3:(m.cP.map dV.av).length=m.cP.length:=by simp
 refine aL yN rfl ?_
 refine cU ?_
 exact⟨⟨rfl,⟨hM.UD ht _ _ ⟨_,bx⟩ fun y hy hne=>by have:=dQ hout hy;exact cA,⟨_,bx⟩,hout⟩,c8,fun y y1 y2 y3=>by have y4:=dQ y3 (hmem L.ho (by simp));exact cA⟩⟩
theorem xP {u:bw} {m:MS} {t:Nat} {n:Node} {d:gS} {ab:Nat} {L:ML} {H:Hp} {nx:Nat} (h:tj u m t n d ab L H) (hlt:∀y∈ab::L.all,y<nx) (ht:t<m.bz.length) (hl:m.bz.length≤8) (hva:nH m t n.a):
 cJ Tryz.prog 113 [.pt ab 1 0 0] H nx (fun r H' k=>r=i64 (if m.val t n.a=0 then n.sC else n.next)∧tN u m t n { d with word:=m.val t n.a } ab L H nx H' k):=by
 have hfr:∀(v:lZ) (H1:Hp),(∀y∈ab::L.all,bt H1 y=bt H y)→[.pt ab 1 0 0,v.av].map (cY.dX H1 6)=[nI u m t n d,v.av]:=fun v H1 h1=>by
  rw[List.map_cons,List.map_cons,List.map_nil,(h.cQ h1).dX,dv _ (show cK 0 v.av by simp[cK])]
 have h0:=h
 obtain⟨hM,⟨dd,ra⟩,hout⟩:=h
 obtain⟨⟨a1,a2,a3,a4,a5,b1,b2,b3,b4,c1,c2,c3,e1',e2',f1⟩,n1,n2,n3,n4,n5,n6⟩:=apart hM ht
 have hmem:=hM.mem
 have k0:=hlt ab (by simp)
 have km:=hlt L.mr (by simp)
 have ke:=hlt L.me (List.mem_cons_of_mem _ (hmem _ (by simp)))
 have kh:=hlt L.ho (List.mem_cons_of_mem _ (hmem _ (by simp)))
 have kp:=hlt L.pr (List.mem_cons_of_mem _ (hmem _ (by simp)))
 have o1:=dQ hout (List.mem_cons_self (a:=L.mr))
 have o2:=dQ hout (hmem L.me (by simp))
 have o3:=dQ hout (hmem L.ho (by simp))
 have o4:=dQ hout (hmem L.pr (by simp))
 clear a1 a2 a4 b1 b2 b3 b4 c1 c2 c3 e1' e2' f1 n1 n2 n3 n4 n5 n6
 obtain⟨d1,r1⟩:=hM.rM
 obtain⟨d3,r4⟩:=hM.rE
 obtain⟨d5,r5⟩:=hM.rH
 obtain⟨d6,r6⟩:=hM.rP
 have q1:(m.mem.map i64).length=m.mem.length:=by simp
 have q2:(m.hold.map i64).length=m.hold.length:=by simp
 have q3:(m.cP.map dV.av).length=m.cP.length:=by simp
 by_cases hz:m.val t n.a=0
 ·rw[if_pos hz]
  refine aL uk rfl ?_
  refine cU ?_
  refine aS (ir u m n d n.a ht hl hva) (hfr n.a _ ?_) (by simp[cZ,cK]) trivial ?_
  ·exact fun y hy=>rfl
  refine cU ?_
  exact⟨⟨rfl,⟨hM.cQ fun y hy=>by have:=dQ hout hy;exact cA,⟨_,bx⟩,hout⟩,c8,fun y y1 y2 y3=>cA⟩⟩
 ·rw[if_neg hz]
  refine aL uk rfl ?_
  refine cU ?_
  refine aS (ir u m n d n.a ht hl hva) (hfr n.a _ ?_) (by simp[cZ,cK]) trivial ?_
  ·exact fun y hy=>rfl
  refine cU ?_
  exact⟨⟨rfl,⟨hM.cQ fun y hy=>by have:=dQ hout hy;exact cA,⟨_,bx⟩,hout⟩,c8,fun y y1 y2 y3=>cA⟩⟩
theorem JG {u:bw} {m:MS} {t:Nat} {n:Node} {d:gS} {ab:Nat} {L:ML} {H:Hp} {nx:Nat} (h:tj u m t n d ab L H) (hlt:∀y∈ab::L.all,y<nx) (ht:t<m.bz.length) (hl:m.bz.length≤8) (hs:0≤n.slot∧n.slot<(m.bz.getD t []).length) (hth:0≤n.cM∧n.cM<m.mem.length):
 cJ Tryz.prog 107 [.pt ab 1 0 0] H nx (fun r H' k=>r=i64 n.next∧tN u (m.gZ t n.slot (m.mem.getD n.cM.toNat 0)) t n { d with cM:=n.cM,word:=m.mem.getD n.cM.toNat 0 } ab L H nx H' k):=by
 have hfr:∀(v:lZ) (H1:Hp),(∀y∈ab::L.all,bt H1 y=bt H y)→[.pt ab 1 0 0,v.av].map (cY.dX H1 6)=[nI u m t n d,v.av]:=fun v H1 h1=>by
  rw[List.map_cons,List.map_cons,List.map_nil,(h.cQ h1).dX,dv _ (show cK 0 v.av by simp[cK])]
 have h0:=h
 obtain⟨hM,⟨dd,ra⟩,hout⟩:=h
 obtain⟨⟨a1,a2,a3,a4,a5,b1,b2,b3,b4,c1,c2,c3,e1',e2',f1⟩,n1,n2,n3,n4,n5,n6⟩:=apart hM ht
 have hmem:=hM.mem
 have k0:=hlt ab (by simp)
 have km:=hlt L.mr (by simp)
 have ke:=hlt L.me (List.mem_cons_of_mem _ (hmem _ (by simp)))
 have kh:=hlt L.ho (List.mem_cons_of_mem _ (hmem _ (by simp)))
 have kp:=hlt L.pr (List.mem_cons_of_mem _ (hmem _ (by simp)))
 have o1:=dQ hout (List.mem_cons_self (a:=L.mr))
 have o2:=dQ hout (hmem L.me (by simp))
 have o3:=dQ hout (hmem L.ho (by simp))
 have o4:=dQ hout (hmem L.pr (by simp))
 clear a1 a2 a4 b1 b2 b3 b4 c1 c2 c3 e1' e2' f1 n1 n2 n3 n4 n5 n6
 obtain⟨d1,r1⟩:=hM.rM
 obtain⟨d3,r4⟩:=hM.rE
 obtain⟨d5,r5⟩:=hM.rH
 obtain⟨d6,r6⟩:=hM.rP
 have q1:(m.mem.map i64).length=m.mem.length:=by simp
 have q2:(m.hold.map i64).length=m.hold.length:=by simp
 have q3:(m.cP.map dV.av).length=m.cP.length:=by simp
 have e0:=fun d=>om (l:=m.mem) (k:=n.cM) (by omega) d
 refine aL yJ rfl ?_
 refine cU ?_
 refine aJ (kN (u:=u) (t:=t) (n:=n) (d:={ d with cM:=n.cM }) (L:=L) (m:=m) (ab:=ab) ?_ ?_ ht hl hs _) ?_
 ·exact⟨hM.cQ fun y hy=>by have:=dQ hout hy;exact cA,⟨_,bx⟩,hout⟩
 ·exact fun y hy=>Nat.lt_of_lt_of_le (hlt y hy) c8
 rintro _ H2 n2 ⟨hA,hn2,hk2⟩
 obtain⟨dd2,ra2⟩:=hA.row
 refine cU ?_
 exact⟨⟨rfl,hA.cQ fun y hy=>cA,c8,fun y y1 y2 y3=>Eq.trans cA ((hk2 y (Nat.lt_of_lt_of_le y1 c8) y2 y3).trans cA)⟩⟩
theorem DV {u:bw} {m:MS} {t:Nat} {n:Node} {d:gS} {ab:Nat} {L:ML} {H:Hp} {nx:Nat} (h:tj u m t n d ab L H) (hlt:∀y∈ab::L.all,y<nx) (ht:t<m.bz.length) (hl:m.bz.length≤8) (hva:nH m t n.a) (hth:0≤n.cM∧n.cM<m.mem.length):
 cJ Tryz.prog 108 [.pt ab 1 0 0] H nx (fun r H' k=>r=i64 n.next∧tN u { m with mem:=m.mem.set n.cM.toNat (m.val t n.a) } t n { d with cM:=n.cM,word:=m.val t n.a } ab L H nx H' k):=by
 have hfr:∀(v:lZ) (H1:Hp),(∀y∈ab::L.all,bt H1 y=bt H y)→[.pt ab 1 0 0,v.av].map (cY.dX H1 6)=[nI u m t n d,v.av]:=fun v H1 h1=>by
  rw[List.map_cons,List.map_cons,List.map_nil,(h.cQ h1).dX,dv _ (show cK 0 v.av by simp[cK])]
 have h0:=h
 obtain⟨hM,⟨dd,ra⟩,hout⟩:=h
 obtain⟨⟨a1,a2,a3,a4,a5,b1,b2,b3,b4,c1,c2,c3,e1',e2',f1⟩,n1,n2,n3,n4,n5,n6⟩:=apart hM ht
 have hmem:=hM.mem
 have k0:=hlt ab (by simp)
 have km:=hlt L.mr (by simp)
 have ke:=hlt L.me (List.mem_cons_of_mem _ (hmem _ (by simp)))
 have kh:=hlt L.ho (List.mem_cons_of_mem _ (hmem _ (by simp)))
 have kp:=hlt L.pr (List.mem_cons_of_mem _ (hmem _ (by simp)))
 have o1:=dQ hout (List.mem_cons_self (a:=L.mr))
 have o2:=dQ hout (hmem L.me (by simp))
 have o3:=dQ hout (hmem L.ho (by simp))
 have o4:=dQ hout (hmem L.pr (by simp))
 clear a1 a2 a4 b1 b2 b3 b4 c1 c2 c3 e1' e2' f1 n1 n2 n3 n4 n5 n6
 obtain⟨d1,r1⟩:=hM.rM
 obtain⟨d3,r4⟩:=hM.rE
 obtain⟨d5,r5⟩:=hM.rH
 obtain⟨d6,r6⟩:=hM.rP
 have q1:(m.mem.map i64).length=m.mem.length:=by simp
 have q2:(m.hold.map i64).length=m.hold.length:=by simp
 have q3:(m.cP.map dV.av).length=m.cP.length:=by simp
 refine aL yK rfl ?_
 refine cU ?_
 refine aZ (ab::L.all) (ir u m n d n.a ht hl hva) (fun H1 h1=>hfr n.a H1 h1) (by simp[cZ,cK]) trivial ?_
 refine Eq.mpr (sh (ab::L.all) _) (tF ?_)
 refine cU ?_
 exact⟨⟨rfl,⟨hM.jX ht _ _ ⟨_,bx⟩ fun y hy hne=>by have:=dQ hout hy;exact cA,⟨_,bx⟩,hout⟩,c8,fun y y1 y2 y3=>by have y4:=dQ y3 (hmem L.me (by simp));exact cA⟩⟩
theorem C0 {u:bw} {m:MS} {t:Nat} {n:Node} {d:gS} {ab:Nat} {L:ML} {H:Hp} {nx:Nat} (h:tj u m t n d ab L H) (hlt:∀y∈ab::L.all,y<nx) (ht:t<m.bz.length) (hl:m.bz.length≤8) (hva:nH m t n.a) (hpl:m.cP.length≤1048576):
 cJ Tryz.prog 112 [.pt ab 1 0 0] H nx (fun r H' k=>r=i64 n.next∧tN u { m with cP:=m.cP++[⟨t,m.val t n.a⟩] } t n { d with word:=m.val t n.a } ab L H nx H' k):=by
 have hfr:∀(v:lZ) (H1:Hp),(∀y∈ab::L.all,bt H1 y=bt H y)→[.pt ab 1 0 0,v.av].map (cY.dX H1 6)=[nI u m t n d,v.av]:=fun v H1 h1=>by
  rw[List.map_cons,List.map_cons,List.map_nil,(h.cQ h1).dX,dv _ (show cK 0 v.av by simp[cK])]
 have h0:=h
 obtain⟨hM,⟨dd,ra⟩,hout⟩:=h
 obtain⟨⟨a1,a2,a3,a4,a5,b1,b2,b3,b4,c1,c2,c3,e1',e2',f1⟩,n1,n2,n3,n4,n5,n6⟩:=apart hM ht
 have hmem:=hM.mem
 have k0:=hlt ab (by simp)
 have km:=hlt L.mr (by simp)
 have ke:=hlt L.me (List.mem_cons_of_mem _ (hmem _ (by simp)))
 have kh:=hlt L.ho (List.mem_cons_of_mem _ (hmem _ (by simp)))
 have kp:=hlt L.pr (List.mem_cons_of_mem _ (hmem _ (by simp)))
 have o1:=dQ hout (List.mem_cons_self (a:=L.mr))
 have o2:=dQ hout (hmem L.me (by simp))
 have o3:=dQ hout (hmem L.ho (by simp))
 have o4:=dQ hout (hmem L.pr (by simp))
 clear a1 a2 a4 b1 b2 b3 b4 c1 c2 c3 e1' e2' f1 n1 n2 n3 n4 n5 n6
 obtain⟨d1,r1⟩:=hM.rM
 obtain⟨d3,r4⟩:=hM.rE
 obtain⟨d5,r5⟩:=hM.rH
 obtain⟨d6,r6⟩:=hM.rP
 have q1:(m.mem.map i64).length=m.mem.length:=by simp
 have q2:(m.hold.map i64).length=m.hold.length:=by simp
 have q3:(m.cP.map dV.av).length=m.cP.length:=by simp
 refine aL yO rfl ?_
 refine cU ?_
 refine aS (ir u m n d n.a ht hl hva) (hfr n.a _ ?_) (by simp[cZ,cK]) trivial ?_
 ·exact fun y hy=>rfl
 refine cU ?_
 exact⟨⟨rfl,⟨hM.V6 ht _ ⟨_,by simp only[MS.rows,List.length_append,List.length_cons,List.length_nil];exact bx⟩ ⟨_,bx⟩ fun y hy hne hn2=>by have:=dQ hout hy;have:=hlt y (List.mem_cons_of_mem _ hy);exact cA,⟨_,bx⟩,hout⟩,c8,fun y y1 y2 y3=>by have y4:=dQ y3 (List.mem_cons_self (a:=L.mr));have y5:=dQ y3 (hmem L.pr (by simp));exact cA⟩⟩
theorem KF {u:bw} {m:MS} {t:Nat} {n:Node} {d:gS} {ab:Nat} {L:ML} {H:Hp} {nx:Nat} (h:tj u m t n d ab L H) (hlt:∀y∈ab::L.all,y<nx) (ht:t<m.bz.length) (hl:m.bz.length≤8) (hva:nH m t n.a) (hs:0≤n.slot∧n.slot<(m.bz.getD t []).length) (hth:0≤n.cM∧n.cM<m.mem.length):
 cJ Tryz.prog 109 [.pt ab 1 0 0] H nx (fun r H' k=>r=i64 n.next∧tN u { m.gZ t n.slot (m.mem.getD n.cM.toNat 0) with mem:=m.mem.set n.cM.toNat (m.val t n.a) } t n { d with cM:=n.cM,word:=m.mem.getD n.cM.toNat 0,put:=m.val t n.a } ab L H nx H' k):=by
 have hfr:∀(v:lZ) (H1:Hp),(∀y∈ab::L.all,bt H1 y=bt H y)→[.pt ab 1 0 0,v.av].map (cY.dX H1 6)=[nI u m t n d,v.av]:=fun v H1 h1=>by
  rw[List.map_cons,List.map_cons,List.map_nil,(h.cQ h1).dX,dv _ (show cK 0 v.av by simp[cK])]
 have h0:=h
 obtain⟨hM,⟨dd,ra⟩,hout⟩:=h
 obtain⟨⟨a1,a2,a3,a4,a5,b1,b2,b3,b4,c1,c2,c3,e1',e2',f1⟩,n1,n2,n3,n4,n5,n6⟩:=apart hM ht
 have hmem:=hM.mem
 have k0:=hlt ab (by simp)
 have km:=hlt L.mr (by simp)
 have ke:=hlt L.me (List.mem_cons_of_mem _ (hmem _ (by simp)))
 have kh:=hlt L.ho (List.mem_cons_of_mem _ (hmem _ (by simp)))
 have kp:=hlt L.pr (List.mem_cons_of_mem _ (hmem _ (by simp)))
 have o1:=dQ hout (List.mem_cons_self (a:=L.mr))
 have o2:=dQ hout (hmem L.me (by simp))
 have o3:=dQ hout (hmem L.ho (by simp))
 have o4:=dQ hout (hmem L.pr (by simp))
 clear a1 a2 a4 b1 b2 b3 b4 c1 c2 c3 e1' e2' f1 n1 n2 n3 n4 n5 n6
 obtain⟨d1,r1⟩:=hM.rM
 obtain⟨d3,r4⟩:=hM.rE
 obtain⟨d5,r5⟩:=hM.rH
 obtain⟨d6,r6⟩:=hM.rP
 have q1:(m.mem.map i64).length=m.mem.length:=by simp
 have q2:(m.hold.map i64).length=m.hold.length:=by simp
 have q3:(m.cP.map dV.av).length=m.cP.length:=by simp
 have e0:=fun d=>om (l:=m.mem) (k:=n.cM) (by omega) d
 refine aL yL rfl ?_
 refine cU ?_
 refine aZ (ab::L.all) (ir u m n d n.a ht hl hva) (fun H1 h1=>hfr n.a H1 h1) (by simp[cZ,cK]) trivial ?_
 refine Eq.mpr (sh (ab::L.all) _) (tF ?_)
 refine cU ?_
 refine aJ (kN (u:=u) (t:=t) (n:=n) (d:={ d with cM:=n.cM,put:=m.val t n.a }) (L:=L) (m:=m) (ab:=ab) ?_ ?_ ht hl hs _) ?_
 ·exact⟨hM.cQ fun y hy=>by have:=dQ hout hy;exact cA,⟨_,bx⟩,hout⟩
 ·exact fun y hy=>Nat.lt_of_lt_of_le (hlt y hy) c8
 rintro _ H2 n2 ⟨hA,hn2,hk2⟩
 obtain⟨dd2,ra2⟩:=hA.row
 obtain⟨d8,r8⟩:=hA.M.rM
 obtain⟨d9,r9⟩:=hA.M.rE
 refine cU ?_
 have ht2:t<(m.gZ t n.slot (m.mem.getD n.cM.toNat 0)).bz.length:=by simp only[MS.gZ,List.length_set];exact ht
 exact⟨⟨rfl,⟨hA.M.jX ht2 _ _ ⟨_,bx⟩ fun y hy hne=>by have:=dQ hout hy;exact cA,⟨_,bx⟩,hout⟩,c8,fun y y1 y2 y3=>by have y4:=dQ y3 (hmem L.me (by simp));exact Eq.trans cA ((hk2 y (Nat.lt_of_lt_of_le y1 c8) y2 y3).trans cA)⟩⟩
theorem PJ {u:bw} {m:MS} {t:Nat} {n:Node} {d:gS} {ab:Nat} {L:ML} {H:Hp} {nx:Nat} (h:tj u m t n d ab L H) (hlt:∀y∈ab::L.all,y<nx) (ht:t<m.bz.length) (hl:m.bz.length≤8) (hs:0≤n.slot∧n.slot<(m.bz.getD t []).length) (hva:nH m t n.a) (hvb:eB n.op=true→nH m t n.b) (hop:0≤n.op∧n.op<19):
 cJ Tryz.prog 106 [.pt ab 1 0 0] H nx (fun r H' k=>r=i64 n.next∧tN u (m.gZ t n.slot (m.DH t n)) t n { d with word:=m.DH t n } ab L H nx H' k):=by
 have hfr:∀(v:lZ) (H1:Hp),(∀y∈ab::L.all,bt H1 y=bt H y)→[.pt ab 1 0 0,v.av].map (cY.dX H1 6)=[nI u m t n d,v.av]:=fun v H1 h1=>by
  rw[List.map_cons,List.map_cons,List.map_nil,(h.cQ h1).dX,dv _ (show cK 0 v.av by simp[cK])]
 have h0:=h
 obtain⟨hM,⟨dd,ra⟩,hout⟩:=h
 obtain⟨⟨a1,a2,a3,a4,a5,b1,b2,b3,b4,c1,c2,c3,e1',e2',f1⟩,n1,n2,n3,n4,n5,n6⟩:=apart hM ht
 have hmem:=hM.mem
 have k0:=hlt ab (by simp)
 have km:=hlt L.mr (by simp)
 have ke:=hlt L.me (List.mem_cons_of_mem _ (hmem _ (by simp)))
 have kh:=hlt L.ho (List.mem_cons_of_mem _ (hmem _ (by simp)))
 have kp:=hlt L.pr (List.mem_cons_of_mem _ (hmem _ (by simp)))
 have o1:=dQ hout (List.mem_cons_self (a:=L.mr))
 have o2:=dQ hout (hmem L.me (by simp))
 have o3:=dQ hout (hmem L.ho (by simp))
 have o4:=dQ hout (hmem L.pr (by simp))
 clear a1 a2 a4 b1 b2 b3 b4 c1 c2 c3 e1' e2' f1 n1 n2 n3 n4 n5 n6
 obtain⟨d1,r1⟩:=hM.rM
 obtain⟨d3,r4⟩:=hM.rE
 obtain⟨d5,r5⟩:=hM.rH
 obtain⟨d6,r6⟩:=hM.rP
 have q1:(m.mem.map i64).length=m.mem.length:=by simp
 have q2:(m.hold.map i64).length=m.hold.length:=by simp
 have q3:(m.cP.map dV.av).length=m.cP.length:=by simp
 have c0:=fP n.op hop.1
 unfold MS.DH
 cases h2:eB n.op with
 |true=>
  rw[h2] at c0
  have c1:=UQ n.op (m.val t n.a) (m.val t n.b) h2
  have hvb:=hvb h2
  rw[if_pos rfl]
  refine aL sX rfl ?_
  refine cU ?_
  refine aS (ir u m n d n.a ht hl hva) (hfr n.a _ ?_) (by simp[cZ,cK]) trivial ?_
  ·exact fun y hy=>rfl
  refine cU ?_
  refine aZ (ab::L.all) (ir u m n d n.b ht hl hvb) (fun H1 h1=>hfr n.b H1 h1) (by simp[cZ,cK]) trivial ?_
  refine Eq.mpr (sh (ab::L.all) _) (tF ?_)
  refine cU ?_
  refine aJ (kN (u:=u) (t:=t) (n:=n) (d:=d) (L:=L) (m:=m) (ab:=ab) ?_ ?_ ht hl hs _) ?_
  ·exact⟨hM.cQ fun y hy=>by have:=dQ hout hy;exact cA,⟨_,bx⟩,hout⟩
  ·exact fun y hy=>Nat.lt_of_lt_of_le (hlt y hy) c8
  rintro _ H2 n2 ⟨hA,hn2,hk2⟩
  obtain⟨dd2,ra2⟩:=hA.row
  refine cU ?_
  exact⟨⟨rfl,hA.cQ fun y hy=>cA,c8,fun y y1 y2 y3=>Eq.trans cA ((hk2 y (Nat.lt_of_lt_of_le y1 c8) y2 y3).trans cA)⟩⟩
 |false=>
  rw[h2] at c0
  rw[if_neg (by decide)]
  by_cases h0':n.op=0
  ·rw[if_neg (fun e=>e h0')]
   refine aL sX rfl ?_
   refine cU ?_
   refine aS (ir u m n d n.a ht hl hva) (hfr n.a _ ?_) (by simp[cZ,cK]) trivial ?_
   ·exact fun y hy=>rfl
   refine cU ?_
   refine aJ (kN (u:=u) (t:=t) (n:=n) (d:=d) (L:=L) (m:=m) (ab:=ab) ?_ ?_ ht hl hs _) ?_
   ·exact⟨hM.cQ fun y hy=>by have:=dQ hout hy;exact cA,⟨_,bx⟩,hout⟩
   ·exact fun y hy=>Nat.lt_of_lt_of_le (hlt y hy) c8
   rintro _ H2 n2 ⟨hA,hn2,hk2⟩
   obtain⟨dd2,ra2⟩:=hA.row
   refine cU ?_
   exact⟨⟨rfl,hA.cQ fun y hy=>cA,c8,fun y y1 y2 y3=>Eq.trans cA ((hk2 y (Nat.lt_of_lt_of_le y1 c8) y2 y3).trans cA)⟩⟩
  ·rw[if_pos h0']
   have c1:=QA n.op (m.val t n.a) (by unfold eB at h2;simp only[Bool.and_eq_false_iff,decide_eq_false_iff_not] at h2;omega)
   refine aL sX rfl ?_
   refine cU ?_
   refine aS (ir u m n d n.a ht hl hva) (hfr n.a _ ?_) (by simp[cZ,cK]) trivial ?_
   ·exact fun y hy=>rfl
   refine cU ?_
   refine aJ (kN (u:=u) (t:=t) (n:=n) (d:=d) (L:=L) (m:=m) (ab:=ab) ?_ ?_ ht hl hs _) ?_
   ·exact⟨hM.cQ fun y hy=>by have:=dQ hout hy;exact cA,⟨_,bx⟩,hout⟩
   ·exact fun y hy=>Nat.lt_of_lt_of_le (hlt y hy) c8
   rintro _ H2 n2 ⟨hA,hn2,hk2⟩
   obtain⟨dd2,ra2⟩:=hA.row
   refine cU ?_
   exact⟨⟨rfl,hA.cQ fun y hy=>cA,c8,fun y y1 y2 y3=>Eq.trans cA ((hk2 y (Nat.lt_of_lt_of_le y1 c8) y2 y3).trans cA)⟩⟩
end Go.Proofs.YtjopoheligmmoaaGreatDoor
end
