import Derived.Test.YtjopoheligmmoaaGreatDoorM32
section
/- A step keeps a situation right. -/
namespace Go.Proofs.YtjopoheligmmoaaGreatDoor
open Go Go.cZ Go.Proofs
set_option linter.unusedSimpArgs false
set_option linter.unusedVariables false
theorem tW (n:Int):eQ (xG n):=by unfold eQ xG;rw[IntKind.wrap_i64];omega
theorem V9 {p:Prop} [Decidable p] {a b:Int} (h1:eQ a) (h2:eQ b):eQ (if p then a else b):=by
 split
 ·exact h1
 ·exact h2
theorem U5 (t:Bool):eQ (tr t):=by unfold tr eQ;split<;>omega
theorem TU {a:Int} (h:eQ a) (b:Int):eQ (TS a b):=by
 unfold TS
 have hd:(1:Int)≤2^(min (MD b).toNat 64):=Int.le_of_lt_add_one (by have:(0:Int)<2^(min (MD b).toNat 64):=Int.pow_pos (by omega);omega)
 generalize (2:Int)^(min (MD b).toNat 64)=d at *
 rw[Int.fdiv_eq_ediv_of_nonneg _ (by omega)]
 have h1:=Int.mul_ediv_add_emod a d
 have h2:=Int.emod_nonneg a (b:=d) (by omega)
 have h3:=Int.emod_lt_of_pos a (b:=d) (by omega)
 obtain⟨h4,h5⟩:=h
 generalize a /d=q at *
 generalize a%d=r at *
 constructor
 ·apply Int.not_lt.1
  intro hq
  have:d * (q+1)≤1 * (q+1):=Int.mul_le_mul_of_nonpos_right hd (by omega)
  rw[Int.mul_add] at this
  omega
 ·apply Int.not_le.1
  intro hq
  have:1 * q≤d * q:=Int.mul_le_mul_of_nonneg_right hd (by omega)
  omega
theorem UA {a b:Int} (ha:eQ a) (op:Int):eQ (T9 op a b):=by
 have hq:eQ (KI a b):=by
  unfold KI
  split
  ·exact⟨by omega,by omega⟩
  ·split
   ·exact tW _
   ·exact tW _
 have hm:eQ (PK a b):=by
  unfold PK
  split
  ·exact ha
  ·exact tW _
 unfold T9
 repeat' (with_reducible refine V9 ?_ ?_)
 all_goals first
  |exact U5 _
  |exact TU ha _
  |exact hq
  |exact hm
  |exact tW _
theorem TG (op a:Int):eQ (TF op a):=by
 unfold TF
 split
 ·exact tW _
 ·exact U5 _
theorem getD_none {α:Type} {l:List α} {k:Nat} {d:α} (h:l.length≤k):l.getD k d=d:=by simp[List.getD,List.getElem?_eq_none h]
section
variable {u:bx} {m:MS} {t:Nat}
theorem TW (h:eN u m) (ht:t<u.bz.length) (k:Nat):eQ ((m.cA.getD t []).getD k 0):=by
 by_cases hk:k<(m.cA.getD t []).length
 ·exact h.D5 t ht _ (cR 0 hk)
 ·rw[getD_none (Nat.le_of_not_lt hk)]
  exact⟨by omega,by omega⟩
theorem EI (h:eN u m) (ht:t<u.bz.length) {v:l8} (hv:v.Wf):eQ (m.val t v):=by
 unfold MS.val
 split
 ·exact TW h ht _
 ·exact hv.word
theorem TR (h:eN u m) (ht:t<u.bz.length) {n:Node} (hn:n.Wf):eQ (m.DZ t n):=by
 unfold MS.DZ
 split
 ·exact UA (EI h ht hn.a) _
 ·split
  ·exact TG _ _
  ·exact EI h ht hn.a
theorem oE {α:Type} {l:List α} {i:Nat} {a x:α} (h:x∈l.set i a):x∈l∨x=a:=by
 rcases List.mem_or_eq_of_mem_set h with h|h
 ·exact .inl h
 ·exact .inr h
theorem getD_set_ne {α:Type} {l:List α} {i j:Nat} {v d:α} (h:i≠j):(l.set i v).getD j d=l.getD j d:=by simp[List.getD,List.getElem?_set_ne h]
theorem eN.gn (h:eN u m) (k w:Int) (hw:eQ w):eN u (m.gn t k w) where
 pk:=h.pk
 gb:=h.gb
 sl:=by simp only[MS.gn,List.length_set];exact h.sl
 D4:=fun s hs=>by
  simp only[MS.gn]
  by_cases e:t=s
  ·subst e
   rw[ec (by rw[h.sl];exact hs),List.length_set]
   exact h.D4 t hs
  ·rw[getD_set_ne e];exact h.D4 s hs
 D5:=fun s hs x hx=>by
  simp only[MS.gn] at hx
  by_cases e:t=s
  ·subst e
   rw[ec (by rw[h.sl];exact hs)] at hx
   rcases oE hx with hx|rfl
   ·exact h.D5 t hs x hx
   ·exact hw
  ·rw[getD_set_ne e] at hx;exact h.D5 s hs x hx
 ml:=h.ml
 mw:=h.mw
 hl:=h.hl
 hw:=h.hw
 pw:=h.pw
theorem eN.mem (h:eN u m) (k:Nat) (w:Int) (hw:eQ w):eN u { m with mem:=m.mem.set k w } where
 pk:=h.pk
 gb:=h.gb
 sl:=h.sl
 D4:=h.D4
 D5:=h.D5
 ml:=by simp only[List.length_set];exact h.ml
 mw:=fun x hx=>by
  rcases oE hx with hx|rfl
  ·exact h.mw x hx
  ·exact hw
 hl:=h.hl
 hw:=h.hw
 pw:=h.pw
theorem eN.hold (h:eN u m) (k:Nat) (w:Int) (hw:-1≤w∧w<u.bz.length):eN u { m with hold:=m.hold.set k w } where
 pk:=h.pk
 gb:=h.gb
 sl:=h.sl
 D4:=h.D4
 D5:=h.D5
 ml:=h.ml
 mw:=h.mw
 hl:=by simp only[List.length_set];exact h.hl
 hw:=fun x hx=>by
  rcases oE hx with hx|rfl
  ·exact h.hw x hx
  ·exact hw
 pw:=h.pw
theorem eN.print (h:eN u m) (p:dW) (hp:0≤p.df∧p.df<u.bz.length∧eQ p.word):eN u { m with cP:=m.cP++[p] } where
 pk:=h.pk
 gb:=h.gb
 sl:=h.sl
 D4:=h.D4
 D5:=h.D5
 ml:=h.ml
 mw:=h.mw
 hl:=h.hl
 hw:=h.hw
 pw:=fun x hx=>by
  rcases List.mem_append.1 hx with hx|hx
  ·exact h.pw x hx
  ·simp only[List.mem_cons,List.not_mem_nil,or_false] at hx
   subst hx;exact hp
theorem eN.Z3 (h:eN u m) (k:Int) (hk:t<u.bz.length→0≤k∧k<(u.gr t).nodes.length):eN u { m with at_:=m.at_.set t k } where
 pk:=by simp only[List.length_set];exact h.pk
 gb:=fun s hs=>by
  by_cases e:t=s
  ·subst e
   dsimp only
   rw[ec (by rw[h.pk];exact hs)]
   exact hk hs
  ·dsimp only
   rw[getD_set_ne e];exact h.gb s hs
 sl:=h.sl
 D4:=h.D4
 D5:=h.D5
 ml:=h.ml
 mw:=h.mw
 hl:=h.hl
 hw:=h.hw
 pw:=h.pw
theorem kO (h:eN u m) (ht:t<u.bz.length) (hb:m.kx u t=0):(m.node u t).kind≠9∧¬((m.node u t).kind=5∧0≤m.hold.getD (m.node u t).cQ.toNat 0):=by
 unfold MS.kx at hb
 rw[if_neg (by have:=h.pk;omega),Int.toNat_natCast] at hb
 refine⟨fun e=> ?_,fun e=> ?_⟩
 ·rw[if_pos e] at hb;cases hb
 ·rw[if_neg (by omega)] at hb
  rw[if_pos e] at hb
  cases hb
theorem HE (hu:u.Wf) (h:eN u m) (ht:t<u.bz.length):(m.node u t).Wf:=by
 have h1:=h.gb t ht
 exact(hu.bz _ (cR default ht)).nodes _ (cR default (show(m.at_.getD t 0).toNat<(u.gr t).nodes.length by omega))
theorem VH (hu:u.Wf) (hr:cT u) (h:eN u m) (ht:t<u.bz.length):eN u (m.act t (m.node u t)).1:=by
 have hn:=h.node hr ht
 have hw:=HE hu h ht
 have hst:=TR h ht hw
 have hva:=EI h ht hw.a
 have hmw:eQ (m.mem.getD (m.node u t).cQ.toNat 0):=by
  by_cases hk:(m.node u t).cQ.toNat<m.mem.length
  ·exact h.mw _ (cR 0 hk)
  ·rw[getD_none (Nat.le_of_not_lt hk)];exact⟨by omega,by omega⟩
 generalize m.node u t=n at *
 unfold MS.act
 split
 ·exact h.gn _ _ hst
 split
 ·exact h.gn _ _ hmw
 split
 ·exact h.mem _ _ hva
 split
 ·exact(h.gn (t:=t) n.slot _ hmw).mem _ _ hva
 split
 ·exact h.hold _ _ ⟨by omega,by omega⟩
 split
 ·exact h.hold _ _ ⟨by omega,by omega⟩
 split
 ·exact h.print _ ⟨by dsimp only;omega,by dsimp only;omega,hva⟩
 ·exact h
theorem LR (hr:cT u) (h:eN u m) (ht:t<u.bz.length) (hk:(m.node u t).kind≠9):0≤(m.act t (m.node u t)).2.1∧(m.act t (m.node u t)).2.1<(u.gr t).nodes.length:=by
 have hn:=h.node hr ht
 generalize m.node u t=n at *
 have hkd:=hn.kind
 have hnx:=hn.next.1 (by unfold j5;exact decide_eq_true (by omega))
 unfold MS.act
 repeat' split
 all_goals first
  |exact hnx
  |exact hn.sO.1 (by omega)
theorem wy (hu:u.Wf) (hr:cT u) (h:eN u m) (ht:t<u.bz.length) (hk:(m.node u t).kind≠9):eN u (m.step u t).1:=by
 have h1:=VH hu hr h ht
 have h2:=LR hr h ht hk
 have h3:(m.step u t).1={ (m.act t (m.node u t)).1 with at_:=m.at_.set t (m.act t (m.node u t)).2.1 }:=rfl
 have h4:(m.act t (m.node u t)).1.at_=m.at_:=by
  unfold MS.act
  repeat' split
  all_goals rfl
 rw[h3,←h4]
 exact h1.Z3 _ fun _=>h2
end
end Go.Proofs.YtjopoheligmmoaaGreatDoor
end
section
/- The machine in rows: what a store makes of it. -/
namespace Go.Proofs.YtjopoheligmmoaaGreatDoor
open Go Go.cZ Go.Proofs
set_option linter.unusedSimpArgs false
set_option linter.unusedVariables false
structure ML where
 mr:Nat
 a:Nat
 s:Nat
 me:Nat
 ho:Nat
 pr:Nat
 ids:List Nat
abbrev ML.all (L:ML):List Nat:=L.mr::L.a::L.s::L.me::L.ho::L.pr::L.ids
abbrev ML.it (L:ML) (t:Nat):Nat:=L.ids.getD t 0
abbrev ML.At (L:ML) (u:bx) (m:MS) (H:Hp):Prop:=XF u m L.mr L.a L.s L.me L.ho L.pr L.ids H
theorem XF.IX {u:bx} {m:MS} {mr a s me ho pr:Nat} {ids:List Nat} {H:Hp} (h:XF u m mr a s me ho pr ids H) (k:Nat):cZ.dV H (k+4) (.pt mr 1 0 0)=m.fz u:=by
 obtain⟨d1,h1⟩:=h.rM
 obtain⟨d2,h2⟩:=h.rA
 obtain⟨d3,h3⟩:=h.rS
 obtain⟨d4,h4⟩:=h.rE
 obtain⟨d5,h5⟩:=h.rH
 obtain⟨d6,h6⟩:=h.rP
 have hsl:(eT ids m.cA).length=m.cA.length:=by unfold eT;rw[List.length_map,List.length_zip,h.len];simp
 have hs:(eT ids m.cA).map (cZ.dV H (k+1))=m.cA.map cM:=by
  apply List.ext_getElem (by simp[hsl])
  intro t q1 q2
  have ht:t<m.cA.length:=by simpa using q2
  have hti:t<ids.length:=by rw[h.len];exact ht
  obtain⟨d,hd⟩:=h.rL t ht
  rw[show ids.getD t 0=ids[t] by simp[List.getD,hti],show m.cA.getD t []=m.cA[t] by simp[List.getD,ht]] at hd
  rw[List.getElem_map,List.getElem_map]
  simp only[eT,List.getElem_map,List.getElem_zip]
  rw[dc hd (by simp),cy _ ((cB _ _).2 fun _ _=>by simp[cI])]
 simp only[cZ.dV,h1]
 simp only[List.length_cons,List.length_nil,if_true,List.map_cons,List.map_nil,MS.rows]
 rw[wM]
 simp only[List.map_cons,List.map_nil]
 rw[dc h2 (by simp),dc h3 hsl,dc h4 (by simp),dc h5 (by simp),dc h6 (by simp),hs]
 rw[cy _ ((cB _ _).2 fun _ _=>by simp[cI]),cy _ ((cB _ _).2 fun _ _=>by simp[cI]),cy _ ((cB _ _).2 fun _ _=>by simp[cI]),cy _ ((cB _ _).2 fun _ _=>by simp[cI])]
 rw[du _ (show cI 0 (ct u.shared) by simp[cI,cB]),du _ (show cI 0 (ct u.cE) by simp[cI,cB]),du _ (show cI 0 (di u.bz) by simp[cI,cB])]
 rfl
section
variable {u:bx} {m:MS} {L:ML} {H H':Hp}
theorem mY {p:Prop} (h:p:=by first|assumption|(refine Ne.symm ?_;assumption)):p:=h
theorem ML.At.mem (h:L.At u m H):(∀x∈[L.a,L.s,L.me,L.ho,L.pr],x∈L.all):=by
 intro x hx
 simp only[List.mem_cons,List.not_mem_nil,or_false] at hx
 simp only[ML.all,List.mem_cons]
 omega
theorem lN (h:L.At u m H) {t:Nat} (ht:t<m.cA.length):L.it t∈L.all:=by
 have:L.it t∈L.ids:=fJ (by rw[h.len];exact ht)
 simp only[ML.all,List.mem_cons]
 exact .inr (.inr (.inr (.inr (.inr (.inr this)))))
theorem YL (h:L.At u m H) {t s:Nat} (ht:t<m.cA.length) (hs:s<m.cA.length) (e:s≠t):L.it s≠L.it t:=by
 have h1:=(List.nodup_cons.1 (List.nodup_cons.1 (List.nodup_cons.1 (List.nodup_cons.1 (List.nodup_cons.1 (List.nodup_cons.1 h.nodup).2).2).2).2).2).2
 have hl:=h.len
 intro he
 have ht':t<L.ids.length:=by omega
 have hs':s<L.ids.length:=by omega
 have:L.ids[s]=L.ids[t]:=by simpa[ML.it,List.getD,ht',hs'] using he
 exact e ((List.getElem_inj h1).1 this)
structure ML.XS (L:ML) (t:Nat):Prop where
 ne:L.mr≠L.a∧L.mr≠L.s∧L.mr≠L.me∧L.mr≠L.ho∧L.mr≠L.pr∧L.a≠L.s∧L.a≠L.me∧L.a≠L.ho∧L.a≠L.pr∧L.s≠L.me∧L.s≠L.ho∧L.s≠L.pr∧L.me≠L.ho∧L.me≠L.pr∧L.ho≠L.pr
 it:L.it t≠L.mr∧L.it t≠L.a∧L.it t≠L.s∧L.it t≠L.me∧L.it t≠L.ho∧L.it t≠L.pr
theorem apart (h:L.At u m H) {t:Nat} (ht:t<m.cA.length):L.XS t:=by
 have hn:=h.nodup
 have hi:L.it t∈L.ids:=fJ (by rw[h.len];exact ht)
 have hne:∀x,x∉L.ids→L.it t≠x:=fun x hx e=>hx (e▸hi)
 simp only[List.nodup_cons,List.mem_cons,not_or] at hn
 obtain⟨⟨a1,a2,a3,a4,a5,a6⟩,⟨b1,b2,b3,b4,b5⟩,⟨c1,c2,c3,c4⟩,⟨d1,d2,d3⟩,⟨e1,e2⟩,f1,_⟩:=hn
 exact⟨⟨a1,a2,a3,a4,a5,b1,b2,b3,b4,c1,c2,c3,d1,d2,e1⟩,hne _ a6,hne _ b5,hne _ c4,hne _ d3,hne _ e2,hne _ f1⟩
theorem ML.At.cU (h:L.At u m H) (hk:∀y∈L.all,bu H' y=bu H y):L.At u m H':=by
 have hm:=h.mem
 obtain⟨d1,h1⟩:=h.rM
 obtain⟨d2,h2⟩:=h.rA
 obtain⟨d3,h3⟩:=h.rS
 obtain⟨d4,h4⟩:=h.rE
 obtain⟨d5,h5⟩:=h.rH
 obtain⟨d6,h6⟩:=h.rP
 refine⟨⟨d1,(hk _ (by simp)).trans h1⟩,⟨d2,(hk _ (hm _ (by simp))).trans h2⟩,⟨d3,(hk _ (hm _ (by simp))).trans h3⟩,fun t ht=> ?_,⟨d4,(hk _ (hm _ (by simp))).trans h4⟩,⟨d5,(hk _ (hm _ (by simp))).trans h5⟩,⟨d6,(hk _ (hm _ (by simp))).trans h6⟩,h.len,h.nodup⟩
 obtain⟨d,hd⟩:=h.rL t ht
 exact⟨d,(hk _ (lN h ht)).trans hd⟩
theorem ML.At.gn (h:L.At u m H) {t:Nat} (ht:t<m.cA.length) (k w:Int) (hit:∃d,bu H' (L.it t)=some (.row 2 1 d (((m.cA.getD t []).map i64).set k.toNat (i64 w)))) (hk:∀y∈L.all,y≠L.it t→bu H' y=bu H y):L.At u (m.gn t k w) H':=by
 obtain⟨-,n1,n2,n3,n4,n5,n6⟩:=apart h ht
 have hm:=h.mem
 obtain⟨d1,h1⟩:=h.rM
 obtain⟨d2,h2⟩:=h.rA
 obtain⟨d3,h3⟩:=h.rS
 obtain⟨d4,h4⟩:=h.rE
 obtain⟨d5,h5⟩:=h.rH
 obtain⟨d6,h6⟩:=h.rP
 have hl:(m.gn t k w).cA.length=m.cA.length:=by simp[MS.gn]
 have hrow:eT L.ids (m.gn t k w).cA=eT L.ids m.cA:=by
  unfold eT MS.gn
  apply List.ext_getElem (by simp)
  intro i q1 q2
  simp only[List.getElem_map,List.getElem_zip,AV.sl.injEq,true_and]
  rw[List.getElem_set]
  have hi:i<m.cA.length:=by simp at q2;omega
  split
  ·rename_i e;subst e;rw[List.length_set];simp[List.getD,hi]
  ·rfl
 refine⟨⟨d1, ?_⟩,⟨d2,(hk _ (hm _ (by simp)) mY).trans h2⟩,⟨d3,by rw[hrow];exact(hk _ (hm _ (by simp)) mY).trans h3⟩,fun s hs=> ?_,⟨d4,(hk _ (hm _ (by simp)) mY).trans h4⟩,⟨d5,(hk _ (hm _ (by simp)) mY).trans h5⟩,⟨d6,(hk _ (hm _ (by simp)) mY).trans h6⟩,by rw[hl];exact h.len,h.nodup⟩
 ·rw[show(m.gn t k w).rows u L.a L.s L.me L.ho L.pr=m.rows u L.a L.s L.me L.ho L.pr by simp[MS.rows,MS.gn]]
  exact(hk _ (by simp) mY).trans h1
 ·rw[hl] at hs
  by_cases e:s=t
  ·subst e
   obtain⟨d,hd⟩:=hit
   refine⟨d,hd.trans ?_⟩
   rw[show(m.gn s k w).cA.getD s []=(m.cA.getD s []).set k.toNat w from ec hs,List.map_set]
  ·obtain⟨d,hd⟩:=h.rL s hs
   refine⟨d, ?_⟩
   rw[show(m.gn t k w).cA.getD s []=m.cA.getD s [] from getD_set_ne (Ne.symm e)]
   exact(hk _ (lN h hs) (YL h ht hs e)).trans hd
theorem ML.At.j7 (h:L.At u m H) {t:Nat} (ht:t<m.cA.length) (k w:Int) (hme:∃d,bu H' L.me=some (.row 2 1 d ((m.mem.map i64).set k.toNat (i64 w)))) (hk:∀y∈L.all,y≠L.me→bu H' y=bu H y):L.At u { m with mem:=m.mem.set k.toNat w } H':=by
 obtain⟨⟨a1,a2,a3,a4,a5,b1,b2,b3,b4,c1,c2,c3,e1,e2,f1⟩,n1,n2,n3,n4,n5,n6⟩:=apart h ht
 have hm:=h.mem
 obtain⟨d1,h1⟩:=h.rM
 obtain⟨d2,h2⟩:=h.rA
 obtain⟨d3,h3⟩:=h.rS
 obtain⟨d4,h4⟩:=hme
 obtain⟨d5,h5⟩:=h.rH
 obtain⟨d6,h6⟩:=h.rP
 refine⟨⟨d1, ?_⟩,⟨d2,(hk _ (hm _ (by simp)) mY).trans h2⟩,⟨d3,(hk _ (hm _ (by simp)) mY).trans h3⟩,fun s hs=> ?_,⟨d4,by rw[List.map_set];exact h4⟩,⟨d5,(hk _ (hm _ (by simp)) mY).trans h5⟩,⟨d6,(hk _ (hm _ (by simp)) mY).trans h6⟩,h.len,h.nodup⟩
 ·rw[show({ m with mem:=m.mem.set k.toNat w }:MS).rows u L.a L.s L.me L.ho L.pr=m.rows u L.a L.s L.me L.ho L.pr by simp[MS.rows]]
  exact(hk _ (by simp) mY).trans h1
 ·obtain⟨d,hd⟩:=h.rL s hs
  obtain⟨m1,m2,m3,m4,m5,m6⟩:=(apart h hs).it
  exact⟨d,(hk _ (lN h hs) mY).trans hd⟩
theorem ML.At.UR (h:L.At u m H) {t:Nat} (ht:t<m.cA.length) (k w:Int) (hho:∃d,bu H' L.ho=some (.row 3 1 d ((m.hold.map i64).set k.toNat (i64 w)))) (hk:∀y∈L.all,y≠L.ho→bu H' y=bu H y):L.At u { m with hold:=m.hold.set k.toNat w } H':=by
 obtain⟨⟨a1,a2,a3,a4,a5,b1,b2,b3,b4,c1,c2,c3,e1,e2,f1⟩,n1,n2,n3,n4,n5,n6⟩:=apart h ht
 have hm:=h.mem
 obtain⟨d1,h1⟩:=h.rM
 obtain⟨d2,h2⟩:=h.rA
 obtain⟨d3,h3⟩:=h.rS
 obtain⟨d4,h4⟩:=h.rE
 obtain⟨d5,h5⟩:=hho
 obtain⟨d6,h6⟩:=h.rP
 refine⟨⟨d1, ?_⟩,⟨d2,(hk _ (hm _ (by simp)) mY).trans h2⟩,⟨d3,(hk _ (hm _ (by simp)) mY).trans h3⟩,fun s hs=> ?_,⟨d4,(hk _ (hm _ (by simp)) mY).trans h4⟩,⟨d5,by rw[List.map_set];exact h5⟩,⟨d6,(hk _ (hm _ (by simp)) mY).trans h6⟩,h.len,h.nodup⟩
 ·rw[show({ m with hold:=m.hold.set k.toNat w }:MS).rows u L.a L.s L.me L.ho L.pr=m.rows u L.a L.s L.me L.ho L.pr by simp[MS.rows]]
  exact(hk _ (by simp) mY).trans h1
 ·obtain⟨d,hd⟩:=h.rL s hs
  obtain⟨m1,m2,m3,m4,m5,m6⟩:=(apart h hs).it
  exact⟨d,(hk _ (lN h hs) mY).trans hd⟩
theorem ML.At.Z3 (h:L.At u m H) {t:Nat} (ht:t<m.cA.length) (k:Nat) (w:Int) (hat:∃d,bu H' L.a=some (.row 3 1 d ((m.at_.map i64).set k (i64 w)))) (hk:∀y∈L.all,y≠L.a→bu H' y=bu H y):L.At u { m with at_:=m.at_.set k w } H':=by
 obtain⟨⟨a1,a2,a3,a4,a5,b1,b2,b3,b4,c1,c2,c3,e1,e2,f1⟩,n1,n2,n3,n4,n5,n6⟩:=apart h ht
 have hm:=h.mem
 obtain⟨d1,h1⟩:=h.rM
 obtain⟨d2,h2⟩:=hat
 obtain⟨d3,h3⟩:=h.rS
 obtain⟨d4,h4⟩:=h.rE
 obtain⟨d5,h5⟩:=h.rH
 obtain⟨d6,h6⟩:=h.rP
 refine⟨⟨d1, ?_⟩,⟨d2,by rw[List.map_set];exact h2⟩,⟨d3,(hk _ (hm _ (by simp)) mY).trans h3⟩,fun s hs=> ?_,⟨d4,(hk _ (hm _ (by simp)) mY).trans h4⟩,⟨d5,(hk _ (hm _ (by simp)) mY).trans h5⟩,⟨d6,(hk _ (hm _ (by simp)) mY).trans h6⟩,h.len,h.nodup⟩
 ·rw[show({ m with at_:=m.at_.set k w }:MS).rows u L.a L.s L.me L.ho L.pr=m.rows u L.a L.s L.me L.ho L.pr by simp[MS.rows]]
  exact(hk _ (by simp) mY).trans h1
 ·obtain⟨d,hd⟩:=h.rL s hs
  obtain⟨m1,m2,m3,m4,m5,m6⟩:=(apart h hs).it
  exact⟨d,(hk _ (lN h hs) mY).trans hd⟩
theorem ML.At.WU (h:L.At u m H) {t:Nat} (ht:t<m.cA.length) (p:dW) (hmr:∃d,bu H' L.mr=some (.row 114 8 d [({ m with cP:=m.cP++[p] }:MS).rows u L.a L.s L.me L.ho L.pr])) (hpr:∃d,bu H' L.pr=some (.row 155 2 d (m.cP.map dW.av++[p.av]))) (hk:∀y∈L.all,y≠L.pr→y≠L.mr→bu H' y=bu H y):L.At u { m with cP:=m.cP++[p] } H':=by
 obtain⟨⟨a1,a2,a3,a4,a5,b1,b2,b3,b4,c1,c2,c3,e1,e2,f1⟩,n1,n2,n3,n4,n5,n6⟩:=apart h ht
 have hm:=h.mem
 obtain⟨d2,h2⟩:=h.rA
 obtain⟨d3,h3⟩:=h.rS
 obtain⟨d4,h4⟩:=h.rE
 obtain⟨d5,h5⟩:=h.rH
 obtain⟨d6,h6⟩:=hpr
 refine⟨hmr,⟨d2,(hk _ (hm _ (by simp)) mY mY).trans h2⟩,⟨d3,(hk _ (hm _ (by simp)) mY mY).trans h3⟩,fun s hs=> ?_,⟨d4,(hk _ (hm _ (by simp)) mY mY).trans h4⟩,⟨d5,(hk _ (hm _ (by simp)) mY mY).trans h5⟩,⟨d6,by rw[List.map_append];exact h6⟩,h.len,h.nodup⟩
 obtain⟨d,hd⟩:=h.rL s hs
 obtain⟨m1,m2,m3,m4,m5,m6⟩:=(apart h hs).it
 exact⟨d,(hk _ (lN h hs) mY mY).trans hd⟩
end
end Go.Proofs.YtjopoheligmmoaaGreatDoor
end
section
/- An action at work: what a value is; a word into a slot. -/
namespace Go.Proofs.YtjopoheligmmoaaGreatDoor
open Go Go.cZ Go.Proofs
set_option linter.unusedSimpArgs false
set_option linter.unusedVariables false
set_option maxRecDepth 8000
def AC (x:AV) (t:Int) (n:Node) (d:gX):List AV:=[x,i64 t,u8 n.kind,u8 n.op,i64 n.slot,i64 n.cQ,bl n.a.jR,i64 n.a.slot,i64 n.a.word,bl n.b.jR,i64 n.b.slot,i64 n.b.word,i64 n.next,i64 n.sO,i64 n.origin,i64 d.df,i64 d.node,u8 d.kind,i64 d.cQ,i64 d.word,i64 d.put]
abbrev nP (u:bx) (m:MS) (t:Int) (n:Node) (d:gX):AV:= .ip 21 .any [.agg (AC (m.fz u) t n d)] 0 0
@[simp] theorem Z6 (k:Nat) (u:bx) (m:MS) (t:Int) (n:Node) (d:gX):cX k (AC (m.fz u) t n d):=by
  simp[cI,cX,AC]
structure uF (u:bx) (m:MS) (t:Nat) (n:Node) (d:gX) (ab:Nat) (L:ML) (H:Hp):Prop where
 M:L.At u m H
 row:∃dd,bu H ab=some (.row 118 21 dd [.agg (AC (.pt L.mr 1 0 0) t n d)])
 out:ab∉L.all
theorem uF.dV {u:bx} {m:MS} {t:Nat} {n:Node} {d:gX} {ab:Nat} {L:ML} {H:Hp} (h:uF u m t n d ab L H):cZ.dV H 6 (.pt ab 1 0 0)=nP u m t n d:=by
 obtain⟨dd,hr⟩:=h.row
 rw[show cZ.dV H 6 (.pt ab 1 0 0)= .ip 21 .any (([.agg (AC (.pt L.mr 1 0 0) t n d)]:List AV).map (cZ.dV H 5)) 0 0 from V5 hr rfl]
 simp only[List.map_cons,List.map_nil]
 rw[wM]
 simp only[AC,List.map_cons,List.map_nil]
 have:=h.M.IX 0
 rw[this]
 simp only[cZ.dV]
 rfl
theorem uF.cU {u:bx} {m:MS} {t:Nat} {n:Node} {d:gX} {ab:Nat} {L:ML} {H H':Hp} (h:uF u m t n d ab L H) (hk:∀y∈ab::L.all,bu H' y=bu H y):uF u m t n d ab L H':=by
 obtain⟨dd,hr⟩:=h.row
 exact⟨h.M.cU fun y hy=>hk y (List.mem_cons_of_mem _ hy),⟨dd,(hk ab (by simp)).trans hr⟩,h.out⟩
def nO (m:MS) (t:Nat) (v:l8):Prop:=v.jR=true→0≤v.slot∧v.slot<(m.cA.getD t []).length
theorem jC (u:bx) (m:MS) {t:Nat} (n:Node) (d:gX) (v:l8) (ht:t<m.cA.length) (hl:m.cA.length≤8) (hv:nO m t v):Pure Tryz.prog 158 [nP u m t n d,v.av] (fun r=>r=i64 (m.val t v)):=by
 unfold MS.val
 have e0:∀d,(m.cA.map cM).getD ((t:Int)).toNat d=cM (m.cA.getD t []):=fun d=>by rw[Int.toNat_natCast];exact dQ cM m.cA t d ht
 have a0:(m.cA.map cM).length=m.cA.length:=by simp
 cases hs:v.jR with
 |true=>
  have r0:=hs
  obtain⟨v1,v2⟩:=hv hs
  have a1:((m.cA.getD t []).map i64).length=(m.cA.getD t []).length:=by simp
  have e1:=fun d=>ox (l:=m.cA.getD t []) (k:=v.slot) (by omega) d
  rw[if_pos rfl]
  refine aJ vF rfl ?_
  refine cV ?_
  first|exact rfl|trivial
 |false=>
  have r0:=hs
  rw[if_neg (by decide)]
  refine aJ vF rfl ?_
  refine cV ?_
  first|exact rfl|trivial
abbrev tf (u:bx) (m:MS) (t:Nat) (n:Node) (d:gX) (ab:Nat) (L:ML) (H0:Hp) (nx:Nat) (H:Hp) (k:Nat):Prop:=uF u m t n d ab L H∧nx≤k∧∀y,y<nx→y≠ab→y∉L.all→bu H y=bu H0 y
theorem PY {L:ML} {m:MS} {t:Nat} (hl:L.ids.length=m.cA.length) (ht:t<m.cA.length) (d:AV):(eT L.ids m.cA).getD t d= .sl (L.it t) (m.cA.getD t []).length:=by
 have h1:t<L.ids.length:=by omega
 have h2:t<(L.ids.zip m.cA).length:=by rw[List.length_zip];omega
 simp[eT,List.getD,ht,h1,List.getElem?_eq_getElem h2]
theorem vQ {L:ML} {m:MS} (hl:L.ids.length=m.cA.length):(eT L.ids m.cA).length=m.cA.length:=by
 unfold eT;rw[List.length_map,List.length_zip,hl];simp
theorem dR {x y:Nat} {l:List Nat} (h:x∉l) (hy:y∈l):y≠x:=fun e=>h (e▸hy)
set_option maxHeartbeats 1000000 in
theorem kX {u:bx} {m:MS} {t:Nat} {n:Node} {d:gX} {ab:Nat} {L:ML} {H:Hp} {nx:Nat} (h:uF u m t n d ab L H) (hlt:∀y∈ab::L.all,y<nx) (ht:t<m.cA.length) (hl:m.cA.length≤8) (hs:0≤n.slot∧n.slot<(m.cA.getD t []).length) (w:Int):
 cG Tryz.prog 162 [.pt ab 1 0 0,i64 w] H nx (fun _ H' k=>tf u (m.gn t n.slot w) t n { d with word:=w } ab L H nx H' k):=by
 obtain⟨hM,⟨dd,ra⟩,hout⟩:=h
 obtain⟨⟨a1,a2,a3,a4,a5,b1,b2,b3,b4,c1,c2,c3,e1,e2,f1⟩,n1,n2,n3,n4,n5,n6⟩:=apart hM ht
 have hmem:=hM.mem
 have k0:=hlt ab (by simp)
 have km:=hlt L.mr (by simp)
 have ks:=hlt L.s (List.mem_cons_of_mem _ (hmem _ (by simp)))
 have ki:=hlt (L.it t) (List.mem_cons_of_mem _ (lN hM ht))
 have o1:=dR hout (List.mem_cons_self (a:=L.mr))
 have o2:=dR hout (hmem L.s (by simp))
 have o3:=dR hout (lN hM ht)
 obtain⟨d1,r1⟩:=hM.rM
 obtain⟨d3,r3⟩:=hM.rS
 obtain⟨d7,r7⟩:=hM.rL t ht
 have e0:∀d,(eT L.ids m.cA).getD ((t:Int)).toNat d= .sl (L.it t) (m.cA.getD t []).length:=fun d=>by rw[Int.toNat_natCast];exact PY hM.len ht d
 have q0:=vQ hM.len
 have q1:((m.cA.getD t []).map i64).length=(m.cA.getD t []).length:=by simp
 obtain⟨hs1,hs2⟩:=hs
 refine aM zD rfl ?_
 refine cV ?_
 exact⟨⟨hM.gn ht _ _ ⟨_,bw⟩ fun y hy hne=>by have:=dR hout hy;exact cD,⟨_,bw⟩,hout⟩,ca,fun y y1 y2 y3=>by have y4:=dR y3 (lN hM ht);exact cD⟩
end Go.Proofs.YtjopoheligmmoaaGreatDoor
end
section
/- An action at work: the kinds of nodes. -/
namespace Go.Proofs.YtjopoheligmmoaaGreatDoor
open Go Go.cZ Go.Proofs
set_option linter.unusedSimpArgs false
set_option linter.unusedVariables false
set_option maxRecDepth 8000
set_option maxHeartbeats 2000000
theorem J0 {u:bx} {m:MS} {t:Nat} {n:Node} {d:gX} {ab:Nat} {L:ML} {H:Hp} {nx:Nat} (h:uF u m t n d ab L H) (hlt:∀y∈ab::L.all,y<nx) (ht:t<m.cA.length) (hl:m.cA.length≤8) (hth:0≤n.cQ∧n.cQ<m.hold.length):
 cG Tryz.prog 110 [.pt ab 1 0 0] H nx (fun r H' k=>r=i64 n.next∧tf u { m with hold:=m.hold.set n.cQ.toNat t } t n { d with cQ:=n.cQ } ab L H nx H' k):=by
 have hfr:∀(v:l8) (H1:Hp),(∀y∈ab::L.all,bu H1 y=bu H y)→[.pt ab 1 0 0,v.av].map (cZ.dV H1 6)=[nP u m t n d,v.av]:=fun v H1 h1=>by
  rw[List.map_cons,List.map_cons,List.map_nil,(h.cU h1).dV,du _ (show cI 0 v.av by simp[cI])]
 have h0:=h
 obtain⟨hM,⟨dd,ra⟩,hout⟩:=h
 obtain⟨⟨a1,a2,a3,a4,a5,b1,b2,b3,b4,c1,c2,c3,e1',e2',f1⟩,n1,n2,n3,n4,n5,n6⟩:=apart hM ht
 have hmem:=hM.mem
 have k0:=hlt ab (by simp)
 have km:=hlt L.mr (by simp)
 have ke:=hlt L.me (List.mem_cons_of_mem _ (hmem _ (by simp)))
 have kh:=hlt L.ho (List.mem_cons_of_mem _ (hmem _ (by simp)))
 have kp:=hlt L.pr (List.mem_cons_of_mem _ (hmem _ (by simp)))
 have o1:=dR hout (List.mem_cons_self (a:=L.mr))
 have o2:=dR hout (hmem L.me (by simp))
 have o3:=dR hout (hmem L.ho (by simp))
 have o4:=dR hout (hmem L.pr (by simp))
 clear a1 a2 a4 b1 b2 b3 b4 c1 c2 c3 e1' e2' f1 n1 n2 n3 n4 n5 n6
 obtain⟨d1,r1⟩:=hM.rM
 obtain⟨d3,r4⟩:=hM.rE
 obtain⟨d5,r5⟩:=hM.rH
 obtain⟨d6,r6⟩:=hM.rP
 have q1:(m.mem.map i64).length=m.mem.length:=by simp
 have q2:(m.hold.map i64).length=m.hold.length:=by simp
 have q3:(m.cP.map dW.av).length=m.cP.length:=by simp
 refine aM ye rfl ?_
 refine cV ?_
 exact⟨⟨rfl,⟨hM.UR ht _ _ ⟨_,bw⟩ fun y hy hne=>by have:=dR hout hy;exact cD,⟨_,bw⟩,hout⟩,ca,fun y y1 y2 y3=>by have y4:=dR y3 (hmem L.ho (by simp));exact cD⟩⟩
theorem A8 {u:bx} {m:MS} {t:Nat} {n:Node} {d:gX} {ab:Nat} {L:ML} {H:Hp} {nx:Nat} (h:uF u m t n d ab L H) (hlt:∀y∈ab::L.all,y<nx) (ht:t<m.cA.length) (hl:m.cA.length≤8) (hth:0≤n.cQ∧n.cQ<m.hold.length):
 cG Tryz.prog 111 [.pt ab 1 0 0] H nx (fun r H' k=>r=i64 n.next∧tf u { m with hold:=m.hold.set n.cQ.toNat (-1) } t n { d with cQ:=n.cQ } ab L H nx H' k):=by
 have hfr:∀(v:l8) (H1:Hp),(∀y∈ab::L.all,bu H1 y=bu H y)→[.pt ab 1 0 0,v.av].map (cZ.dV H1 6)=[nP u m t n d,v.av]:=fun v H1 h1=>by
  rw[List.map_cons,List.map_cons,List.map_nil,(h.cU h1).dV,du _ (show cI 0 v.av by simp[cI])]
 have h0:=h
 obtain⟨hM,⟨dd,ra⟩,hout⟩:=h
 obtain⟨⟨a1,a2,a3,a4,a5,b1,b2,b3,b4,c1,c2,c3,e1',e2',f1⟩,n1,n2,n3,n4,n5,n6⟩:=apart hM ht
 have hmem:=hM.mem
 have k0:=hlt ab (by simp)
 have km:=hlt L.mr (by simp)
 have ke:=hlt L.me (List.mem_cons_of_mem _ (hmem _ (by simp)))
 have kh:=hlt L.ho (List.mem_cons_of_mem _ (hmem _ (by simp)))
 have kp:=hlt L.pr (List.mem_cons_of_mem _ (hmem _ (by simp)))
 have o1:=dR hout (List.mem_cons_self (a:=L.mr))
 have o2:=dR hout (hmem L.me (by simp))
 have o3:=dR hout (hmem L.ho (by simp))
 have o4:=dR hout (hmem L.pr (by simp))
 clear a1 a2 a4 b1 b2 b3 b4 c1 c2 c3 e1' e2' f1 n1 n2 n3 n4 n5 n6
 obtain⟨d1,r1⟩:=hM.rM
 obtain⟨d3,r4⟩:=hM.rE
 obtain⟨d5,r5⟩:=hM.rH
 obtain⟨d6,r6⟩:=hM.rP
 have q1:(m.mem.map i64).length=m.mem.length:=by simp
 have q2:(m.hold.map i64).length=m.hold.length:=by simp
 have q3:(m.cP.map dW.av).length=m.cP.length:=by simp
 refine aM yf rfl ?_
 refine cV ?_
 exact⟨⟨rfl,⟨hM.UR ht _ _ ⟨_,bw⟩ fun y hy hne=>by have:=dR hout hy;exact cD,⟨_,bw⟩,hout⟩,ca,fun y y1 y2 y3=>by have y4:=dR y3 (hmem L.ho (by simp));exact cD⟩⟩
theorem xe {u:bx} {m:MS} {t:Nat} {n:Node} {d:gX} {ab:Nat} {L:ML} {H:Hp} {nx:Nat} (h:uF u m t n d ab L H) (hlt:∀y∈ab::L.all,y<nx) (ht:t<m.cA.length) (hl:m.cA.length≤8) (hva:nO m t n.a):
 cG Tryz.prog 113 [.pt ab 1 0 0] H nx (fun r H' k=>r=i64 (if m.val t n.a=0 then n.sO else n.next)∧tf u m t n { d with word:=m.val t n.a } ab L H nx H' k):=by
 have hfr:∀(v:l8) (H1:Hp),(∀y∈ab::L.all,bu H1 y=bu H y)→[.pt ab 1 0 0,v.av].map (cZ.dV H1 6)=[nP u m t n d,v.av]:=fun v H1 h1=>by
  rw[List.map_cons,List.map_cons,List.map_nil,(h.cU h1).dV,du _ (show cI 0 v.av by simp[cI])]
 have h0:=h
 obtain⟨hM,⟨dd,ra⟩,hout⟩:=h
 obtain⟨⟨a1,a2,a3,a4,a5,b1,b2,b3,b4,c1,c2,c3,e1',e2',f1⟩,n1,n2,n3,n4,n5,n6⟩:=apart hM ht
 have hmem:=hM.mem
 have k0:=hlt ab (by simp)
 have km:=hlt L.mr (by simp)
 have ke:=hlt L.me (List.mem_cons_of_mem _ (hmem _ (by simp)))
 have kh:=hlt L.ho (List.mem_cons_of_mem _ (hmem _ (by simp)))
 have kp:=hlt L.pr (List.mem_cons_of_mem _ (hmem _ (by simp)))
 have o1:=dR hout (List.mem_cons_self (a:=L.mr))
 have o2:=dR hout (hmem L.me (by simp))
 have o3:=dR hout (hmem L.ho (by simp))
 have o4:=dR hout (hmem L.pr (by simp))
 clear a1 a2 a4 b1 b2 b3 b4 c1 c2 c3 e1' e2' f1 n1 n2 n3 n4 n5 n6
 obtain⟨d1,r1⟩:=hM.rM
 obtain⟨d3,r4⟩:=hM.rE
 obtain⟨d5,r5⟩:=hM.rH
 obtain⟨d6,r6⟩:=hM.rP
 have q1:(m.mem.map i64).length=m.mem.length:=by simp
 have q2:(m.hold.map i64).length=m.hold.length:=by simp
 have q3:(m.cP.map dW.av).length=m.cP.length:=by simp
 by_cases hz:m.val t n.a=0
 ·rw[if_pos hz]
  refine aM vE rfl ?_
  refine cV ?_
  refine aT (jC u m n d n.a ht hl hva) (hfr n.a _ ?_) (by simp[cX,cI]) trivial ?_
  ·exact fun y hy=>rfl
  refine cV ?_
  exact⟨⟨rfl,⟨hM.cU fun y hy=>by have:=dR hout hy;exact cD,⟨_,bw⟩,hout⟩,ca,fun y y1 y2 y3=>cD⟩⟩
 ·rw[if_neg hz]
  refine aM vE rfl ?_
  refine cV ?_
  refine aT (jC u m n d n.a ht hl hva) (hfr n.a _ ?_) (by simp[cX,cI]) trivial ?_
  ·exact fun y hy=>rfl
  refine cV ?_
  exact⟨⟨rfl,⟨hM.cU fun y hy=>by have:=dR hout hy;exact cD,⟨_,bw⟩,hout⟩,ca,fun y y1 y2 y3=>cD⟩⟩
theorem JZ {u:bx} {m:MS} {t:Nat} {n:Node} {d:gX} {ab:Nat} {L:ML} {H:Hp} {nx:Nat} (h:uF u m t n d ab L H) (hlt:∀y∈ab::L.all,y<nx) (ht:t<m.cA.length) (hl:m.cA.length≤8) (hs:0≤n.slot∧n.slot<(m.cA.getD t []).length) (hth:0≤n.cQ∧n.cQ<m.mem.length):
 cG Tryz.prog 107 [.pt ab 1 0 0] H nx (fun r H' k=>r=i64 n.next∧tf u (m.gn t n.slot (m.mem.getD n.cQ.toNat 0)) t n { d with cQ:=n.cQ,word:=m.mem.getD n.cQ.toNat 0 } ab L H nx H' k):=by
 have hfr:∀(v:l8) (H1:Hp),(∀y∈ab::L.all,bu H1 y=bu H y)→[.pt ab 1 0 0,v.av].map (cZ.dV H1 6)=[nP u m t n d,v.av]:=fun v H1 h1=>by
  rw[List.map_cons,List.map_cons,List.map_nil,(h.cU h1).dV,du _ (show cI 0 v.av by simp[cI])]
 have h0:=h
 obtain⟨hM,⟨dd,ra⟩,hout⟩:=h
 obtain⟨⟨a1,a2,a3,a4,a5,b1,b2,b3,b4,c1,c2,c3,e1',e2',f1⟩,n1,n2,n3,n4,n5,n6⟩:=apart hM ht
 have hmem:=hM.mem
 have k0:=hlt ab (by simp)
 have km:=hlt L.mr (by simp)
 have ke:=hlt L.me (List.mem_cons_of_mem _ (hmem _ (by simp)))
 have kh:=hlt L.ho (List.mem_cons_of_mem _ (hmem _ (by simp)))
 have kp:=hlt L.pr (List.mem_cons_of_mem _ (hmem _ (by simp)))
 have o1:=dR hout (List.mem_cons_self (a:=L.mr))
 have o2:=dR hout (hmem L.me (by simp))
 have o3:=dR hout (hmem L.ho (by simp))
 have o4:=dR hout (hmem L.pr (by simp))
 clear a1 a2 a4 b1 b2 b3 b4 c1 c2 c3 e1' e2' f1 n1 n2 n3 n4 n5 n6
 obtain⟨d1,r1⟩:=hM.rM
 obtain⟨d3,r4⟩:=hM.rE
 obtain⟨d5,r5⟩:=hM.rH
 obtain⟨d6,r6⟩:=hM.rP
 have q1:(m.mem.map i64).length=m.mem.length:=by simp
 have q2:(m.hold.map i64).length=m.hold.length:=by simp
 have q3:(m.cP.map dW.av).length=m.cP.length:=by simp
 have e0:=fun d=>ox (l:=m.mem) (k:=n.cQ) (by omega) d
 refine aM yb rfl ?_
 refine cV ?_
 refine aL (kX (u:=u) (t:=t) (n:=n) (d:={ d with cQ:=n.cQ }) (L:=L) (m:=m) (ab:=ab) ?_ ?_ ht hl hs _) ?_
 ·exact⟨hM.cU fun y hy=>by have:=dR hout hy;exact cD,⟨_,bw⟩,hout⟩
 ·exact fun y hy=>Nat.lt_of_lt_of_le (hlt y hy) ca
 rintro _ H2 n2 ⟨hA,hn2,hk2⟩
 obtain⟨dd2,ra2⟩:=hA.row
 refine cV ?_
 exact⟨⟨rfl,hA.cU fun y hy=>cD,ca,fun y y1 y2 y3=>Eq.trans cD ((hk2 y (Nat.lt_of_lt_of_le y1 ca) y2 y3).trans cD)⟩⟩
theorem ED {u:bx} {m:MS} {t:Nat} {n:Node} {d:gX} {ab:Nat} {L:ML} {H:Hp} {nx:Nat} (h:uF u m t n d ab L H) (hlt:∀y∈ab::L.all,y<nx) (ht:t<m.cA.length) (hl:m.cA.length≤8) (hva:nO m t n.a) (hth:0≤n.cQ∧n.cQ<m.mem.length):
 cG Tryz.prog 108 [.pt ab 1 0 0] H nx (fun r H' k=>r=i64 n.next∧tf u { m with mem:=m.mem.set n.cQ.toNat (m.val t n.a) } t n { d with cQ:=n.cQ,word:=m.val t n.a } ab L H nx H' k):=by
 have hfr:∀(v:l8) (H1:Hp),(∀y∈ab::L.all,bu H1 y=bu H y)→[.pt ab 1 0 0,v.av].map (cZ.dV H1 6)=[nP u m t n d,v.av]:=fun v H1 h1=>by
  rw[List.map_cons,List.map_cons,List.map_nil,(h.cU h1).dV,du _ (show cI 0 v.av by simp[cI])]
 have h0:=h
 obtain⟨hM,⟨dd,ra⟩,hout⟩:=h
 obtain⟨⟨a1,a2,a3,a4,a5,b1,b2,b3,b4,c1,c2,c3,e1',e2',f1⟩,n1,n2,n3,n4,n5,n6⟩:=apart hM ht
 have hmem:=hM.mem
 have k0:=hlt ab (by simp)
 have km:=hlt L.mr (by simp)
 have ke:=hlt L.me (List.mem_cons_of_mem _ (hmem _ (by simp)))
 have kh:=hlt L.ho (List.mem_cons_of_mem _ (hmem _ (by simp)))
 have kp:=hlt L.pr (List.mem_cons_of_mem _ (hmem _ (by simp)))
 have o1:=dR hout (List.mem_cons_self (a:=L.mr))
 have o2:=dR hout (hmem L.me (by simp))
 have o3:=dR hout (hmem L.ho (by simp))
 have o4:=dR hout (hmem L.pr (by simp))
 clear a1 a2 a4 b1 b2 b3 b4 c1 c2 c3 e1' e2' f1 n1 n2 n3 n4 n5 n6
 obtain⟨d1,r1⟩:=hM.rM
 obtain⟨d3,r4⟩:=hM.rE
 obtain⟨d5,r5⟩:=hM.rH
 obtain⟨d6,r6⟩:=hM.rP
 have q1:(m.mem.map i64).length=m.mem.length:=by simp
 have q2:(m.hold.map i64).length=m.hold.length:=by simp
 have q3:(m.cP.map dW.av).length=m.cP.length:=by simp
 refine aM yc rfl ?_
 refine cV ?_
 refine aZ (ab::L.all) (jC u m n d n.a ht hl hva) (fun H1 h1=>hfr n.a H1 h1) (by simp[cX,cI]) trivial ?_
 refine Eq.mpr (tF (ab::L.all) _) (tU ?_)
 refine cV ?_
 exact⟨⟨rfl,⟨hM.j7 ht _ _ ⟨_,bw⟩ fun y hy hne=>by have:=dR hout hy;exact cD,⟨_,bw⟩,hout⟩,ca,fun y y1 y2 y3=>by have y4:=dR y3 (hmem L.me (by simp));exact cD⟩⟩
theorem DI {u:bx} {m:MS} {t:Nat} {n:Node} {d:gX} {ab:Nat} {L:ML} {H:Hp} {nx:Nat} (h:uF u m t n d ab L H) (hlt:∀y∈ab::L.all,y<nx) (ht:t<m.cA.length) (hl:m.cA.length≤8) (hva:nO m t n.a) (hpl:m.cP.length≤1048576):
 cG Tryz.prog 112 [.pt ab 1 0 0] H nx (fun r H' k=>r=i64 n.next∧tf u { m with cP:=m.cP++[⟨t,m.val t n.a⟩] } t n { d with word:=m.val t n.a } ab L H nx H' k):=by
 have hfr:∀(v:l8) (H1:Hp),(∀y∈ab::L.all,bu H1 y=bu H y)→[.pt ab 1 0 0,v.av].map (cZ.dV H1 6)=[nP u m t n d,v.av]:=fun v H1 h1=>by
  rw[List.map_cons,List.map_cons,List.map_nil,(h.cU h1).dV,du _ (show cI 0 v.av by simp[cI])]
 have h0:=h
 obtain⟨hM,⟨dd,ra⟩,hout⟩:=h
 obtain⟨⟨a1,a2,a3,a4,a5,b1,b2,b3,b4,c1,c2,c3,e1',e2',f1⟩,n1,n2,n3,n4,n5,n6⟩:=apart hM ht
 have hmem:=hM.mem
 have k0:=hlt ab (by simp)
 have km:=hlt L.mr (by simp)
 have ke:=hlt L.me (List.mem_cons_of_mem _ (hmem _ (by simp)))
 have kh:=hlt L.ho (List.mem_cons_of_mem _ (hmem _ (by simp)))
 have kp:=hlt L.pr (List.mem_cons_of_mem _ (hmem _ (by simp)))
 have o1:=dR hout (List.mem_cons_self (a:=L.mr))
 have o2:=dR hout (hmem L.me (by simp))
 have o3:=dR hout (hmem L.ho (by simp))
 have o4:=dR hout (hmem L.pr (by simp))
 clear a1 a2 a4 b1 b2 b3 b4 c1 c2 c3 e1' e2' f1 n1 n2 n3 n4 n5 n6
 obtain⟨d1,r1⟩:=hM.rM
 obtain⟨d3,r4⟩:=hM.rE
 obtain⟨d5,r5⟩:=hM.rH
 obtain⟨d6,r6⟩:=hM.rP
 have q1:(m.mem.map i64).length=m.mem.length:=by simp
 have q2:(m.hold.map i64).length=m.hold.length:=by simp
 have q3:(m.cP.map dW.av).length=m.cP.length:=by simp
 refine aM yg rfl ?_
 refine cV ?_
 refine aT (jC u m n d n.a ht hl hva) (hfr n.a _ ?_) (by simp[cX,cI]) trivial ?_
 ·exact fun y hy=>rfl
 refine cV ?_
 exact⟨⟨rfl,⟨hM.WU ht _ ⟨_,by simp only[MS.rows,List.length_append,List.length_cons,List.length_nil];exact bw⟩ ⟨_,bw⟩ fun y hy hne hn2=>by have:=dR hout hy;have:=hlt y (List.mem_cons_of_mem _ hy);exact cD,⟨_,bw⟩,hout⟩,ca,fun y y1 y2 y3=>by have y4:=dR y3 (List.mem_cons_self (a:=L.mr));have y5:=dR y3 (hmem L.pr (by simp));exact cD⟩⟩
theorem KY {u:bx} {m:MS} {t:Nat} {n:Node} {d:gX} {ab:Nat} {L:ML} {H:Hp} {nx:Nat} (h:uF u m t n d ab L H) (hlt:∀y∈ab::L.all,y<nx) (ht:t<m.cA.length) (hl:m.cA.length≤8) (hva:nO m t n.a) (hs:0≤n.slot∧n.slot<(m.cA.getD t []).length) (hth:0≤n.cQ∧n.cQ<m.mem.length):
 cG Tryz.prog 109 [.pt ab 1 0 0] H nx (fun r H' k=>r=i64 n.next∧tf u { m.gn t n.slot (m.mem.getD n.cQ.toNat 0) with mem:=m.mem.set n.cQ.toNat (m.val t n.a) } t n { d with cQ:=n.cQ,word:=m.mem.getD n.cQ.toNat 0,put:=m.val t n.a } ab L H nx H' k):=by
 have hfr:∀(v:l8) (H1:Hp),(∀y∈ab::L.all,bu H1 y=bu H y)→[.pt ab 1 0 0,v.av].map (cZ.dV H1 6)=[nP u m t n d,v.av]:=fun v H1 h1=>by
  rw[List.map_cons,List.map_cons,List.map_nil,(h.cU h1).dV,du _ (show cI 0 v.av by simp[cI])]
 have h0:=h
 obtain⟨hM,⟨dd,ra⟩,hout⟩:=h
 obtain⟨⟨a1,a2,a3,a4,a5,b1,b2,b3,b4,c1,c2,c3,e1',e2',f1⟩,n1,n2,n3,n4,n5,n6⟩:=apart hM ht
 have hmem:=hM.mem
 have k0:=hlt ab (by simp)
 have km:=hlt L.mr (by simp)
 have ke:=hlt L.me (List.mem_cons_of_mem _ (hmem _ (by simp)))
 have kh:=hlt L.ho (List.mem_cons_of_mem _ (hmem _ (by simp)))
 have kp:=hlt L.pr (List.mem_cons_of_mem _ (hmem _ (by simp)))
 have o1:=dR hout (List.mem_cons_self (a:=L.mr))
 have o2:=dR hout (hmem L.me (by simp))
 have o3:=dR hout (hmem L.ho (by simp))
 have o4:=dR hout (hmem L.pr (by simp))
 clear a1 a2 a4 b1 b2 b3 b4 c1 c2 c3 e1' e2' f1 n1 n2 n3 n4 n5 n6
 obtain⟨d1,r1⟩:=hM.rM
 obtain⟨d3,r4⟩:=hM.rE
 obtain⟨d5,r5⟩:=hM.rH
 obtain⟨d6,r6⟩:=hM.rP
 have q1:(m.mem.map i64).length=m.mem.length:=by simp
 have q2:(m.hold.map i64).length=m.hold.length:=by simp
 have q3:(m.cP.map dW.av).length=m.cP.length:=by simp
 have e0:=fun d=>ox (l:=m.mem) (k:=n.cQ) (by omega) d
 refine aM yd rfl ?_
 refine cV ?_
 refine aZ (ab::L.all) (jC u m n d n.a ht hl hva) (fun H1 h1=>hfr n.a H1 h1) (by simp[cX,cI]) trivial ?_
 refine Eq.mpr (tF (ab::L.all) _) (tU ?_)
 refine cV ?_
 refine aL (kX (u:=u) (t:=t) (n:=n) (d:={ d with cQ:=n.cQ,put:=m.val t n.a }) (L:=L) (m:=m) (ab:=ab) ?_ ?_ ht hl hs _) ?_
 ·exact⟨hM.cU fun y hy=>by have:=dR hout hy;exact cD,⟨_,bw⟩,hout⟩
 ·exact fun y hy=>Nat.lt_of_lt_of_le (hlt y hy) ca
 rintro _ H2 n2 ⟨hA,hn2,hk2⟩
 obtain⟨dd2,ra2⟩:=hA.row
 obtain⟨d8,r8⟩:=hA.M.rM
 obtain⟨d9,r9⟩:=hA.M.rE
 refine cV ?_
 have ht2:t<(m.gn t n.slot (m.mem.getD n.cQ.toNat 0)).cA.length:=by simp only[MS.gn,List.length_set];exact ht
 exact⟨⟨rfl,⟨hA.M.j7 ht2 _ _ ⟨_,bw⟩ fun y hy hne=>by have:=dR hout hy;exact cD,⟨_,bw⟩,hout⟩,ca,fun y y1 y2 y3=>by have y4:=dR y3 (hmem L.me (by simp));exact Eq.trans cD ((hk2 y (Nat.lt_of_lt_of_le y1 ca) y2 y3).trans cD)⟩⟩
theorem PX {u:bx} {m:MS} {t:Nat} {n:Node} {d:gX} {ab:Nat} {L:ML} {H:Hp} {nx:Nat} (h:uF u m t n d ab L H) (hlt:∀y∈ab::L.all,y<nx) (ht:t<m.cA.length) (hl:m.cA.length≤8) (hs:0≤n.slot∧n.slot<(m.cA.getD t []).length) (hva:nO m t n.a) (hvb:eB n.op=true→nO m t n.b) (hop:0≤n.op∧n.op<19):
 cG Tryz.prog 106 [.pt ab 1 0 0] H nx (fun r H' k=>r=i64 n.next∧tf u (m.gn t n.slot (m.DZ t n)) t n { d with word:=m.DZ t n } ab L H nx H' k):=by
 have hfr:∀(v:l8) (H1:Hp),(∀y∈ab::L.all,bu H1 y=bu H y)→[.pt ab 1 0 0,v.av].map (cZ.dV H1 6)=[nP u m t n d,v.av]:=fun v H1 h1=>by
  rw[List.map_cons,List.map_cons,List.map_nil,(h.cU h1).dV,du _ (show cI 0 v.av by simp[cI])]
 have h0:=h
 obtain⟨hM,⟨dd,ra⟩,hout⟩:=h
 obtain⟨⟨a1,a2,a3,a4,a5,b1,b2,b3,b4,c1,c2,c3,e1',e2',f1⟩,n1,n2,n3,n4,n5,n6⟩:=apart hM ht
 have hmem:=hM.mem
 have k0:=hlt ab (by simp)
 have km:=hlt L.mr (by simp)
 have ke:=hlt L.me (List.mem_cons_of_mem _ (hmem _ (by simp)))
 have kh:=hlt L.ho (List.mem_cons_of_mem _ (hmem _ (by simp)))
 have kp:=hlt L.pr (List.mem_cons_of_mem _ (hmem _ (by simp)))
 have o1:=dR hout (List.mem_cons_self (a:=L.mr))
 have o2:=dR hout (hmem L.me (by simp))
 have o3:=dR hout (hmem L.ho (by simp))
 have o4:=dR hout (hmem L.pr (by simp))
 clear a1 a2 a4 b1 b2 b3 b4 c1 c2 c3 e1' e2' f1 n1 n2 n3 n4 n5 n6
 obtain⟨d1,r1⟩:=hM.rM
 obtain⟨d3,r4⟩:=hM.rE
 obtain⟨d5,r5⟩:=hM.rH
 obtain⟨d6,r6⟩:=hM.rP
 have q1:(m.mem.map i64).length=m.mem.length:=by simp
 have q2:(m.hold.map i64).length=m.hold.length:=by simp
 have q3:(m.cP.map dW.av).length=m.cP.length:=by simp
 have c0:=fQ n.op hop.1
 unfold MS.DZ
 cases h2:eB n.op with
 |true=>
  rw[h2] at c0
  have c1:=U8 n.op (m.val t n.a) (m.val t n.b) h2
  have hvb:=hvb h2
  rw[if_pos rfl]
  refine aM sk rfl ?_
  refine cV ?_
  refine aT (jC u m n d n.a ht hl hva) (hfr n.a _ ?_) (by simp[cX,cI]) trivial ?_
  ·exact fun y hy=>rfl
  refine cV ?_
  refine aZ (ab::L.all) (jC u m n d n.b ht hl hvb) (fun H1 h1=>hfr n.b H1 h1) (by simp[cX,cI]) trivial ?_
  refine Eq.mpr (tF (ab::L.all) _) (tU ?_)
  refine cV ?_
  refine aL (kX (u:=u) (t:=t) (n:=n) (d:=d) (L:=L) (m:=m) (ab:=ab) ?_ ?_ ht hl hs _) ?_
  ·exact⟨hM.cU fun y hy=>by have:=dR hout hy;exact cD,⟨_,bw⟩,hout⟩
  ·exact fun y hy=>Nat.lt_of_lt_of_le (hlt y hy) ca
  rintro _ H2 n2 ⟨hA,hn2,hk2⟩
  obtain⟨dd2,ra2⟩:=hA.row
  refine cV ?_
  exact⟨⟨rfl,hA.cU fun y hy=>cD,ca,fun y y1 y2 y3=>Eq.trans cD ((hk2 y (Nat.lt_of_lt_of_le y1 ca) y2 y3).trans cD)⟩⟩
 |false=>
  rw[h2] at c0
  rw[if_neg (by decide)]
  by_cases h0':n.op=0
  ·rw[if_neg (fun e=>e h0')]
   refine aM sk rfl ?_
   refine cV ?_
   refine aT (jC u m n d n.a ht hl hva) (hfr n.a _ ?_) (by simp[cX,cI]) trivial ?_
   ·exact fun y hy=>rfl
   refine cV ?_
   refine aL (kX (u:=u) (t:=t) (n:=n) (d:=d) (L:=L) (m:=m) (ab:=ab) ?_ ?_ ht hl hs _) ?_
   ·exact⟨hM.cU fun y hy=>by have:=dR hout hy;exact cD,⟨_,bw⟩,hout⟩
   ·exact fun y hy=>Nat.lt_of_lt_of_le (hlt y hy) ca
   rintro _ H2 n2 ⟨hA,hn2,hk2⟩
   obtain⟨dd2,ra2⟩:=hA.row
   refine cV ?_
   exact⟨⟨rfl,hA.cU fun y hy=>cD,ca,fun y y1 y2 y3=>Eq.trans cD ((hk2 y (Nat.lt_of_lt_of_le y1 ca) y2 y3).trans cD)⟩⟩
  ·rw[if_pos h0']
   have c1:=QO n.op (m.val t n.a) (by unfold eB at h2;simp only[Bool.and_eq_false_iff,decide_eq_false_iff_not] at h2;omega)
   refine aM sk rfl ?_
   refine cV ?_
   refine aT (jC u m n d n.a ht hl hva) (hfr n.a _ ?_) (by simp[cX,cI]) trivial ?_
   ·exact fun y hy=>rfl
   refine cV ?_
   refine aL (kX (u:=u) (t:=t) (n:=n) (d:=d) (L:=L) (m:=m) (ab:=ab) ?_ ?_ ht hl hs _) ?_
   ·exact⟨hM.cU fun y hy=>by have:=dR hout hy;exact cD,⟨_,bw⟩,hout⟩
   ·exact fun y hy=>Nat.lt_of_lt_of_le (hlt y hy) ca
   rintro _ H2 n2 ⟨hA,hn2,hk2⟩
   obtain⟨dd2,ra2⟩:=hA.row
   refine cV ?_
   exact⟨⟨rfl,hA.cU fun y hy=>cD,ca,fun y y1 y2 y3=>Eq.trans cD ((hk2 y (Nat.lt_of_lt_of_le y1 ca) y2 y3).trans cD)⟩⟩
end Go.Proofs.YtjopoheligmmoaaGreatDoor
end
