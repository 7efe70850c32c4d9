import Derived.Test.YtjopoheligmmoaaGreatDoorM32
section
/- A step keeps a situation right. -/
namespace Go.Proofs.YtjopoheligmmoaaGreatDoor
open Go Go.cY Go.Proofs
set_option linter.unusedSimpArgs false
set_option linter.unusedVariables false
theorem tK (n:Int):eN (wg n):=by unfold eN wg;rw[IntKind.wrap_i64];omega
theorem VQ {p:Prop} [Decidable p] {a b:Int} (h1:eN a) (h2:eN b):eN (if p then a else b):=by
 split
 ·exact h1
 ·exact h2
theorem UJ (t:Bool):eN (tr t):=by unfold tr eN;split<;>omega
theorem TD {a:Int} (h:eN a) (b:Int):eN (TC a b):=by
 unfold TC
 have hd:(1:Int)≤2^(min (LY b).toNat 64):=Int.le_of_lt_add_one (by have:(0:Int)<2^(min (LY b).toNat 64):=Int.pow_pos (by omega);omega)
 generalize (2:Int)^(min (LY b).toNat 64)=d at *
 rw[Int.fdiv_eq_ediv_of_nonneg _ (by omega)]
 have h1:=Int.mul_ediv_add_emod a d
 have h2:=Int.emod_nonneg a (b:=d) (by omega)
 have h3:=Int.emod_lt_of_pos a (b:=d) (by omega)
 obtain⟨h4,h5⟩:=h
 generalize a /d=q at *
 generalize a%d=r at *
 constructor
 ·apply Int.not_lt.1
  intro hq
  have:d * (q+1)≤1 * (q+1):=Int.mul_le_mul_of_nonpos_right hd (by omega)
  rw[Int.mul_add] at this
  omega
 ·apply Int.not_le.1
  intro hq
  have:1 * q≤d * q:=Int.mul_le_mul_of_nonneg_right hd (by omega)
  omega
theorem TS {a b:Int} (ha:eN a) (op:Int):eN (TR op a b):=by
 have hq:eN (J6 a b):=by
  unfold J6
  split
  ·exact⟨by omega,by omega⟩
  ·split
   ·exact tK _
   ·exact tK _
 have hm:eN (O4 a b):=by
  unfold O4
  split
  ·exact ha
  ·exact tK _
 unfold TR
 repeat' (with_reducible refine VQ ?_ ?_)
 all_goals first
  |exact UJ _
  |exact TD ha _
  |exact hq
  |exact hm
  |exact tK _
theorem SZ (op a:Int):eN (SY op a):=by
 unfold SY
 split
 ·exact tK _
 ·exact UJ _
theorem getD_none {α:Type} {l:List α} {k:Nat} {d:α} (h:l.length≤k):l.getD k d=d:=by simp[List.getD,List.getElem?_eq_none h]
section
variable {u:bu} {m:MS} {t:Nat}
theorem TF (h:eI u m) (ht:t<u.bt.length) (k:Nat):eN ((m.bx.getD t []).getD k 0):=by
 by_cases hk:k<(m.bx.getD t []).length
 ·exact h.DQ t ht _ (cP 0 hk)
 ·rw[getD_none (Nat.le_of_not_lt hk)]
  exact⟨by omega,by omega⟩
theorem D3 (h:eI u m) (ht:t<u.bt.length) {v:lX} (hv:v.Wf):eN (m.val t v):=by
 unfold MS.val
 split
 ·exact TF h ht _
 ·exact hv.word
theorem TB (h:eI u m) (ht:t<u.bt.length) {n:Node} (hn:n.Wf):eN (m.DK t n):=by
 unfold MS.DK
 split
 ·exact TS (D3 h ht hn.a) _
 ·split
  ·exact SZ _ _
  ·exact D3 h ht hn.a
theorem nq {α:Type} {l:List α} {i:Nat} {a x:α} (h:x∈l.set i a):x∈l∨x=a:=by
 rcases List.mem_or_eq_of_mem_set h with h|h
 ·exact .inl h
 ·exact .inr h
theorem getD_set_ne {α:Type} {l:List α} {i j:Nat} {v d:α} (h:i≠j):(l.set i v).getD j d=l.getD j d:=by simp[List.getD,List.getElem?_set_ne h]
theorem eI.gY (h:eI u m) (k w:Int) (hw:eN w):eI u (m.gY t k w) where
 pV:=h.pV
 gK:=h.gK
 sl:=by simp only[MS.gY,List.length_set];exact h.sl
 DP:=fun s hs=>by
  simp only[MS.gY]
  by_cases e:t=s
  ·subst e
   rw[e8 (by rw[h.sl];exact hs),List.length_set]
   exact h.DP t hs
  ·rw[getD_set_ne e];exact h.DP s hs
 DQ:=fun s hs x hx=>by
  simp only[MS.gY] at hx
  by_cases e:t=s
  ·subst e
   rw[e8 (by rw[h.sl];exact hs)] at hx
   rcases nq hx with hx|rfl
   ·exact h.DQ t hs x hx
   ·exact hw
  ·rw[getD_set_ne e] at hx;exact h.DQ s hs x hx
 ml:=h.ml
 mw:=h.mw
 hl:=h.hl
 hw:=h.hw
 pw:=h.pw
theorem eI.mem (h:eI u m) (k:Nat) (w:Int) (hw:eN w):eI u { m with mem:=m.mem.set k w } where
 pV:=h.pV
 gK:=h.gK
 sl:=h.sl
 DP:=h.DP
 DQ:=h.DQ
 ml:=by simp only[List.length_set];exact h.ml
 mw:=fun x hx=>by
  rcases nq hx with hx|rfl
  ·exact h.mw x hx
  ·exact hw
 hl:=h.hl
 hw:=h.hw
 pw:=h.pw
theorem eI.hold (h:eI u m) (k:Nat) (w:Int) (hw:-1≤w∧w<u.bt.length):eI u { m with hold:=m.hold.set k w } where
 pV:=h.pV
 gK:=h.gK
 sl:=h.sl
 DP:=h.DP
 DQ:=h.DQ
 ml:=h.ml
 mw:=h.mw
 hl:=by simp only[List.length_set];exact h.hl
 hw:=fun x hx=>by
  rcases nq hx with hx|rfl
  ·exact h.hw x hx
  ·exact hw
 pw:=h.pw
theorem eI.print (h:eI u m) (p:dS) (hp:0≤p.da∧p.da<u.bt.length∧eN p.word):eI u { m with cN:=m.cN++[p] } where
 pV:=h.pV
 gK:=h.gK
 sl:=h.sl
 DP:=h.DP
 DQ:=h.DQ
 ml:=h.ml
 mw:=h.mw
 hl:=h.hl
 hw:=h.hw
 pw:=fun x hx=>by
  rcases List.mem_append.1 hx with hx|hx
  ·exact h.pw x hx
  ·simp only[List.mem_cons,List.not_mem_nil,or_false] at hx
   subst hx;exact hp
theorem eI.ZI (h:eI u m) (k:Int) (hk:t<u.bt.length→0≤k∧k<(u.gr t).nodes.length):eI u { m with at_:=m.at_.set t k } where
 pV:=by simp only[List.length_set];exact h.pV
 gK:=fun s hs=>by
  by_cases e:t=s
  ·subst e
   dsimp only
   rw[e8 (by rw[h.pV];exact hs)]
   exact hk hs
  ·dsimp only
   rw[getD_set_ne e];exact h.gK s hs
 sl:=h.sl
 DP:=h.DP
 DQ:=h.DQ
 ml:=h.ml
 mw:=h.mw
 hl:=h.hl
 hw:=h.hw
 pw:=h.pw
theorem kF (h:eI u m) (ht:t<u.bt.length) (hb:m.k8 u t=0):(m.node u t).kind≠9∧¬((m.node u t).kind=5∧0≤m.hold.getD (m.node u t).cM.toNat 0):=by
 unfold MS.k8 at hb
 rw[if_neg (by have:=h.pV;omega),Int.toNat_natCast] at hb
 refine⟨fun e=> ?_,fun e=> ?_⟩
 ·rw[if_pos e] at hb;cases hb
 ·rw[if_neg (by omega)] at hb
  rw[if_pos e] at hb
  cases hb
theorem GZ (hu:u.Wf) (h:eI u m) (ht:t<u.bt.length):(m.node u t).Wf:=by
 have h1:=h.gK t ht
 exact(hu.bt _ (cP default ht)).nodes _ (cP default (show(m.at_.getD t 0).toNat<(u.gr t).nodes.length by omega))
theorem UU (hu:u.Wf) (hr:cS u) (h:eI u m) (ht:t<u.bt.length):eI u (m.act t (m.node u t)).1:=by
 have hn:=h.node hr ht
 have hw:=GZ hu h ht
 have hst:=TB h ht hw
 have hva:=D3 h ht hw.a
 have hmw:eN (m.mem.getD (m.node u t).cM.toNat 0):=by
  by_cases hk:(m.node u t).cM.toNat<m.mem.length
  ·exact h.mw _ (cP 0 hk)
  ·rw[getD_none (Nat.le_of_not_lt hk)];exact⟨by omega,by omega⟩
 generalize m.node u t=n at *
 unfold MS.act
 split
 ·exact h.gY _ _ hst
 split
 ·exact h.gY _ _ hmw
 split
 ·exact h.mem _ _ hva
 split
 ·exact(h.gY (t:=t) n.slot _ hmw).mem _ _ hva
 split
 ·exact h.hold _ _ ⟨by omega,by omega⟩
 split
 ·exact h.hold _ _ ⟨by omega,by omega⟩
 split
 ·exact h.print _ ⟨by dsimp only;omega,by dsimp only;omega,hva⟩
 ·exact h
theorem K9 (hr:cS u) (h:eI u m) (ht:t<u.bt.length) (hk:(m.node u t).kind≠9):0≤(m.act t (m.node u t)).2.1∧(m.act t (m.node u t)).2.1<(u.gr t).nodes.length:=by
 have hn:=h.node hr ht
 generalize m.node u t=n at *
 have hkd:=hn.kind
 have hnx:=hn.next.1 (by unfold jV;exact decide_eq_true (by omega))
 unfold MS.act
 repeat' split
 all_goals first
  |exact hnx
  |exact hn.sE.1 (by omega)
theorem w7 (hu:u.Wf) (hr:cS u) (h:eI u m) (ht:t<u.bt.length) (hk:(m.node u t).kind≠9):eI u (m.step u t).1:=by
 have h1:=UU hu hr h ht
 have h2:=K9 hr h ht hk
 have h3:(m.step u t).1={ (m.act t (m.node u t)).1 with at_:=m.at_.set t (m.act t (m.node u t)).2.1 }:=rfl
 have h4:(m.act t (m.node u t)).1.at_=m.at_:=by
  unfold MS.act
  repeat' split
  all_goals rfl
 rw[h3,←h4]
 exact h1.ZI _ fun _=>h2
end
end Go.Proofs.YtjopoheligmmoaaGreatDoor
end
section
/- The machine in rows: what a store makes of it. -/
namespace Go.Proofs.YtjopoheligmmoaaGreatDoor
open Go Go.cY Go.Proofs
set_option linter.unusedSimpArgs false
set_option linter.unusedVariables false
structure ML where
 mr:Nat
 a:Nat
 s:Nat
 me:Nat
 ho:Nat
 pr:Nat
 ids:List Nat
abbrev ML.all (L:ML):List Nat:=L.mr::L.a::L.s::L.me::L.ho::L.pr::L.ids
abbrev ML.it (L:ML) (t:Nat):Nat:=L.ids.getD t 0
abbrev ML.At (L:ML) (u:bu) (m:MS) (H:Hp):Prop:=WY u m L.mr L.a L.s L.me L.ho L.pr L.ids H
theorem WY.IJ {u:bu} {m:MS} {mr a s me ho pr:Nat} {ids:List Nat} {H:Hp} (h:WY u m mr a s me ho pr ids H) (k:Nat):cY.dU H (k+4) (.pt mr 1 0 0)=m.fz u:=by
 obtain⟨d1,h1⟩:=h.rM
 obtain⟨d2,h2⟩:=h.rA
 obtain⟨d3,h3⟩:=h.rS
 obtain⟨d4,h4⟩:=h.rE
 obtain⟨d5,h5⟩:=h.rH
 obtain⟨d6,h6⟩:=h.rP
 have hsl:(eR ids m.bx).length=m.bx.length:=by unfold eR;rw[List.length_map,List.length_zip,h.len];simp
 have hs:(eR ids m.bx).map (cY.dU H (k+1))=m.bx.map cQ:=by
  apply List.ext_getElem (by simp[hsl])
  intro t q1 q2
  have ht:t<m.bx.length:=by simpa using q2
  have hti:t<ids.length:=by rw[h.len];exact ht
  obtain⟨d,hd⟩:=h.rL t ht
  rw[show ids.getD t 0=ids[t] by simp[List.getD,hti],show m.bx.getD t []=m.bx[t] by simp[List.getD,ht]] at hd
  rw[List.getElem_map,List.getElem_map]
  simp only[eR,List.getElem_map,List.getElem_zip]
  rw[df hd (by simp),cu _ ((cB _ _).2 fun _ _=>by simp[cI])]
 simp only[cY.dU,h1]
 simp only[List.length_cons,List.length_nil,if_true,List.map_cons,List.map_nil,MS.rows]
 rw[vy]
 simp only[List.map_cons,List.map_nil]
 rw[df h2 (by simp),df h3 hsl,df h4 (by simp),df h5 (by simp),df h6 (by simp),hs]
 rw[cu _ ((cB _ _).2 fun _ _=>by simp[cI]),cu _ ((cB _ _).2 fun _ _=>by simp[cI]),cu _ ((cB _ _).2 fun _ _=>by simp[cI]),cu _ ((cB _ _).2 fun _ _=>by simp[cI])]
 rw[du _ (show cI 0 (cq u.shared) by simp[cI,cB]),du _ (show cI 0 (cq u.cD) by simp[cI,cB]),du _ (show cI 0 (dc u.bt) by simp[cI,cB])]
 rfl
section
variable {u:bu} {m:MS} {L:ML} {H H':Hp}
theorem mP {p:Prop} (h:p:=by first|assumption|(refine Ne.symm ?_;assumption)):p:=h
theorem ML.At.mem (h:L.At u m H):(∀x∈[L.a,L.s,L.me,L.ho,L.pr],x∈L.all):=by
 intro x hx
 simp only[List.mem_cons,List.not_mem_nil,or_false] at hx
 simp only[ML.all,List.mem_cons]
 omega
theorem lC (h:L.At u m H) {t:Nat} (ht:t<m.bx.length):L.it t∈L.all:=by
 have:L.it t∈L.ids:=fI (by rw[h.len];exact ht)
 simp only[ML.all,List.mem_cons]
 exact .inr (.inr (.inr (.inr (.inr (.inr this)))))
theorem X3 (h:L.At u m H) {t s:Nat} (ht:t<m.bx.length) (hs:s<m.bx.length) (e:s≠t):L.it s≠L.it t:=by
 have h1:=(List.nodup_cons.1 (List.nodup_cons.1 (List.nodup_cons.1 (List.nodup_cons.1 (List.nodup_cons.1 (List.nodup_cons.1 h.nodup).2).2).2).2).2).2
 have hl:=h.len
 intro he
 have ht':t<L.ids.length:=by omega
 have hs':s<L.ids.length:=by omega
 have:L.ids[s]=L.ids[t]:=by simpa[ML.it,List.getD,ht',hs'] using he
 exact e ((List.getElem_inj h1).1 this)
structure ML.XA (L:ML) (t:Nat):Prop where
 ne:L.mr≠L.a∧L.mr≠L.s∧L.mr≠L.me∧L.mr≠L.ho∧L.mr≠L.pr∧L.a≠L.s∧L.a≠L.me∧L.a≠L.ho∧L.a≠L.pr∧L.s≠L.me∧L.s≠L.ho∧L.s≠L.pr∧L.me≠L.ho∧L.me≠L.pr∧L.ho≠L.pr
 it:L.it t≠L.mr∧L.it t≠L.a∧L.it t≠L.s∧L.it t≠L.me∧L.it t≠L.ho∧L.it t≠L.pr
theorem apart (h:L.At u m H) {t:Nat} (ht:t<m.bx.length):L.XA t:=by
 have hn:=h.nodup
 have hi:L.it t∈L.ids:=fI (by rw[h.len];exact ht)
 have hne:∀x,x∉L.ids→L.it t≠x:=fun x hx e=>hx (e▸hi)
 simp only[List.nodup_cons,List.mem_cons,not_or] at hn
 obtain⟨⟨a1,a2,a3,a4,a5,a6⟩,⟨b1,b2,b3,b4,b5⟩,⟨c1,c2,c3,c4⟩,⟨d1,d2,d3⟩,⟨e1,e2⟩,f1,_⟩:=hn
 exact⟨⟨a1,a2,a3,a4,a5,b1,b2,b3,b4,c1,c2,c3,d1,d2,e1⟩,hne _ a6,hne _ b5,hne _ c4,hne _ d3,hne _ e2,hne _ f1⟩
theorem ML.At.cR (h:L.At u m H) (hk:∀y∈L.all,br H' y=br H y):L.At u m H':=by
 have hm:=h.mem
 obtain⟨d1,h1⟩:=h.rM
 obtain⟨d2,h2⟩:=h.rA
 obtain⟨d3,h3⟩:=h.rS
 obtain⟨d4,h4⟩:=h.rE
 obtain⟨d5,h5⟩:=h.rH
 obtain⟨d6,h6⟩:=h.rP
 refine⟨⟨d1,(hk _ (by simp)).trans h1⟩,⟨d2,(hk _ (hm _ (by simp))).trans h2⟩,⟨d3,(hk _ (hm _ (by simp))).trans h3⟩,fun t ht=> ?_,⟨d4,(hk _ (hm _ (by simp))).trans h4⟩,⟨d5,(hk _ (hm _ (by simp))).trans h5⟩,⟨d6,(hk _ (hm _ (by simp))).trans h6⟩,h.len,h.nodup⟩
 obtain⟨d,hd⟩:=h.rL t ht
 exact⟨d,(hk _ (lC h ht)).trans hd⟩
theorem ML.At.gY (h:L.At u m H) {t:Nat} (ht:t<m.bx.length) (k w:Int) (hit:∃d,br H' (L.it t)=some (.row 2 1 d (((m.bx.getD t []).map i64).set k.toNat (i64 w)))) (hk:∀y∈L.all,y≠L.it t→br H' y=br H y):L.At u (m.gY t k w) H':=by
 obtain⟨-,n1,n2,n3,n4,n5,n6⟩:=apart h ht
 have hm:=h.mem
 obtain⟨d1,h1⟩:=h.rM
 obtain⟨d2,h2⟩:=h.rA
 obtain⟨d3,h3⟩:=h.rS
 obtain⟨d4,h4⟩:=h.rE
 obtain⟨d5,h5⟩:=h.rH
 obtain⟨d6,h6⟩:=h.rP
 have hl:(m.gY t k w).bx.length=m.bx.length:=by simp[MS.gY]
 have hrow:eR L.ids (m.gY t k w).bx=eR L.ids m.bx:=by
  unfold eR MS.gY
  apply List.ext_getElem (by simp)
  intro i q1 q2
  simp only[List.getElem_map,List.getElem_zip,AV.sl.injEq,true_and]
  rw[List.getElem_set]
  have hi:i<m.bx.length:=by simp at q2;omega
  split
  ·rename_i e;subst e;rw[List.length_set];simp[List.getD,hi]
  ·rfl
 refine⟨⟨d1, ?_⟩,⟨d2,(hk _ (hm _ (by simp)) mP).trans h2⟩,⟨d3,by rw[hrow];exact(hk _ (hm _ (by simp)) mP).trans h3⟩,fun s hs=> ?_,⟨d4,(hk _ (hm _ (by simp)) mP).trans h4⟩,⟨d5,(hk _ (hm _ (by simp)) mP).trans h5⟩,⟨d6,(hk _ (hm _ (by simp)) mP).trans h6⟩,by rw[hl];exact h.len,h.nodup⟩
 ·rw[show(m.gY t k w).rows u L.a L.s L.me L.ho L.pr=m.rows u L.a L.s L.me L.ho L.pr by simp[MS.rows,MS.gY]]
  exact(hk _ (by simp) mP).trans h1
 ·rw[hl] at hs
  by_cases e:s=t
  ·subst e
   obtain⟨d,hd⟩:=hit
   refine⟨d,hd.trans ?_⟩
   rw[show(m.gY s k w).bx.getD s []=(m.bx.getD s []).set k.toNat w from e8 hs,List.map_set]
  ·obtain⟨d,hd⟩:=h.rL s hs
   refine⟨d, ?_⟩
   rw[show(m.gY t k w).bx.getD s []=m.bx.getD s [] from getD_set_ne (Ne.symm e)]
   exact(hk _ (lC h hs) (X3 h ht hs e)).trans hd
theorem ML.At.jX (h:L.At u m H) {t:Nat} (ht:t<m.bx.length) (k w:Int) (hme:∃d,br H' L.me=some (.row 2 1 d ((m.mem.map i64).set k.toNat (i64 w)))) (hk:∀y∈L.all,y≠L.me→br H' y=br H y):L.At u { m with mem:=m.mem.set k.toNat w } H':=by
 obtain⟨⟨a1,a2,a3,a4,a5,b1,b2,b3,b4,c1,c2,c3,e1,e2,f1⟩,n1,n2,n3,n4,n5,n6⟩:=apart h ht
 have hm:=h.mem
 obtain⟨d1,h1⟩:=h.rM
 obtain⟨d2,h2⟩:=h.rA
 obtain⟨d3,h3⟩:=h.rS
 obtain⟨d4,h4⟩:=hme
 obtain⟨d5,h5⟩:=h.rH
 obtain⟨d6,h6⟩:=h.rP
 refine⟨⟨d1, ?_⟩,⟨d2,(hk _ (hm _ (by simp)) mP).trans h2⟩,⟨d3,(hk _ (hm _ (by simp)) mP).trans h3⟩,fun s hs=> ?_,⟨d4,by rw[List.map_set];exact h4⟩,⟨d5,(hk _ (hm _ (by simp)) mP).trans h5⟩,⟨d6,(hk _ (hm _ (by simp)) mP).trans h6⟩,h.len,h.nodup⟩
 ·rw[show({ m with mem:=m.mem.set k.toNat w }:MS).rows u L.a L.s L.me L.ho L.pr=m.rows u L.a L.s L.me L.ho L.pr by simp[MS.rows]]
  exact(hk _ (by simp) mP).trans h1
 ·obtain⟨d,hd⟩:=h.rL s hs
  obtain⟨m1,m2,m3,m4,m5,m6⟩:=(apart h hs).it
  exact⟨d,(hk _ (lC h hs) mP).trans hd⟩
theorem ML.At.UA (h:L.At u m H) {t:Nat} (ht:t<m.bx.length) (k w:Int) (hho:∃d,br H' L.ho=some (.row 3 1 d ((m.hold.map i64).set k.toNat (i64 w)))) (hk:∀y∈L.all,y≠L.ho→br H' y=br H y):L.At u { m with hold:=m.hold.set k.toNat w } H':=by
 obtain⟨⟨a1,a2,a3,a4,a5,b1,b2,b3,b4,c1,c2,c3,e1,e2,f1⟩,n1,n2,n3,n4,n5,n6⟩:=apart h ht
 have hm:=h.mem
 obtain⟨d1,h1⟩:=h.rM
 obtain⟨d2,h2⟩:=h.rA
 obtain⟨d3,h3⟩:=h.rS
 obtain⟨d4,h4⟩:=h.rE
 obtain⟨d5,h5⟩:=hho
 obtain⟨d6,h6⟩:=h.rP
 refine⟨⟨d1, ?_⟩,⟨d2,(hk _ (hm _ (by simp)) mP).trans h2⟩,⟨d3,(hk _ (hm _ (by simp)) mP).trans h3⟩,fun s hs=> ?_,⟨d4,(hk _ (hm _ (by simp)) mP).trans h4⟩,⟨d5,by rw[List.map_set];exact h5⟩,⟨d6,(hk _ (hm _ (by simp)) mP).trans h6⟩,h.len,h.nodup⟩
 ·rw[show({ m with hold:=m.hold.set k.toNat w }:MS).rows u L.a L.s L.me L.ho L.pr=m.rows u L.a L.s L.me L.ho L.pr by simp[MS.rows]]
  exact(hk _ (by simp) mP).trans h1
 ·obtain⟨d,hd⟩:=h.rL s hs
  obtain⟨m1,m2,m3,m4,m5,m6⟩:=(apart h hs).it
  exact⟨d,(hk _ (lC h hs) mP).trans hd⟩
theorem ML.At.ZI (h:L.At u m H) {t:Nat} (ht:t<m.bx.length) (k:Nat) (w:Int) (hat:∃d,br H' L.a=some (.row 3 1 d ((m.at_.map i64).set k (i64 w)))) (hk:∀y∈L.all,y≠L.a→br H' y=br H y):L.At u { m with at_:=m.at_.set k w } H':=by
 obtain⟨⟨a1,a2,a3,a4,a5,b1,b2,b3,b4,c1,c2,c3,e1,e2,f1⟩,n1,n2,n3,n4,n5,n6⟩:=apart h ht
 have hm:=h.mem
 obtain⟨d1,h1⟩:=h.rM
 obtain⟨d2,h2⟩:=hat
 obtain⟨d3,h3⟩:=h.rS
 obtain⟨d4,h4⟩:=h.rE
 obtain⟨d5,h5⟩:=h.rH
 obtain⟨d6,h6⟩:=h.rP
 refine⟨⟨d1, ?_⟩,⟨d2,by rw[List.map_set];exact h2⟩,⟨d3,(hk _ (hm _ (by simp)) mP).trans h3⟩,fun s hs=> ?_,⟨d4,(hk _ (hm _ (by simp)) mP).trans h4⟩,⟨d5,(hk _ (hm _ (by simp)) mP).trans h5⟩,⟨d6,(hk _ (hm _ (by simp)) mP).trans h6⟩,h.len,h.nodup⟩
 ·rw[show({ m with at_:=m.at_.set k w }:MS).rows u L.a L.s L.me L.ho L.pr=m.rows u L.a L.s L.me L.ho L.pr by simp[MS.rows]]
  exact(hk _ (by simp) mP).trans h1
 ·obtain⟨d,hd⟩:=h.rL s hs
  obtain⟨m1,m2,m3,m4,m5,m6⟩:=(apart h hs).it
  exact⟨d,(hk _ (lC h hs) mP).trans hd⟩
theorem ML.At.V5 (h:L.At u m H) {t:Nat} (ht:t<m.bx.length) (p:dS) (hmr:∃d,br H' L.mr=some (.row 114 8 d [({ m with cN:=m.cN++[p] }:MS).rows u L.a L.s L.me L.ho L.pr])) (hpr:∃d,br H' L.pr=some (.row 155 2 d (m.cN.map dS.av++[p.av]))) (hk:∀y∈L.all,y≠L.pr→y≠L.mr→br H' y=br H y):L.At u { m with cN:=m.cN++[p] } H':=by
 obtain⟨⟨a1,a2,a3,a4,a5,b1,b2,b3,b4,c1,c2,c3,e1,e2,f1⟩,n1,n2,n3,n4,n5,n6⟩:=apart h ht
 have hm:=h.mem
 obtain⟨d2,h2⟩:=h.rA
 obtain⟨d3,h3⟩:=h.rS
 obtain⟨d4,h4⟩:=h.rE
 obtain⟨d5,h5⟩:=h.rH
 obtain⟨d6,h6⟩:=hpr
 refine⟨hmr,⟨d2,(hk _ (hm _ (by simp)) mP mP).trans h2⟩,⟨d3,(hk _ (hm _ (by simp)) mP mP).trans h3⟩,fun s hs=> ?_,⟨d4,(hk _ (hm _ (by simp)) mP mP).trans h4⟩,⟨d5,(hk _ (hm _ (by simp)) mP mP).trans h5⟩,⟨d6,by rw[List.map_append];exact h6⟩,h.len,h.nodup⟩
 obtain⟨d,hd⟩:=h.rL s hs
 obtain⟨m1,m2,m3,m4,m5,m6⟩:=(apart h hs).it
 exact⟨d,(hk _ (lC h hs) mP mP).trans hd⟩
end
end Go.Proofs.YtjopoheligmmoaaGreatDoor
end
section
/- An action at work: what a value is; a word into a slot. -/
namespace Go.Proofs.YtjopoheligmmoaaGreatDoor
open Go Go.cY Go.Proofs
set_option linter.unusedSimpArgs false
set_option linter.unusedVariables false
set_option maxRecDepth 8000
def AC (x:AV) (t:Int) (n:Node) (d:gR):List AV:=[x,i64 t,u8 n.kind,u8 n.op,i64 n.slot,i64 n.cM,bl n.a.jL,i64 n.a.slot,i64 n.a.word,bl n.b.jL,i64 n.b.slot,i64 n.b.word,i64 n.next,i64 n.sE,i64 n.origin,i64 d.da,i64 d.node,u8 d.kind,i64 d.cM,i64 d.word,i64 d.put]
abbrev nF (u:bu) (m:MS) (t:Int) (n:Node) (d:gR):AV:= .ip 21 .any [.agg (AC (m.fz u) t n d)] 0 0
@[simp] theorem ZM (k:Nat) (u:bu) (m:MS) (t:Int) (n:Node) (d:gR):cX k (AC (m.fz u) t n d):=by
  simp[cI,cX,AC]
structure tq (u:bu) (m:MS) (t:Nat) (n:Node) (d:gR) (ab:Nat) (L:ML) (H:Hp):Prop where
 M:L.At u m H
 row:∃dd,br H ab=some (.row 118 21 dd [.agg (AC (.pt L.mr 1 0 0) t n d)])
 out:ab∉L.all
theorem tq.dU {u:bu} {m:MS} {t:Nat} {n:Node} {d:gR} {ab:Nat} {L:ML} {H:Hp} (h:tq u m t n d ab L H):cY.dU H 6 (.pt ab 1 0 0)=nF u m t n d:=by
 obtain⟨dd,hr⟩:=h.row
 rw[show cY.dU H 6 (.pt ab 1 0 0)= .ip 21 .any (([.agg (AC (.pt L.mr 1 0 0) t n d)]:List AV).map (cY.dU H 5)) 0 0 from VL hr rfl]
 simp only[List.map_cons,List.map_nil]
 rw[vy]
 simp only[AC,List.map_cons,List.map_nil]
 have:=h.M.IJ 0
 rw[this]
 simp only[cY.dU]
 rfl
theorem tq.cR {u:bu} {m:MS} {t:Nat} {n:Node} {d:gR} {ab:Nat} {L:ML} {H H':Hp} (h:tq u m t n d ab L H) (hk:∀y∈ab::L.all,br H' y=br H y):tq u m t n d ab L H':=by
 obtain⟨dd,hr⟩:=h.row
 exact⟨h.M.cR fun y hy=>hk y (List.mem_cons_of_mem _ hy),⟨dd,(hk ab (by simp)).trans hr⟩,h.out⟩
def nE (m:MS) (t:Nat) (v:lX):Prop:=v.jL=true→0≤v.slot∧v.slot<(m.bx.getD t []).length
theorem iu (u:bu) (m:MS) {t:Nat} (n:Node) (d:gR) (v:lX) (ht:t<m.bx.length) (hl:m.bx.length≤8) (hv:nE m t v):Pure Tryz.prog 158 [nF u m t n d,v.av] (fun r=>r=i64 (m.val t v)):=by
 unfold MS.val
 have e0:∀d,(m.bx.map cQ).getD ((t:Int)).toNat d=cQ (m.bx.getD t []):=fun d=>by rw[Int.toNat_natCast];exact dN cQ m.bx t d ht
 have a0:(m.bx.map cQ).length=m.bx.length:=by simp
 cases hs:v.jL with
 |true=>
  have r0:=hs
  obtain⟨v1,v2⟩:=hv hs
  have a1:((m.bx.getD t []).map i64).length=(m.bx.getD t []).length:=by simp
  have e1:=fun d=>og (l:=m.bx.getD t []) (k:=v.slot) (by omega) d
  rw[if_pos rfl]
  refine aI uq rfl ?_
  refine cU ?_
  first|exact rfl|trivial
 |false=>
  have r0:=hs
  rw[if_neg (by decide)]
  refine aI uq rfl ?_
  refine cU ?_
  first|exact rfl|trivial
abbrev tQ (u:bu) (m:MS) (t:Nat) (n:Node) (d:gR) (ab:Nat) (L:ML) (H0:Hp) (nx:Nat) (H:Hp) (k:Nat):Prop:=tq u m t n d ab L H∧nx≤k∧∀y,y<nx→y≠ab→y∉L.all→br H y=br H0 y
theorem PI {L:ML} {m:MS} {t:Nat} (hl:L.ids.length=m.bx.length) (ht:t<m.bx.length) (d:AV):(eR L.ids m.bx).getD t d= .sl (L.it t) (m.bx.getD t []).length:=by
 have h1:t<L.ids.length:=by omega
 have h2:t<(L.ids.zip m.bx).length:=by rw[List.length_zip];omega
 simp[eR,List.getD,ht,h1,List.getElem?_eq_getElem h2]
theorem vD {L:ML} {m:MS} (hl:L.ids.length=m.bx.length):(eR L.ids m.bx).length=m.bx.length:=by
 unfold eR;rw[List.length_map,List.length_zip,hl];simp
theorem dO {x y:Nat} {l:List Nat} (h:x∉l) (hy:y∈l):y≠x:=fun e=>h (e▸hy)
set_option maxHeartbeats 1000000 in
theorem kN {u:bu} {m:MS} {t:Nat} {n:Node} {d:gR} {ab:Nat} {L:ML} {H:Hp} {nx:Nat} (h:tq u m t n d ab L H) (hlt:∀y∈ab::L.all,y<nx) (ht:t<m.bx.length) (hl:m.bx.length≤8) (hs:0≤n.slot∧n.slot<(m.bx.getD t []).length) (w:Int):
 cH Tryz.prog 162 [.pt ab 1 0 0,i64 w] H nx (fun _ H' k=>tQ u (m.gY t n.slot w) t n { d with word:=w } ab L H nx H' k):=by
 obtain⟨hM,⟨dd,ra⟩,hout⟩:=h
 obtain⟨⟨a1,a2,a3,a4,a5,b1,b2,b3,b4,c1,c2,c3,e1,e2,f1⟩,n1,n2,n3,n4,n5,n6⟩:=apart hM ht
 have hmem:=hM.mem
 have k0:=hlt ab (by simp)
 have km:=hlt L.mr (by simp)
 have ks:=hlt L.s (List.mem_cons_of_mem _ (hmem _ (by simp)))
 have ki:=hlt (L.it t) (List.mem_cons_of_mem _ (lC hM ht))
 have o1:=dO hout (List.mem_cons_self (a:=L.mr))
 have o2:=dO hout (hmem L.s (by simp))
 have o3:=dO hout (lC hM ht)
 obtain⟨d1,r1⟩:=hM.rM
 obtain⟨d3,r3⟩:=hM.rS
 obtain⟨d7,r7⟩:=hM.rL t ht
 have e0:∀d,(eR L.ids m.bx).getD ((t:Int)).toNat d= .sl (L.it t) (m.bx.getD t []).length:=fun d=>by rw[Int.toNat_natCast];exact PI hM.len ht d
 have q0:=vD hM.len
 have q1:((m.bx.getD t []).map i64).length=(m.bx.getD t []).length:=by simp
 obtain⟨hs1,hs2⟩:=hs
 refine aL yf rfl ?_
 refine cU ?_
 exact⟨⟨hM.gY ht _ _ ⟨_,bw⟩ fun y hy hne=>by have:=dO hout hy;exact cA,⟨_,bw⟩,hout⟩,cZ,fun y y1 y2 y3=>by have y4:=dO y3 (lC hM ht);exact cA⟩
end Go.Proofs.YtjopoheligmmoaaGreatDoor
end
section
/- An action at work: the kinds of nodes. -/
namespace Go.Proofs.YtjopoheligmmoaaGreatDoor
open Go Go.cY Go.Proofs
set_option linter.unusedSimpArgs false
set_option linter.unusedVariables false
set_option maxRecDepth 8000
set_option maxHeartbeats 2000000
theorem JP {u:bu} {m:MS} {t:Nat} {n:Node} {d:gR} {ab:Nat} {L:ML} {H:Hp} {nx:Nat} (h:tq u m t n d ab L H) (hlt:∀y∈ab::L.all,y<nx) (ht:t<m.bx.length) (hl:m.bx.length≤8) (hth:0≤n.cM∧n.cM<m.hold.length):
 cH Tryz.prog 110 [.pt ab 1 0 0] H nx (fun r H' k=>r=i64 n.next∧tQ u { m with hold:=m.hold.set n.cM.toNat t } t n { d with cM:=n.cM } ab L H nx H' k):=by
 have hfr:∀(v:lX) (H1:Hp),(∀y∈ab::L.all,br H1 y=br H y)→[.pt ab 1 0 0,v.av].map (cY.dU H1 6)=[nF u m t n d,v.av]:=fun v H1 h1=>by
  rw[List.map_cons,List.map_cons,List.map_nil,(h.cR h1).dU,du _ (show cI 0 v.av by simp[cI])]
 have h0:=h
 obtain⟨hM,⟨dd,ra⟩,hout⟩:=h
 obtain⟨⟨a1,a2,a3,a4,a5,b1,b2,b3,b4,c1,c2,c3,e1',e2',f1⟩,n1,n2,n3,n4,n5,n6⟩:=apart hM ht
 have hmem:=hM.mem
 have k0:=hlt ab (by simp)
 have km:=hlt L.mr (by simp)
 have ke:=hlt L.me (List.mem_cons_of_mem _ (hmem _ (by simp)))
 have kh:=hlt L.ho (List.mem_cons_of_mem _ (hmem _ (by simp)))
 have kp:=hlt L.pr (List.mem_cons_of_mem _ (hmem _ (by simp)))
 have o1:=dO hout (List.mem_cons_self (a:=L.mr))
 have o2:=dO hout (hmem L.me (by simp))
 have o3:=dO hout (hmem L.ho (by simp))
 have o4:=dO hout (hmem L.pr (by simp))
 clear a1 a2 a4 b1 b2 b3 b4 c1 c2 c3 e1' e2' f1 n1 n2 n3 n4 n5 n6
 obtain⟨d1,r1⟩:=hM.rM
 obtain⟨d3,r4⟩:=hM.rE
 obtain⟨d5,r5⟩:=hM.rH
 obtain⟨d6,r6⟩:=hM.rP
 have q1:(m.mem.map i64).length=m.mem.length:=by simp
 have q2:(m.hold.map i64).length=m.hold.length:=by simp
 have q3:(m.cN.map dS.av).length=m.cN.length:=by simp
 refine aL yM rfl ?_
 refine cU ?_
 exact⟨⟨rfl,⟨hM.UA ht _ _ ⟨_,bw⟩ fun y hy hne=>by have:=dO hout hy;exact cA,⟨_,bw⟩,hout⟩,cZ,fun y y1 y2 y3=>by have y4:=dO y3 (hmem L.ho (by simp));exact cA⟩⟩
theorem AK {u:bu} {m:MS} {t:Nat} {n:Node} {d:gR} {ab:Nat} {L:ML} {H:Hp} {nx:Nat} (h:tq u m t n d ab L H) (hlt:∀y∈ab::L.all,y<nx) (ht:t<m.bx.length) (hl:m.bx.length≤8) (hth:0≤n.cM∧n.cM<m.hold.length):
 cH Tryz.prog 111 [.pt ab 1 0 0] H nx (fun r H' k=>r=i64 n.next∧tQ u { m with hold:=m.hold.set n.cM.toNat (-1) } t n { d with cM:=n.cM } ab L H nx H' k):=by
 have hfr:∀(v:lX) (H1:Hp),(∀y∈ab::L.all,br H1 y=br H y)→[.pt ab 1 0 0,v.av].map (cY.dU H1 6)=[nF u m t n d,v.av]:=fun v H1 h1=>by
  rw[List.map_cons,List.map_cons,List.map_nil,(h.cR h1).dU,du _ (show cI 0 v.av by simp[cI])]
 have h0:=h
 obtain⟨hM,⟨dd,ra⟩,hout⟩:=h
 obtain⟨⟨a1,a2,a3,a4,a5,b1,b2,b3,b4,c1,c2,c3,e1',e2',f1⟩,n1,n2,n3,n4,n5,n6⟩:=apart hM ht
 have hmem:=hM.mem
 have k0:=hlt ab (by simp)
 have km:=hlt L.mr (by simp)
 have ke:=hlt L.me (List.mem_cons_of_mem _ (hmem _ (by simp)))
 have kh:=hlt L.ho (List.mem_cons_of_mem _ (hmem _ (by simp)))
 have kp:=hlt L.pr (List.mem_cons_of_mem _ (hmem _ (by simp)))
 have o1:=dO hout (List.mem_cons_self (a:=L.mr))
 have o2:=dO hout (hmem L.me (by simp))
 have o3:=dO hout (hmem L.ho (by simp))
 have o4:=dO hout (hmem L.pr (by simp))
 clear a1 a2 a4 b1 b2 b3 b4 c1 c2 c3 e1' e2' f1 n1 n2 n3 n4 n5 n6
 obtain⟨d1,r1⟩:=hM.rM
 obtain⟨d3,r4⟩:=hM.rE
 obtain⟨d5,r5⟩:=hM.rH
 obtain⟨d6,r6⟩:=hM.rP
 have q1:(m.mem.map i64).length=m.mem.length:=by simp
 have q2:(m.hold.map i64).length=m.hold.length:=by simp
 have q3:(m.cN.map dS.av).length=m.cN.length:=by simp
 refine aL yN rfl ?_
 refine cU ?_
 exact⟨⟨rfl,⟨hM.UA ht _ _ ⟨_,bw⟩ fun y hy hne=>by have:=dO hout hy;exact cA,⟨_,bw⟩,hout⟩,cZ,fun y y1 y2 y3=>by have y4:=dO y3 (hmem L.ho (by simp));exact cA⟩⟩
theorem xO {u:bu} {m:MS} {t:Nat} {n:Node} {d:gR} {ab:Nat} {L:ML} {H:Hp} {nx:Nat} (h:tq u m t n d ab L H) (hlt:∀y∈ab::L.all,y<nx) (ht:t<m.bx.length) (hl:m.bx.length≤8) (hva:nE m t n.a):
 cH Tryz.prog 113 [.pt ab 1 0 0] H nx (fun r H' k=>r=i64 (if m.val t n.a=0 then n.sE else n.next)∧tQ u m t n { d with word:=m.val t n.a } ab L H nx H' k):=by
 have hfr:∀(v:lX) (H1:Hp),(∀y∈ab::L.all,br H1 y=br H y)→[.pt ab 1 0 0,v.av].map (cY.dU H1 6)=[nF u m t n d,v.av]:=fun v H1 h1=>by
  rw[List.map_cons,List.map_cons,List.map_nil,(h.cR h1).dU,du _ (show cI 0 v.av by simp[cI])]
 have h0:=h
 obtain⟨hM,⟨dd,ra⟩,hout⟩:=h
 obtain⟨⟨a1,a2,a3,a4,a5,b1,b2,b3,b4,c1,c2,c3,e1',e2',f1⟩,n1,n2,n3,n4,n5,n6⟩:=apart hM ht
 have hmem:=hM.mem
 have k0:=hlt ab (by simp)
 have km:=hlt L.mr (by simp)
 have ke:=hlt L.me (List.mem_cons_of_mem _ (hmem _ (by simp)))
 have kh:=hlt L.ho (List.mem_cons_of_mem _ (hmem _ (by simp)))
 have kp:=hlt L.pr (List.mem_cons_of_mem _ (hmem _ (by simp)))
 have o1:=dO hout (List.mem_cons_self (a:=L.mr))
 have o2:=dO hout (hmem L.me (by simp))
 have o3:=dO hout (hmem L.ho (by simp))
 have o4:=dO hout (hmem L.pr (by simp))
 clear a1 a2 a4 b1 b2 b3 b4 c1 c2 c3 e1' e2' f1 n1 n2 n3 n4 n5 n6
 obtain⟨d1,r1⟩:=hM.rM
 obtain⟨d3,r4⟩:=hM.rE
 obtain⟨d5,r5⟩:=hM.rH
 obtain⟨d6,r6⟩:=hM.rP
 have q1:(m.mem.map i64).length=m.mem.length:=by simp
 have q2:(m.hold.map i64).length=m.hold.length:=by simp
 have q3:(m.cN.map dS.av).length=m.cN.length:=by simp
 by_cases hz:m.val t n.a=0
 ·rw[if_pos hz]
  refine aL uo rfl ?_
  refine cU ?_
  refine aS (iu u m n d n.a ht hl hva) (hfr n.a _ ?_) (by simp[cX,cI]) trivial ?_
  ·exact fun y hy=>rfl
  refine cU ?_
  exact⟨⟨rfl,⟨hM.cR fun y hy=>by have:=dO hout hy;exact cA,⟨_,bw⟩,hout⟩,cZ,fun y y1 y2 y3=>cA⟩⟩
 ·rw[if_neg hz]
  refine aL uo rfl ?_
  refine cU ?_
  refine aS (iu u m n d n.a ht hl hva) (hfr n.a _ ?_) (by simp[cX,cI]) trivial ?_
  ·exact fun y hy=>rfl
  refine cU ?_
  exact⟨⟨rfl,⟨hM.cR fun y hy=>by have:=dO hout hy;exact cA,⟨_,bw⟩,hout⟩,cZ,fun y y1 y2 y3=>cA⟩⟩
theorem JO {u:bu} {m:MS} {t:Nat} {n:Node} {d:gR} {ab:Nat} {L:ML} {H:Hp} {nx:Nat} (h:tq u m t n d ab L H) (hlt:∀y∈ab::L.all,y<nx) (ht:t<m.bx.length) (hl:m.bx.length≤8) (hs:0≤n.slot∧n.slot<(m.bx.getD t []).length) (hth:0≤n.cM∧n.cM<m.mem.length):
 cH Tryz.prog 107 [.pt ab 1 0 0] H nx (fun r H' k=>r=i64 n.next∧tQ u (m.gY t n.slot (m.mem.getD n.cM.toNat 0)) t n { d with cM:=n.cM,word:=m.mem.getD n.cM.toNat 0 } ab L H nx H' k):=by
 have hfr:∀(v:lX) (H1:Hp),(∀y∈ab::L.all,br H1 y=br H y)→[.pt ab 1 0 0,v.av].map (cY.dU H1 6)=[nF u m t n d,v.av]:=fun v H1 h1=>by
  rw[List.map_cons,List.map_cons,List.map_nil,(h.cR h1).dU,du _ (show cI 0 v.av by simp[cI])]
 have h0:=h
 obtain⟨hM,⟨dd,ra⟩,hout⟩:=h
 obtain⟨⟨a1,a2,a3,a4,a5,b1,b2,b3,b4,c1,c2,c3,e1',e2',f1⟩,n1,n2,n3,n4,n5,n6⟩:=apart hM ht
 have hmem:=hM.mem
 have k0:=hlt ab (by simp)
 have km:=hlt L.mr (by simp)
 have ke:=hlt L.me (List.mem_cons_of_mem _ (hmem _ (by simp)))
 have kh:=hlt L.ho (List.mem_cons_of_mem _ (hmem _ (by simp)))
 have kp:=hlt L.pr (List.mem_cons_of_mem _ (hmem _ (by simp)))
 have o1:=dO hout (List.mem_cons_self (a:=L.mr))
 have o2:=dO hout (hmem L.me (by simp))
 have o3:=dO hout (hmem L.ho (by simp))
 have o4:=dO hout (hmem L.pr (by simp))
 clear a1 a2 a4 b1 b2 b3 b4 c1 c2 c3 e1' e2' f1 n1 n2 n3 n4 n5 n6
 obtain⟨d1,r1⟩:=hM.rM
 obtain⟨d3,r4⟩:=hM.rE
 obtain⟨d5,r5⟩:=hM.rH
 obtain⟨d6,r6⟩:=hM.rP
 have q1:(m.mem.map i64).length=m.mem.length:=by simp
 have q2:(m.hold.map i64).length=m.hold.length:=by simp
 have q3:(m.cN.map dS.av).length=m.cN.length:=by simp
 have e0:=fun d=>og (l:=m.mem) (k:=n.cM) (by omega) d
 refine aL yJ rfl ?_
 refine cU ?_
 refine aJ (kN (u:=u) (t:=t) (n:=n) (d:={ d with cM:=n.cM }) (L:=L) (m:=m) (ab:=ab) ?_ ?_ ht hl hs _) ?_
 ·exact⟨hM.cR fun y hy=>by have:=dO hout hy;exact cA,⟨_,bw⟩,hout⟩
 ·exact fun y hy=>Nat.lt_of_lt_of_le (hlt y hy) cZ
 rintro _ H2 n2 ⟨hA,hn2,hk2⟩
 obtain⟨dd2,ra2⟩:=hA.row
 refine cU ?_
 exact⟨⟨rfl,hA.cR fun y hy=>cA,cZ,fun y y1 y2 y3=>Eq.trans cA ((hk2 y (Nat.lt_of_lt_of_le y1 cZ) y2 y3).trans cA)⟩⟩
theorem DY {u:bu} {m:MS} {t:Nat} {n:Node} {d:gR} {ab:Nat} {L:ML} {H:Hp} {nx:Nat} (h:tq u m t n d ab L H) (hlt:∀y∈ab::L.all,y<nx) (ht:t<m.bx.length) (hl:m.bx.length≤8) (hva:nE m t n.a) (hth:0≤n.cM∧n.cM<m.mem.length):
 cH Tryz.prog 108 [.pt ab 1 0 0] H nx (fun r H' k=>r=i64 n.next∧tQ u { m with mem:=m.mem.set n.cM.toNat (m.val t n.a) } t n { d with cM:=n.cM,word:=m.val t n.a } ab L H nx H' k):=by
 have hfr:∀(v:lX) (H1:Hp),(∀y∈ab::L.all,br H1 y=br H y)→[.pt ab 1 0 0,v.av].map (cY.dU H1 6)=[nF u m t n d,v.av]:=fun v H1 h1=>by
  rw[List.map_cons,List.map_cons,List.map_nil,(h.cR h1).dU,du _ (show cI 0 v.av by simp[cI])]
 have h0:=h
 obtain⟨hM,⟨dd,ra⟩,hout⟩:=h
 obtain⟨⟨a1,a2,a3,a4,a5,b1,b2,b3,b4,c1,c2,c3,e1',e2',f1⟩,n1,n2,n3,n4,n5,n6⟩:=apart hM ht
 have hmem:=hM.mem
 have k0:=hlt ab (by simp)
 have km:=hlt L.mr (by simp)
 have ke:=hlt L.me (List.mem_cons_of_mem _ (hmem _ (by simp)))
 have kh:=hlt L.ho (List.mem_cons_of_mem _ (hmem _ (by simp)))
 have kp:=hlt L.pr (List.mem_cons_of_mem _ (hmem _ (by simp)))
 have o1:=dO hout (List.mem_cons_self (a:=L.mr))
 have o2:=dO hout (hmem L.me (by simp))
 have o3:=dO hout (hmem L.ho (by simp))
 have o4:=dO hout (hmem L.pr (by simp))
 clear a1 a2 a4 b1 b2 b3 b4 c1 c2 c3 e1' e2' f1 n1 n2 n3 n4 n5 n6
 obtain⟨d1,r1⟩:=hM.rM
 obtain⟨d3,r4⟩:=hM.rE
 obtain⟨d5,r5⟩:=hM.rH
 obtain⟨d6,r6⟩:=hM.rP
 have q1:(m.mem.map i64).length=m.mem.length:=by simp
 have q2:(m.hold.map i64).length=m.hold.length:=by simp
 have q3:(m.cN.map dS.av).length=m.cN.length:=by simp
 refine aL yK rfl ?_
 refine cU ?_
 refine aY (ab::L.all) (iu u m n d n.a ht hl hva) (fun H1 h1=>hfr n.a H1 h1) (by simp[cX,cI]) trivial ?_
 refine Eq.mpr (sk (ab::L.all) _) (tI ?_)
 refine cU ?_
 exact⟨⟨rfl,⟨hM.jX ht _ _ ⟨_,bw⟩ fun y hy hne=>by have:=dO hout hy;exact cA,⟨_,bw⟩,hout⟩,cZ,fun y y1 y2 y3=>by have y4:=dO y3 (hmem L.me (by simp));exact cA⟩⟩
theorem C3 {u:bu} {m:MS} {t:Nat} {n:Node} {d:gR} {ab:Nat} {L:ML} {H:Hp} {nx:Nat} (h:tq u m t n d ab L H) (hlt:∀y∈ab::L.all,y<nx) (ht:t<m.bx.length) (hl:m.bx.length≤8) (hva:nE m t n.a) (hpl:m.cN.length≤1048576):
 cH Tryz.prog 112 [.pt ab 1 0 0] H nx (fun r H' k=>r=i64 n.next∧tQ u { m with cN:=m.cN++[⟨t,m.val t n.a⟩] } t n { d with word:=m.val t n.a } ab L H nx H' k):=by
 have hfr:∀(v:lX) (H1:Hp),(∀y∈ab::L.all,br H1 y=br H y)→[.pt ab 1 0 0,v.av].map (cY.dU H1 6)=[nF u m t n d,v.av]:=fun v H1 h1=>by
  rw[List.map_cons,List.map_cons,List.map_nil,(h.cR h1).dU,du _ (show cI 0 v.av by simp[cI])]
 have h0:=h
 obtain⟨hM,⟨dd,ra⟩,hout⟩:=h
 obtain⟨⟨a1,a2,a3,a4,a5,b1,b2,b3,b4,c1,c2,c3,e1',e2',f1⟩,n1,n2,n3,n4,n5,n6⟩:=apart hM ht
 have hmem:=hM.mem
 have k0:=hlt ab (by simp)
 have km:=hlt L.mr (by simp)
 have ke:=hlt L.me (List.mem_cons_of_mem _ (hmem _ (by simp)))
 have kh:=hlt L.ho (List.mem_cons_of_mem _ (hmem _ (by simp)))
 have kp:=hlt L.pr (List.mem_cons_of_mem _ (hmem _ (by simp)))
 have o1:=dO hout (List.mem_cons_self (a:=L.mr))
 have o2:=dO hout (hmem L.me (by simp))
 have o3:=dO hout (hmem L.ho (by simp))
 have o4:=dO hout (hmem L.pr (by simp))
 clear a1 a2 a4 b1 b2 b3 b4 c1 c2 c3 e1' e2' f1 n1 n2 n3 n4 n5 n6
 obtain⟨d1,r1⟩:=hM.rM
 obtain⟨d3,r4⟩:=hM.rE
 obtain⟨d5,r5⟩:=hM.rH
 obtain⟨d6,r6⟩:=hM.rP
 have q1:(m.mem.map i64).length=m.mem.length:=by simp
 have q2:(m.hold.map i64).length=m.hold.length:=by simp
 have q3:(m.cN.map dS.av).length=m.cN.length:=by simp
 refine aL yO rfl ?_
 refine cU ?_
 refine aS (iu u m n d n.a ht hl hva) (hfr n.a _ ?_) (by simp[cX,cI]) trivial ?_
 ·exact fun y hy=>rfl
 refine cU ?_
 exact⟨⟨rfl,⟨hM.V5 ht _ ⟨_,by simp only[MS.rows,List.length_append,List.length_cons,List.length_nil];exact bw⟩ ⟨_,bw⟩ fun y hy hne hn2=>by have:=dO hout hy;have:=hlt y (List.mem_cons_of_mem _ hy);exact cA,⟨_,bw⟩,hout⟩,cZ,fun y y1 y2 y3=>by have y4:=dO y3 (List.mem_cons_self (a:=L.mr));have y5:=dO y3 (hmem L.pr (by simp));exact cA⟩⟩
theorem KM {u:bu} {m:MS} {t:Nat} {n:Node} {d:gR} {ab:Nat} {L:ML} {H:Hp} {nx:Nat} (h:tq u m t n d ab L H) (hlt:∀y∈ab::L.all,y<nx) (ht:t<m.bx.length) (hl:m.bx.length≤8) (hva:nE m t n.a) (hs:0≤n.slot∧n.slot<(m.bx.getD t []).length) (hth:0≤n.cM∧n.cM<m.mem.length):
 cH Tryz.prog 109 [.pt ab 1 0 0] H nx (fun r H' k=>r=i64 n.next∧tQ u { m.gY t n.slot (m.mem.getD n.cM.toNat 0) with mem:=m.mem.set n.cM.toNat (m.val t n.a) } t n { d with cM:=n.cM,word:=m.mem.getD n.cM.toNat 0,put:=m.val t n.a } ab L H nx H' k):=by
 have hfr:∀(v:lX) (H1:Hp),(∀y∈ab::L.all,br H1 y=br H y)→[.pt ab 1 0 0,v.av].map (cY.dU H1 6)=[nF u m t n d,v.av]:=fun v H1 h1=>by
  rw[List.map_cons,List.map_cons,List.map_nil,(h.cR h1).dU,du _ (show cI 0 v.av by simp[cI])]
 have h0:=h
 obtain⟨hM,⟨dd,ra⟩,hout⟩:=h
 obtain⟨⟨a1,a2,a3,a4,a5,b1,b2,b3,b4,c1,c2,c3,e1',e2',f1⟩,n1,n2,n3,n4,n5,n6⟩:=apart hM ht
 have hmem:=hM.mem
 have k0:=hlt ab (by simp)
 have km:=hlt L.mr (by simp)
 have ke:=hlt L.me (List.mem_cons_of_mem _ (hmem _ (by simp)))
 have kh:=hlt L.ho (List.mem_cons_of_mem _ (hmem _ (by simp)))
 have kp:=hlt L.pr (List.mem_cons_of_mem _ (hmem _ (by simp)))
 have o1:=dO hout (List.mem_cons_self (a:=L.mr))
 have o2:=dO hout (hmem L.me (by simp))
 have o3:=dO hout (hmem L.ho (by simp))
 have o4:=dO hout (hmem L.pr (by simp))
 clear a1 a2 a4 b1 b2 b3 b4 c1 c2 c3 e1' e2' f1 n1 n2 n3 n4 n5 n6
 obtain⟨d1,r1⟩:=hM.rM
 obtain⟨d3,r4⟩:=hM.rE
 obtain⟨d5,r5⟩:=hM.rH
 obtain⟨d6,r6⟩:=hM.rP
 have q1:(m.mem.map i64).length=m.mem.length:=by simp
 have q2:(m.hold.map i64).length=m.hold.length:=by simp
 have q3:(m.cN.map dS.av).length=m.cN.length:=by simp
 have e0:=fun d=>og (l:=m.mem) (k:=n.cM) (by omega) d
 refine aL yL rfl ?_
 refine cU ?_
 refine aY (ab::L.all) (iu u m n d n.a ht hl hva) (fun H1 h1=>hfr n.a H1 h1) (by simp[cX,cI]) trivial ?_
 refine Eq.mpr (sk (ab::L.all) _) (tI ?_)
 refine cU ?_
 refine aJ (kN (u:=u) (t:=t) (n:=n) (d:={ d with cM:=n.cM,put:=m.val t n.a }) (L:=L) (m:=m) (ab:=ab) ?_ ?_ ht hl hs _) ?_
 ·exact⟨hM.cR fun y hy=>by have:=dO hout hy;exact cA,⟨_,bw⟩,hout⟩
 ·exact fun y hy=>Nat.lt_of_lt_of_le (hlt y hy) cZ
 rintro _ H2 n2 ⟨hA,hn2,hk2⟩
 obtain⟨dd2,ra2⟩:=hA.row
 obtain⟨d8,r8⟩:=hA.M.rM
 obtain⟨d9,r9⟩:=hA.M.rE
 refine cU ?_
 have ht2:t<(m.gY t n.slot (m.mem.getD n.cM.toNat 0)).bx.length:=by simp only[MS.gY,List.length_set];exact ht
 exact⟨⟨rfl,⟨hA.M.jX ht2 _ _ ⟨_,bw⟩ fun y hy hne=>by have:=dO hout hy;exact cA,⟨_,bw⟩,hout⟩,cZ,fun y y1 y2 y3=>by have y4:=dO y3 (hmem L.me (by simp));exact Eq.trans cA ((hk2 y (Nat.lt_of_lt_of_le y1 cZ) y2 y3).trans cA)⟩⟩
theorem PH {u:bu} {m:MS} {t:Nat} {n:Node} {d:gR} {ab:Nat} {L:ML} {H:Hp} {nx:Nat} (h:tq u m t n d ab L H) (hlt:∀y∈ab::L.all,y<nx) (ht:t<m.bx.length) (hl:m.bx.length≤8) (hs:0≤n.slot∧n.slot<(m.bx.getD t []).length) (hva:nE m t n.a) (hvb:dy n.op=true→nE m t n.b) (hop:0≤n.op∧n.op<19):
 cH Tryz.prog 106 [.pt ab 1 0 0] H nx (fun r H' k=>r=i64 n.next∧tQ u (m.gY t n.slot (m.DK t n)) t n { d with word:=m.DK t n } ab L H nx H' k):=by
 have hfr:∀(v:lX) (H1:Hp),(∀y∈ab::L.all,br H1 y=br H y)→[.pt ab 1 0 0,v.av].map (cY.dU H1 6)=[nF u m t n d,v.av]:=fun v H1 h1=>by
  rw[List.map_cons,List.map_cons,List.map_nil,(h.cR h1).dU,du _ (show cI 0 v.av by simp[cI])]
 have h0:=h
 obtain⟨hM,⟨dd,ra⟩,hout⟩:=h
 obtain⟨⟨a1,a2,a3,a4,a5,b1,b2,b3,b4,c1,c2,c3,e1',e2',f1⟩,n1,n2,n3,n4,n5,n6⟩:=apart hM ht
 have hmem:=hM.mem
 have k0:=hlt ab (by simp)
 have km:=hlt L.mr (by simp)
 have ke:=hlt L.me (List.mem_cons_of_mem _ (hmem _ (by simp)))
 have kh:=hlt L.ho (List.mem_cons_of_mem _ (hmem _ (by simp)))
 have kp:=hlt L.pr (List.mem_cons_of_mem _ (hmem _ (by simp)))
 have o1:=dO hout (List.mem_cons_self (a:=L.mr))
 have o2:=dO hout (hmem L.me (by simp))
 have o3:=dO hout (hmem L.ho (by simp))
 have o4:=dO hout (hmem L.pr (by simp))
 clear a1 a2 a4 b1 b2 b3 b4 c1 c2 c3 e1' e2' f1 n1 n2 n3 n4 n5 n6
 obtain⟨d1,r1⟩:=hM.rM
 obtain⟨d3,r4⟩:=hM.rE
 obtain⟨d5,r5⟩:=hM.rH
 obtain⟨d6,r6⟩:=hM.rP
 have q1:(m.mem.map i64).length=m.mem.length:=by simp
 have q2:(m.hold.map i64).length=m.hold.length:=by simp
 have q3:(m.cN.map dS.av).length=m.cN.length:=by simp
 have c0:=fO n.op hop.1
 unfold MS.DK
 cases h2:dy n.op with
 |true=>
  rw[h2] at c0
  have c1:=UM n.op (m.val t n.a) (m.val t n.b) h2
  have hvb:=hvb h2
  rw[if_pos rfl]
  refine aL s7 rfl ?_
  refine cU ?_
  refine aS (iu u m n d n.a ht hl hva) (hfr n.a _ ?_) (by simp[cX,cI]) trivial ?_
  ·exact fun y hy=>rfl
  refine cU ?_
  refine aY (ab::L.all) (iu u m n d n.b ht hl hvb) (fun H1 h1=>hfr n.b H1 h1) (by simp[cX,cI]) trivial ?_
  refine Eq.mpr (sk (ab::L.all) _) (tI ?_)
  refine cU ?_
  refine aJ (kN (u:=u) (t:=t) (n:=n) (d:=d) (L:=L) (m:=m) (ab:=ab) ?_ ?_ ht hl hs _) ?_
  ·exact⟨hM.cR fun y hy=>by have:=dO hout hy;exact cA,⟨_,bw⟩,hout⟩
  ·exact fun y hy=>Nat.lt_of_lt_of_le (hlt y hy) cZ
  rintro _ H2 n2 ⟨hA,hn2,hk2⟩
  obtain⟨dd2,ra2⟩:=hA.row
  refine cU ?_
  exact⟨⟨rfl,hA.cR fun y hy=>cA,cZ,fun y y1 y2 y3=>Eq.trans cA ((hk2 y (Nat.lt_of_lt_of_le y1 cZ) y2 y3).trans cA)⟩⟩
 |false=>
  rw[h2] at c0
  rw[if_neg (by decide)]
  by_cases h0':n.op=0
  ·rw[if_neg (fun e=>e h0')]
   refine aL s7 rfl ?_
   refine cU ?_
   refine aS (iu u m n d n.a ht hl hva) (hfr n.a _ ?_) (by simp[cX,cI]) trivial ?_
   ·exact fun y hy=>rfl
   refine cU ?_
   refine aJ (kN (u:=u) (t:=t) (n:=n) (d:=d) (L:=L) (m:=m) (ab:=ab) ?_ ?_ ht hl hs _) ?_
   ·exact⟨hM.cR fun y hy=>by have:=dO hout hy;exact cA,⟨_,bw⟩,hout⟩
   ·exact fun y hy=>Nat.lt_of_lt_of_le (hlt y hy) cZ
   rintro _ H2 n2 ⟨hA,hn2,hk2⟩
   obtain⟨dd2,ra2⟩:=hA.row
   refine cU ?_
   exact⟨⟨rfl,hA.cR fun y hy=>cA,cZ,fun y y1 y2 y3=>Eq.trans cA ((hk2 y (Nat.lt_of_lt_of_le y1 cZ) y2 y3).trans cA)⟩⟩
  ·rw[if_pos h0']
   have c1:=QA n.op (m.val t n.a) (by unfold dy at h2;simp only[Bool.and_eq_false_iff,decide_eq_false_iff_not] at h2;omega)
   refine aL s7 rfl ?_
   refine cU ?_
   refine aS (iu u m n d n.a ht hl hva) (hfr n.a _ ?_) (by simp[cX,cI]) trivial ?_
   ·exact fun y hy=>rfl
   refine cU ?_
   refine aJ (kN (u:=u) (t:=t) (n:=n) (d:=d) (L:=L) (m:=m) (ab:=ab) ?_ ?_ ht hl hs _) ?_
   ·exact⟨hM.cR fun y hy=>by have:=dO hout hy;exact cA,⟨_,bw⟩,hout⟩
   ·exact fun y hy=>Nat.lt_of_lt_of_le (hlt y hy) cZ
   rintro _ H2 n2 ⟨hA,hn2,hk2⟩
   obtain⟨dd2,ra2⟩:=hA.row
   refine cU ?_
   exact⟨⟨rfl,hA.cR fun y hy=>cA,cZ,fun y y1 y2 y3=>Eq.trans cA ((hk2 y (Nat.lt_of_lt_of_le y1 cZ) y2 y3).trans cA)⟩⟩
end Go.Proofs.YtjopoheligmmoaaGreatDoor
end
