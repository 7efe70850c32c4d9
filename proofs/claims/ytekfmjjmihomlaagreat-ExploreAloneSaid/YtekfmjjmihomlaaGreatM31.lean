import Derived.Test.YtekfmjjmihomlaaGreatM30
section
/- A step keeps a situation right. -/
namespace Go.Proofs.YtekfmjjmihomlaaGreat
open Go Go.cO Go.Proofs
set_option linter.unusedSimpArgs false
set_option linter.unusedVariables false
theorem pa (n:Int):di (sf n):=by unfold di sf;rw[IntKind.wrap_i64];omega
theorem JX {p:Prop} [Decidable p] {a b:Int} (h1:di a) (h2:di b):di (if p then a else b):=by
 split
 ·exact h1
 ·exact h2
theorem I3 (t:Bool):di (tr t):=by unfold tr di;split<;>omega
theorem HQ {a:Int} (h:di a) (b:Int):di (HN a b):=by
 unfold HN
 have hd:(1:Int)≤2^(min (BR b).toNat 64):=Int.le_of_lt_add_one (by have:(0:Int)<2^(min (BR b).toNat 64):=Int.pow_pos (by omega);omega)
 generalize (2:Int)^(min (BR b).toNat 64)=d at *
 rw[Int.fdiv_eq_ediv_of_nonneg _ (by omega)]
 have h1:=Int.mul_ediv_add_emod a d
 have h2:=Int.emod_nonneg a (b:=d) (by omega)
 have h3:=Int.emod_lt_of_pos a (b:=d) (by omega)
 obtain⟨h4,h5⟩:=h
 generalize a /d=q at *
 generalize a%d=r at *
 constructor
 ·apply Int.not_lt.1
  intro hq
  have:d * (q+1)≤1 * (q+1):=Int.mul_le_mul_of_nonpos_right hd (by omega)
  rw[Int.mul_add] at this
  omega
 ·apply Int.not_le.1
  intro hq
  have:1 * q≤d * q:=Int.mul_le_mul_of_nonneg_right hd (by omega)
  omega
theorem IE {a b:Int} (ha:di a) (op:Int):di (ID op a b):=by
 have hq:di (AF a b):=by
  unfold AF
  split
  ·exact⟨by omega,by omega⟩
  ·split
   ·exact pa _
   ·exact pa _
 have hm:di (EC a b):=by
  unfold EC
  split
  ·exact ha
  ·exact pa _
 unfold ID
 repeat' (with_reducible refine JX ?_ ?_)
 all_goals first
  |exact I3 _
  |exact HQ ha _
  |exact hq
  |exact hm
  |exact pa _
theorem HC (op a:Int):di (HB op a):=by
 unfold HB
 split
 ·exact pa _
 ·exact I3 _
theorem getD_none {α:Type} {l:List α} {k:Nat} {d:α} (h:l.length≤k):l.getD k d=d:=by simp[List.getD,List.getElem?_eq_none h]
section
variable {u:bf} {m:MS} {t:Nat}
theorem HR (h:dw u m) (ht:t<u.bj.length) (k:Nat):di ((m.bg.getD t []).getD k 0):=by
 by_cases hk:k<(m.bg.getD t []).length
 ·exact h.xN t ht _ (cW 0 hk)
 ·rw[getD_none (Nat.le_of_not_lt hk)]
  exact⟨by omega,by omega⟩
theorem xY (h:dw u m) (ht:t<u.bj.length) {v:ja} (hv:v.Wf):di (m.val t v):=by
 unfold MS.val
 split
 ·exact HR h ht _
 ·exact hv.word
theorem HM (h:dw u m) (ht:t<u.bj.length) {n:Node} (hn:n.Wf):di (m.xJ t n):=by
 unfold MS.xJ
 split
 ·exact IE (xY h ht hn.a) _
 ·split
  ·exact HC _ _
  ·exact xY h ht hn.a
theorem lN {α:Type} {l:List α} {i:Nat} {a x:α} (h:x∈l.set i a):x∈l∨x=a:=by
 rcases List.mem_or_eq_of_mem_set h with h|h
 ·exact .inl h
 ·exact .inr h
theorem getD_set_ne {α:Type} {l:List α} {i j:Nat} {v d:α} (h:i≠j):(l.set i v).getD j d=l.getD j d:=by simp[List.getD,List.getElem?_set_ne h]
theorem dw.fU (h:dw u m) (k w:Int) (hw:di w):dw u (m.fU t k w) where
 l9:=h.l9
 gB:=h.gB
 sl:=by simp only[MS.fU,List.length_set];exact h.sl
 xM:=fun s hs=>by
  simp only[MS.fU]
  by_cases e:t=s
  ·subst e
   rw[eX (by rw[h.sl];exact hs),List.length_set]
   exact h.xM t hs
  ·rw[getD_set_ne e];exact h.xM s hs
 xN:=fun s hs x hx=>by
  simp only[MS.fU] at hx
  by_cases e:t=s
  ·subst e
   rw[eX (by rw[h.sl];exact hs)] at hx
   rcases lN hx with hx|rfl
   ·exact h.xN t hs x hx
   ·exact hw
  ·rw[getD_set_ne e] at hx;exact h.xN s hs x hx
 ml:=h.ml
 mw:=h.mw
 hl:=h.hl
 hw:=h.hw
 pw:=h.pw
theorem dw.mem (h:dw u m) (k:Nat) (w:Int) (hw:di w):dw u { m with mem:=m.mem.set k w } where
 l9:=h.l9
 gB:=h.gB
 sl:=h.sl
 xM:=h.xM
 xN:=h.xN
 ml:=by simp only[List.length_set];exact h.ml
 mw:=fun x hx=>by
  rcases lN hx with hx|rfl
  ·exact h.mw x hx
  ·exact hw
 hl:=h.hl
 hw:=h.hw
 pw:=h.pw
theorem dw.hold (h:dw u m) (k:Nat) (w:Int) (hw:-1≤w∧w<u.bj.length):dw u { m with hold:=m.hold.set k w } where
 l9:=h.l9
 gB:=h.gB
 sl:=h.sl
 xM:=h.xM
 xN:=h.xN
 ml:=h.ml
 mw:=h.mw
 hl:=by simp only[List.length_set];exact h.hl
 hw:=fun x hx=>by
  rcases lN hx with hx|rfl
  ·exact h.hw x hx
  ·exact hw
 pw:=h.pw
theorem dw.print (h:dw u m) (p:cY) (hp:0≤p.cL∧p.cL<u.bj.length∧di p.word):dw u { m with bn:=m.bn++[p] } where
 l9:=h.l9
 gB:=h.gB
 sl:=h.sl
 xM:=h.xM
 xN:=h.xN
 ml:=h.ml
 mw:=h.mw
 hl:=h.hl
 hw:=h.hw
 pw:=fun x hx=>by
  rcases List.mem_append.1 hx with hx|hx
  ·exact h.pw x hx
  ·simp only[List.mem_cons,List.not_mem_nil,or_false] at hx
   subst hx;exact hp
theorem dw.M8 (h:dw u m) (k:Int) (hk:t<u.bj.length→0≤k∧k<(u.gr t).nodes.length):dw u { m with at_:=m.at_.set t k } where
 l9:=by simp only[List.length_set];exact h.l9
 gB:=fun s hs=>by
  by_cases e:t=s
  ·subst e
   dsimp only
   rw[eX (by rw[h.l9];exact hs)]
   exact hk hs
  ·dsimp only
   rw[getD_set_ne e];exact h.gB s hs
 sl:=h.sl
 xM:=h.xM
 xN:=h.xN
 ml:=h.ml
 mw:=h.mw
 hl:=h.hl
 hw:=h.hw
 pw:=h.pw
theorem la (h:dw u m) (ht:t<u.bj.length) (hb:m.ky u t=0):(m.node u t).kind≠9∧¬((m.node u t).kind=5∧0≤m.hold.getD (m.node u t).cH.toNat 0):=by
 unfold MS.ky at hb
 rw[if_neg (by have:=h.l9;omega),Int.toNat_natCast] at hb
 refine⟨fun e=> ?_,fun e=> ?_⟩
 ·rw[if_pos e] at hb;cases hb
 ·rw[if_neg (by omega)] at hb
  rw[if_pos e] at hb
  cases hb
theorem yf (hu:u.Wf) (h:dw u m) (ht:t<u.bj.length):(m.node u t).Wf:=by
 have h1:=h.gB t ht
 exact(hu.bj _ (cW default ht)).nodes _ (cW default (show(m.at_.getD t 0).toNat<(u.gr t).nodes.length by omega))
theorem JE (hu:u.Wf) (hr:c8 u) (h:dw u m) (ht:t<u.bj.length):dw u (m.act t (m.node u t)).1:=by
 have hn:=h.node hr ht
 have hw:=yf hu h ht
 have hst:=HM h ht hw
 have hva:=xY h ht hw.a
 have hmw:di (m.mem.getD (m.node u t).cH.toNat 0):=by
  by_cases hk:(m.node u t).cH.toNat<m.mem.length
  ·exact h.mw _ (cW 0 hk)
  ·rw[getD_none (Nat.le_of_not_lt hk)];exact⟨by omega,by omega⟩
 generalize m.node u t=n at *
 unfold MS.act
 split
 ·exact h.fU _ _ hst
 split
 ·exact h.fU _ _ hmw
 split
 ·exact h.mem _ _ hva
 split
 ·exact(h.fU (t:=t) n.slot _ hmw).mem _ _ hva
 split
 ·exact h.hold _ _ ⟨by omega,by omega⟩
 split
 ·exact h.hold _ _ ⟨by omega,by omega⟩
 split
 ·exact h.print _ ⟨by dsimp only;omega,by dsimp only;omega,hva⟩
 ·exact h
theorem A9 (hr:c8 u) (h:dw u m) (ht:t<u.bj.length) (hk:(m.node u t).kind≠9):0≤(m.act t (m.node u t)).2.1∧(m.act t (m.node u t)).2.1<(u.gr t).nodes.length:=by
 have hn:=h.node hr ht
 generalize m.node u t=n at *
 have hkd:=hn.kind
 have hnx:=hn.next.1 (by unfold gy;exact decide_eq_true (by omega))
 unfold MS.act
 repeat' split
 all_goals first
  |exact hnx
  |exact hn.oc.1 (by omega)
theorem s8 (hu:u.Wf) (hr:c8 u) (h:dw u m) (ht:t<u.bj.length) (hk:(m.node u t).kind≠9):dw u (m.step u t).1:=by
 have h1:=JE hu hr h ht
 have h2:=A9 hr h ht hk
 have h3:(m.step u t).1={ (m.act t (m.node u t)).1 with at_:=m.at_.set t (m.act t (m.node u t)).2.1 }:=rfl
 have h4:(m.act t (m.node u t)).1.at_=m.at_:=by
  unfold MS.act
  repeat' split
  all_goals rfl
 rw[h3,←h4]
 exact h1.M8 _ fun _=>h2
end
end Go.Proofs.YtekfmjjmihomlaaGreat
end
section
/- The machine in rows: what a store makes of it. -/
namespace Go.Proofs.YtekfmjjmihomlaaGreat
open Go Go.cO Go.Proofs
set_option linter.unusedSimpArgs false
set_option linter.unusedVariables false
structure ML where
 mr:Nat
 a:Nat
 s:Nat
 me:Nat
 ho:Nat
 pr:Nat
 ids:List Nat
abbrev ML.all (L:ML):List Nat:=L.mr::L.a::L.s::L.me::L.ho::L.pr::L.ids
abbrev ML.it (L:ML) (t:Nat):Nat:=L.ids.getD t 0
abbrev ML.At (L:ML) (u:bf) (m:MS) (H:Hp):Prop:=KP u m L.mr L.a L.s L.me L.ho L.pr L.ids H
theorem KP.zW {u:bf} {m:MS} {mr a s me ho pr:Nat} {ids:List Nat} {H:Hp} (h:KP u m mr a s me ho pr ids H) (k:Nat):cO.dM H (k+4) (.pt mr 1 0 0)=m.fz u:=by
 obtain⟨d1,h1⟩:=h.rM
 obtain⟨d2,h2⟩:=h.rA
 obtain⟨d3,h3⟩:=h.rS
 obtain⟨d4,h4⟩:=h.rE
 obtain⟨d5,h5⟩:=h.rH
 obtain⟨d6,h6⟩:=h.rP
 have hsl:(dh ids m.bg).length=m.bg.length:=by unfold dh;rw[List.length_map,List.length_zip,h.len];simp
 have hs:(dh ids m.bg).map (cO.dM H (k+1))=m.bg.map cw:=by
  apply List.ext_getElem (by simp[hsl])
  intro t q1 q2
  have ht:t<m.bg.length:=by simpa using q2
  have hti:t<ids.length:=by rw[h.len];exact ht
  obtain⟨d,hd⟩:=h.rL t ht
  rw[show ids.getD t 0=ids[t] by simp[List.getD,hti],show m.bg.getD t []=m.bg[t] by simp[List.getD,ht]] at hd
  rw[List.getElem_map,List.getElem_map]
  simp only[dh,List.getElem_map,List.getElem_zip]
  rw[eA hd (by simp),dE _ ((cB _ _).2 fun _ _=>by simp[bx])]
 simp only[cO.dM,h1]
 simp only[List.length_cons,List.length_nil,if_true,List.map_cons,List.map_nil,MS.rows]
 rw[rv]
 simp only[List.map_cons,List.map_nil]
 rw[eA h2 (by simp),eA h3 hsl,eA h4 (by simp),eA h5 (by simp),eA h6 (by simp),hs]
 rw[dE _ ((cB _ _).2 fun _ _=>by simp[bx]),dE _ ((cB _ _).2 fun _ _=>by simp[bx]),dE _ ((cB _ _).2 fun _ _=>by simp[bx]),dE _ ((cB _ _).2 fun _ _=>by simp[bx])]
 rw[dY _ (show bx 0 (cV u.shared) by simp[bx,cB]),dY _ (show bx 0 (cV u.bz) by simp[bx,cB]),dY _ (show bx 0 (dQ u.bj) by simp[bx,cB])]
 rfl
section
variable {u:bf} {m:MS} {L:ML} {H H':Hp}
theorem kF {p:Prop} (h:p:=by first|assumption|(refine Ne.symm ?_;assumption)):p:=h
theorem ML.At.mem (h:L.At u m H):(∀x∈[L.a,L.s,L.me,L.ho,L.pr],x∈L.all):=by
 intro x hx
 simp only[List.mem_cons,List.not_mem_nil,or_false] at hx
 simp only[ML.all,List.mem_cons]
 omega
theorem jU (h:L.At u m H) {t:Nat} (ht:t<m.bg.length):L.it t∈L.all:=by
 have:L.it t∈L.ids:=eL (by rw[h.len];exact ht)
 simp only[ML.all,List.mem_cons]
 exact .inr (.inr (.inr (.inr (.inr (.inr this)))))
theorem LO (h:L.At u m H) {t s:Nat} (ht:t<m.bg.length) (hs:s<m.bg.length) (e:s≠t):L.it s≠L.it t:=by
 have h1:=(List.nodup_cons.1 (List.nodup_cons.1 (List.nodup_cons.1 (List.nodup_cons.1 (List.nodup_cons.1 (List.nodup_cons.1 h.nodup).2).2).2).2).2).2
 have hl:=h.len
 intro he
 have ht':t<L.ids.length:=by omega
 have hs':s<L.ids.length:=by omega
 have:L.ids[s]=L.ids[t]:=by simpa[ML.it,List.getD,ht',hs'] using he
 exact e ((List.getElem_inj h1).1 this)
structure ML.KX (L:ML) (t:Nat):Prop where
 ne:L.mr≠L.a∧L.mr≠L.s∧L.mr≠L.me∧L.mr≠L.ho∧L.mr≠L.pr∧L.a≠L.s∧L.a≠L.me∧L.a≠L.ho∧L.a≠L.pr∧L.s≠L.me∧L.s≠L.ho∧L.s≠L.pr∧L.me≠L.ho∧L.me≠L.pr∧L.ho≠L.pr
 it:L.it t≠L.mr∧L.it t≠L.a∧L.it t≠L.s∧L.it t≠L.me∧L.it t≠L.ho∧L.it t≠L.pr
theorem apart (h:L.At u m H) {t:Nat} (ht:t<m.bg.length):L.KX t:=by
 have hn:=h.nodup
 have hi:L.it t∈L.ids:=eL (by rw[h.len];exact ht)
 have hne:∀x,x∉L.ids→L.it t≠x:=fun x hx e=>hx (e▸hi)
 simp only[List.nodup_cons,List.mem_cons,not_or] at hn
 obtain⟨⟨a1,a2,a3,a4,a5,a6⟩,⟨b1,b2,b3,b4,b5⟩,⟨c1,c2,c3,c4⟩,⟨d1,d2,d3⟩,⟨e1,e2⟩,f1,_⟩:=hn
 exact⟨⟨a1,a2,a3,a4,a5,b1,b2,b3,b4,c1,c2,c3,d1,d2,e1⟩,hne _ a6,hne _ b5,hne _ c4,hne _ d3,hne _ e2,hne _ f1⟩
theorem ML.At.cE (h:L.At u m H) (hk:∀y∈L.all,bd H' y=bd H y):L.At u m H':=by
 have hm:=h.mem
 obtain⟨d1,h1⟩:=h.rM
 obtain⟨d2,h2⟩:=h.rA
 obtain⟨d3,h3⟩:=h.rS
 obtain⟨d4,h4⟩:=h.rE
 obtain⟨d5,h5⟩:=h.rH
 obtain⟨d6,h6⟩:=h.rP
 refine⟨⟨d1,(hk _ (by simp)).trans h1⟩,⟨d2,(hk _ (hm _ (by simp))).trans h2⟩,⟨d3,(hk _ (hm _ (by simp))).trans h3⟩,fun t ht=> ?_,⟨d4,(hk _ (hm _ (by simp))).trans h4⟩,⟨d5,(hk _ (hm _ (by simp))).trans h5⟩,⟨d6,(hk _ (hm _ (by simp))).trans h6⟩,h.len,h.nodup⟩
 obtain⟨d,hd⟩:=h.rL t ht
 exact⟨d,(hk _ (jU h ht)).trans hd⟩
theorem ML.At.fU (h:L.At u m H) {t:Nat} (ht:t<m.bg.length) (k w:Int) (hit:∃d,bd H' (L.it t)=some (.row 2 1 d (((m.bg.getD t []).map i64).set k.toNat (i64 w)))) (hk:∀y∈L.all,y≠L.it t→bd H' y=bd H y):L.At u (m.fU t k w) H':=by
 obtain⟨-,n1,n2,n3,n4,n5,n6⟩:=apart h ht
 have hm:=h.mem
 obtain⟨d1,h1⟩:=h.rM
 obtain⟨d2,h2⟩:=h.rA
 obtain⟨d3,h3⟩:=h.rS
 obtain⟨d4,h4⟩:=h.rE
 obtain⟨d5,h5⟩:=h.rH
 obtain⟨d6,h6⟩:=h.rP
 have hl:(m.fU t k w).bg.length=m.bg.length:=by simp[MS.fU]
 have hrow:dh L.ids (m.fU t k w).bg=dh L.ids m.bg:=by
  unfold dh MS.fU
  apply List.ext_getElem (by simp)
  intro i q1 q2
  simp only[List.getElem_map,List.getElem_zip,AV.sl.injEq,true_and]
  rw[List.getElem_set]
  have hi:i<m.bg.length:=by simp at q2;omega
  split
  ·rename_i e;subst e;rw[List.length_set];simp[List.getD,hi]
  ·rfl
 refine⟨⟨d1, ?_⟩,⟨d2,(hk _ (hm _ (by simp)) kF).trans h2⟩,⟨d3,by rw[hrow];exact(hk _ (hm _ (by simp)) kF).trans h3⟩,fun s hs=> ?_,⟨d4,(hk _ (hm _ (by simp)) kF).trans h4⟩,⟨d5,(hk _ (hm _ (by simp)) kF).trans h5⟩,⟨d6,(hk _ (hm _ (by simp)) kF).trans h6⟩,by rw[hl];exact h.len,h.nodup⟩
 ·rw[show(m.fU t k w).rows u L.a L.s L.me L.ho L.pr=m.rows u L.a L.s L.me L.ho L.pr by simp[MS.rows,MS.fU]]
  exact(hk _ (by simp) kF).trans h1
 ·rw[hl] at hs
  by_cases e:s=t
  ·subst e
   obtain⟨d,hd⟩:=hit
   refine⟨d,hd.trans ?_⟩
   rw[show(m.fU s k w).bg.getD s []=(m.bg.getD s []).set k.toNat w from eX hs,List.map_set]
  ·obtain⟨d,hd⟩:=h.rL s hs
   refine⟨d, ?_⟩
   rw[show(m.fU t k w).bg.getD s []=m.bg.getD s [] from getD_set_ne (Ne.symm e)]
   exact(hk _ (jU h hs) (LO h ht hs e)).trans hd
theorem ML.At.hP (h:L.At u m H) {t:Nat} (ht:t<m.bg.length) (k w:Int) (hme:∃d,bd H' L.me=some (.row 2 1 d ((m.mem.map i64).set k.toNat (i64 w)))) (hk:∀y∈L.all,y≠L.me→bd H' y=bd H y):L.At u { m with mem:=m.mem.set k.toNat w } H':=by
 obtain⟨⟨a1,a2,a3,a4,a5,b1,b2,b3,b4,c1,c2,c3,e1,e2,f1⟩,n1,n2,n3,n4,n5,n6⟩:=apart h ht
 have hm:=h.mem
 obtain⟨d1,h1⟩:=h.rM
 obtain⟨d2,h2⟩:=h.rA
 obtain⟨d3,h3⟩:=h.rS
 obtain⟨d4,h4⟩:=hme
 obtain⟨d5,h5⟩:=h.rH
 obtain⟨d6,h6⟩:=h.rP
 refine⟨⟨d1, ?_⟩,⟨d2,(hk _ (hm _ (by simp)) kF).trans h2⟩,⟨d3,(hk _ (hm _ (by simp)) kF).trans h3⟩,fun s hs=> ?_,⟨d4,by rw[List.map_set];exact h4⟩,⟨d5,(hk _ (hm _ (by simp)) kF).trans h5⟩,⟨d6,(hk _ (hm _ (by simp)) kF).trans h6⟩,h.len,h.nodup⟩
 ·rw[show({ m with mem:=m.mem.set k.toNat w }:MS).rows u L.a L.s L.me L.ho L.pr=m.rows u L.a L.s L.me L.ho L.pr by simp[MS.rows]]
  exact(hk _ (by simp) kF).trans h1
 ·obtain⟨d,hd⟩:=h.rL s hs
  obtain⟨m1,m2,m3,m4,m5,m6⟩:=(apart h hs).it
  exact⟨d,(hk _ (jU h hs) kF).trans hd⟩
theorem ML.At.IU (h:L.At u m H) {t:Nat} (ht:t<m.bg.length) (k w:Int) (hho:∃d,bd H' L.ho=some (.row 3 1 d ((m.hold.map i64).set k.toNat (i64 w)))) (hk:∀y∈L.all,y≠L.ho→bd H' y=bd H y):L.At u { m with hold:=m.hold.set k.toNat w } H':=by
 obtain⟨⟨a1,a2,a3,a4,a5,b1,b2,b3,b4,c1,c2,c3,e1,e2,f1⟩,n1,n2,n3,n4,n5,n6⟩:=apart h ht
 have hm:=h.mem
 obtain⟨d1,h1⟩:=h.rM
 obtain⟨d2,h2⟩:=h.rA
 obtain⟨d3,h3⟩:=h.rS
 obtain⟨d4,h4⟩:=h.rE
 obtain⟨d5,h5⟩:=hho
 obtain⟨d6,h6⟩:=h.rP
 refine⟨⟨d1, ?_⟩,⟨d2,(hk _ (hm _ (by simp)) kF).trans h2⟩,⟨d3,(hk _ (hm _ (by simp)) kF).trans h3⟩,fun s hs=> ?_,⟨d4,(hk _ (hm _ (by simp)) kF).trans h4⟩,⟨d5,by rw[List.map_set];exact h5⟩,⟨d6,(hk _ (hm _ (by simp)) kF).trans h6⟩,h.len,h.nodup⟩
 ·rw[show({ m with hold:=m.hold.set k.toNat w }:MS).rows u L.a L.s L.me L.ho L.pr=m.rows u L.a L.s L.me L.ho L.pr by simp[MS.rows]]
  exact(hk _ (by simp) kF).trans h1
 ·obtain⟨d,hd⟩:=h.rL s hs
  obtain⟨m1,m2,m3,m4,m5,m6⟩:=(apart h hs).it
  exact⟨d,(hk _ (jU h hs) kF).trans hd⟩
theorem ML.At.M8 (h:L.At u m H) {t:Nat} (ht:t<m.bg.length) (k:Nat) (w:Int) (hat:∃d,bd H' L.a=some (.row 3 1 d ((m.at_.map i64).set k (i64 w)))) (hk:∀y∈L.all,y≠L.a→bd H' y=bd H y):L.At u { m with at_:=m.at_.set k w } H':=by
 obtain⟨⟨a1,a2,a3,a4,a5,b1,b2,b3,b4,c1,c2,c3,e1,e2,f1⟩,n1,n2,n3,n4,n5,n6⟩:=apart h ht
 have hm:=h.mem
 obtain⟨d1,h1⟩:=h.rM
 obtain⟨d2,h2⟩:=hat
 obtain⟨d3,h3⟩:=h.rS
 obtain⟨d4,h4⟩:=h.rE
 obtain⟨d5,h5⟩:=h.rH
 obtain⟨d6,h6⟩:=h.rP
 refine⟨⟨d1, ?_⟩,⟨d2,by rw[List.map_set];exact h2⟩,⟨d3,(hk _ (hm _ (by simp)) kF).trans h3⟩,fun s hs=> ?_,⟨d4,(hk _ (hm _ (by simp)) kF).trans h4⟩,⟨d5,(hk _ (hm _ (by simp)) kF).trans h5⟩,⟨d6,(hk _ (hm _ (by simp)) kF).trans h6⟩,h.len,h.nodup⟩
 ·rw[show({ m with at_:=m.at_.set k w }:MS).rows u L.a L.s L.me L.ho L.pr=m.rows u L.a L.s L.me L.ho L.pr by simp[MS.rows]]
  exact(hk _ (by simp) kF).trans h1
 ·obtain⟨d,hd⟩:=h.rL s hs
  obtain⟨m1,m2,m3,m4,m5,m6⟩:=(apart h hs).it
  exact⟨d,(hk _ (jU h hs) kF).trans hd⟩
theorem ML.At.J6 (h:L.At u m H) {t:Nat} (ht:t<m.bg.length) (p:cY) (hmr:∃d,bd H' L.mr=some (.row 100 8 d [({ m with bn:=m.bn++[p] }:MS).rows u L.a L.s L.me L.ho L.pr])) (hpr:∃d,bd H' L.pr=some (.row 89 2 d (m.bn.map cY.av++[p.av]))) (hk:∀y∈L.all,y≠L.pr→y≠L.mr→bd H' y=bd H y):L.At u { m with bn:=m.bn++[p] } H':=by
 obtain⟨⟨a1,a2,a3,a4,a5,b1,b2,b3,b4,c1,c2,c3,e1,e2,f1⟩,n1,n2,n3,n4,n5,n6⟩:=apart h ht
 have hm:=h.mem
 obtain⟨d2,h2⟩:=h.rA
 obtain⟨d3,h3⟩:=h.rS
 obtain⟨d4,h4⟩:=h.rE
 obtain⟨d5,h5⟩:=h.rH
 obtain⟨d6,h6⟩:=hpr
 refine⟨hmr,⟨d2,(hk _ (hm _ (by simp)) kF kF).trans h2⟩,⟨d3,(hk _ (hm _ (by simp)) kF kF).trans h3⟩,fun s hs=> ?_,⟨d4,(hk _ (hm _ (by simp)) kF kF).trans h4⟩,⟨d5,(hk _ (hm _ (by simp)) kF kF).trans h5⟩,⟨d6,by rw[List.map_append];exact h6⟩,h.len,h.nodup⟩
 obtain⟨d,hd⟩:=h.rL s hs
 obtain⟨m1,m2,m3,m4,m5,m6⟩:=(apart h hs).it
 exact⟨d,(hk _ (jU h hs) kF kF).trans hd⟩
end
end Go.Proofs.YtekfmjjmihomlaaGreat
end
section
/- An action at work: what a value is; a word into a slot. -/
namespace Go.Proofs.YtekfmjjmihomlaaGreat
open Go Go.cO Go.Proofs
set_option linter.unusedSimpArgs false
set_option linter.unusedVariables false
set_option maxRecDepth 8000
def AC (x:AV) (t:Int) (n:Node) (d:fZ):List AV:=[x,i64 t,u8 n.kind,u8 n.op,i64 n.slot,i64 n.cH,bl n.a.gp,i64 n.a.slot,i64 n.a.word,bl n.b.gp,i64 n.b.slot,i64 n.b.word,i64 n.next,i64 n.oc,i64 n.origin,i64 d.cL,i64 d.node,u8 d.kind,i64 d.cH,i64 d.word,i64 d.put]
abbrev kg (u:bf) (m:MS) (t:Int) (n:Node) (d:fZ):AV:= .ip 21 .any [.agg (AC (m.fz u) t n d)] 0 0
@[simp] theorem NB (k:Nat) (u:bf) (m:MS) (t:Int) (n:Node) (d:fZ):cK k (AC (m.fz u) t n d):=by
  simp[bx,cK,AC]
structure qB (u:bf) (m:MS) (t:Nat) (n:Node) (d:fZ) (ab:Nat) (L:ML) (H:Hp):Prop where
 M:L.At u m H
 row:∃dd,bd H ab=some (.row 113 21 dd [.agg (AC (.pt L.mr 1 0 0) t n d)])
 out:ab∉L.all
theorem qB.dM {u:bf} {m:MS} {t:Nat} {n:Node} {d:fZ} {ab:Nat} {L:ML} {H:Hp} (h:qB u m t n d ab L H):cO.dM H 6 (.pt ab 1 0 0)=kg u m t n d:=by
 obtain⟨dd,hr⟩:=h.row
 rw[show cO.dM H 6 (.pt ab 1 0 0)= .ip 21 .any (([.agg (AC (.pt L.mr 1 0 0) t n d)]:List AV).map (cO.dM H 5)) 0 0 from JU hr rfl]
 simp only[List.map_cons,List.map_nil]
 rw[rv]
 simp only[AC,List.map_cons,List.map_nil]
 have:=h.M.zW 0
 rw[this]
 simp only[cO.dM]
 rfl
theorem qB.cE {u:bf} {m:MS} {t:Nat} {n:Node} {d:fZ} {ab:Nat} {L:ML} {H H':Hp} (h:qB u m t n d ab L H) (hk:∀y∈ab::L.all,bd H' y=bd H y):qB u m t n d ab L H':=by
 obtain⟨dd,hr⟩:=h.row
 exact⟨h.M.cE fun y hy=>hk y (List.mem_cons_of_mem _ hy),⟨dd,(hk ab (by simp)).trans hr⟩,h.out⟩
def kd (m:MS) (t:Nat) (v:ja):Prop:=v.gp=true→0≤v.slot∧v.slot<(m.bg.getD t []).length
theorem gT (u:bf) (m:MS) {t:Nat} (n:Node) (d:fZ) (v:ja) (ht:t<m.bg.length) (hl:m.bg.length≤8) (hv:kd m t v):Pure Tryz.prog 122 [kg u m t n d,v.av] (fun r=>r=i64 (m.val t v)):=by
 unfold MS.val
 have e0:∀d,(m.bg.map cw).getD ((t:Int)).toNat d=cw (m.bg.getD t []):=fun d=>by rw[Int.toNat_natCast];exact dP cw m.bg t d ht
 have a0:(m.bg.map cw).length=m.bg.length:=by simp
 cases hs:v.gp with
 |true=>
  have r0:=hs
  obtain⟨v1,v2⟩:=hv hs
  have a1:((m.bg.getD t []).map i64).length=(m.bg.getD t []).length:=by simp
  have e1:=fun d=>lz (l:=m.bg.getD t []) (k:=v.slot) (by omega) d
  rw[if_pos rfl]
  refine aI qh rfl ?_
  refine cQ ?_
  first|exact rfl|trivial
 |false=>
  have r0:=hs
  rw[if_neg (by decide)]
  refine aI qh rfl ?_
  refine cQ ?_
  first|exact rfl|trivial
abbrev pe (u:bf) (m:MS) (t:Nat) (n:Node) (d:fZ) (ab:Nat) (L:ML) (H0:Hp) (nx:Nat) (H:Hp) (k:Nat):Prop:=qB u m t n d ab L H∧nx≤k∧∀y,y<nx→y≠ab→y∉L.all→bd H y=bd H0 y
theorem EL {L:ML} {m:MS} {t:Nat} (hl:L.ids.length=m.bg.length) (ht:t<m.bg.length) (d:AV):(dh L.ids m.bg).getD t d= .sl (L.it t) (m.bg.getD t []).length:=by
 have h1:t<L.ids.length:=by omega
 have h2:t<(L.ids.zip m.bg).length:=by rw[List.length_zip];omega
 simp[dh,List.getD,ht,h1,List.getElem?_eq_getElem h2]
theorem qu {L:ML} {m:MS} (hl:L.ids.length=m.bg.length):(dh L.ids m.bg).length=m.bg.length:=by
 unfold dh;rw[List.length_map,List.length_zip,hl];simp
theorem cr {x y:Nat} {l:List Nat} (h:x∉l) (hy:y∈l):y≠x:=fun e=>h (e▸hy)
set_option maxHeartbeats 1000000 in
theorem iu {u:bf} {m:MS} {t:Nat} {n:Node} {d:fZ} {ab:Nat} {L:ML} {H:Hp} {nx:Nat} (h:qB u m t n d ab L H) (hlt:∀y∈ab::L.all,y<nx) (ht:t<m.bg.length) (hl:m.bg.length≤8) (hs:0≤n.slot∧n.slot<(m.bg.getD t []).length) (w:Int):
 cD Tryz.prog 126 [.pt ab 1 0 0,i64 w] H nx (fun _ H' k=>pe u (m.fU t n.slot w) t n { d with word:=w } ab L H nx H' k):=by
 obtain⟨hM,⟨dd,ra⟩,hout⟩:=h
 obtain⟨⟨a1,a2,a3,a4,a5,b1,b2,b3,b4,c1,c2,c3,e1,e2,f1⟩,n1,n2,n3,n4,n5,n6⟩:=apart hM ht
 have hmem:=hM.mem
 have k0:=hlt ab (by simp)
 have km:=hlt L.mr (by simp)
 have ks:=hlt L.s (List.mem_cons_of_mem _ (hmem _ (by simp)))
 have ki:=hlt (L.it t) (List.mem_cons_of_mem _ (jU hM ht))
 have o1:=cr hout (List.mem_cons_self (a:=L.mr))
 have o2:=cr hout (hmem L.s (by simp))
 have o3:=cr hout (jU hM ht)
 obtain⟨d1,r1⟩:=hM.rM
 obtain⟨d3,r3⟩:=hM.rS
 obtain⟨d7,r7⟩:=hM.rL t ht
 have e0:∀d,(dh L.ids m.bg).getD ((t:Int)).toNat d= .sl (L.it t) (m.bg.getD t []).length:=fun d=>by rw[Int.toNat_natCast];exact EL hM.len ht d
 have q0:=qu hM.len
 have q1:((m.bg.getD t []).map i64).length=(m.bg.getD t []).length:=by simp
 obtain⟨hs1,hs2⟩:=hs
 refine aQ uM rfl ?_
 refine cQ ?_
 exact⟨⟨hM.fU ht _ _ ⟨_,bh⟩ fun y hy hne=>by have:=cr hout hy;exact bq,⟨_,bh⟩,hout⟩,cZ,fun y y1 y2 y3=>by have y4:=cr y3 (jU hM ht);exact bq⟩
end Go.Proofs.YtekfmjjmihomlaaGreat
end
section
/- An action at work: the kinds of nodes. -/
namespace Go.Proofs.YtekfmjjmihomlaaGreat
open Go Go.cO Go.Proofs
set_option linter.unusedSimpArgs false
set_option linter.unusedVariables false
set_option maxRecDepth 8000
set_option maxHeartbeats 2000000
theorem zw {u:bf} {m:MS} {t:Nat} {n:Node} {d:fZ} {ab:Nat} {L:ML} {H:Hp} {nx:Nat} (h:qB u m t n d ab L H) (hlt:∀y∈ab::L.all,y<nx) (ht:t<m.bg.length) (hl:m.bg.length≤8) (hth:0≤n.cH∧n.cH<m.hold.length):
 cD Tryz.prog 86 [.pt ab 1 0 0] H nx (fun r H' k=>r=i64 n.next∧pe u { m with hold:=m.hold.set n.cH.toNat t } t n { d with cH:=n.cH } ab L H nx H' k):=by
 have hfr:∀(v:ja) (H1:Hp),(∀y∈ab::L.all,bd H1 y=bd H y)→[.pt ab 1 0 0,v.av].map (cO.dM H1 6)=[kg u m t n d,v.av]:=fun v H1 h1=>by
  rw[List.map_cons,List.map_cons,List.map_nil,(h.cE h1).dM,dY _ (show bx 0 v.av by simp[bx])]
 have h0:=h
 obtain⟨hM,⟨dd,ra⟩,hout⟩:=h
 obtain⟨⟨a1,a2,a3,a4,a5,b1,b2,b3,b4,c1,c2,c3,e1',e2',f1⟩,n1,n2,n3,n4,n5,n6⟩:=apart hM ht
 have hmem:=hM.mem
 have k0:=hlt ab (by simp)
 have km:=hlt L.mr (by simp)
 have ke:=hlt L.me (List.mem_cons_of_mem _ (hmem _ (by simp)))
 have kh:=hlt L.ho (List.mem_cons_of_mem _ (hmem _ (by simp)))
 have kp:=hlt L.pr (List.mem_cons_of_mem _ (hmem _ (by simp)))
 have o1:=cr hout (List.mem_cons_self (a:=L.mr))
 have o2:=cr hout (hmem L.me (by simp))
 have o3:=cr hout (hmem L.ho (by simp))
 have o4:=cr hout (hmem L.pr (by simp))
 clear a1 a2 a4 b1 b2 b3 b4 c1 c2 c3 e1' e2' f1 n1 n2 n3 n4 n5 n6
 obtain⟨d1,r1⟩:=hM.rM
 obtain⟨d3,r4⟩:=hM.rE
 obtain⟨d5,r5⟩:=hM.rH
 obtain⟨d6,r6⟩:=hM.rP
 have q1:(m.mem.map i64).length=m.mem.length:=by simp
 have q2:(m.hold.map i64).length=m.hold.length:=by simp
 have q3:(m.bn.map cY.av).length=m.bn.length:=by simp
 refine aQ DU rfl ?_
 refine cQ ?_
 exact⟨⟨rfl,⟨hM.IU ht _ _ ⟨_,bh⟩ fun y hy hne=>by have:=cr hout hy;exact bq,⟨_,bh⟩,hout⟩,cZ,fun y y1 y2 y3=>by have y4:=cr y3 (hmem L.ho (by simp));exact bq⟩⟩
theorem vV {u:bf} {m:MS} {t:Nat} {n:Node} {d:fZ} {ab:Nat} {L:ML} {H:Hp} {nx:Nat} (h:qB u m t n d ab L H) (hlt:∀y∈ab::L.all,y<nx) (ht:t<m.bg.length) (hl:m.bg.length≤8) (hth:0≤n.cH∧n.cH<m.hold.length):
 cD Tryz.prog 87 [.pt ab 1 0 0] H nx (fun r H' k=>r=i64 n.next∧pe u { m with hold:=m.hold.set n.cH.toNat (-1) } t n { d with cH:=n.cH } ab L H nx H' k):=by
 have hfr:∀(v:ja) (H1:Hp),(∀y∈ab::L.all,bd H1 y=bd H y)→[.pt ab 1 0 0,v.av].map (cO.dM H1 6)=[kg u m t n d,v.av]:=fun v H1 h1=>by
  rw[List.map_cons,List.map_cons,List.map_nil,(h.cE h1).dM,dY _ (show bx 0 v.av by simp[bx])]
 have h0:=h
 obtain⟨hM,⟨dd,ra⟩,hout⟩:=h
 obtain⟨⟨a1,a2,a3,a4,a5,b1,b2,b3,b4,c1,c2,c3,e1',e2',f1⟩,n1,n2,n3,n4,n5,n6⟩:=apart hM ht
 have hmem:=hM.mem
 have k0:=hlt ab (by simp)
 have km:=hlt L.mr (by simp)
 have ke:=hlt L.me (List.mem_cons_of_mem _ (hmem _ (by simp)))
 have kh:=hlt L.ho (List.mem_cons_of_mem _ (hmem _ (by simp)))
 have kp:=hlt L.pr (List.mem_cons_of_mem _ (hmem _ (by simp)))
 have o1:=cr hout (List.mem_cons_self (a:=L.mr))
 have o2:=cr hout (hmem L.me (by simp))
 have o3:=cr hout (hmem L.ho (by simp))
 have o4:=cr hout (hmem L.pr (by simp))
 clear a1 a2 a4 b1 b2 b3 b4 c1 c2 c3 e1' e2' f1 n1 n2 n3 n4 n5 n6
 obtain⟨d1,r1⟩:=hM.rM
 obtain⟨d3,r4⟩:=hM.rE
 obtain⟨d5,r5⟩:=hM.rH
 obtain⟨d6,r6⟩:=hM.rP
 have q1:(m.mem.map i64).length=m.mem.length:=by simp
 have q2:(m.hold.map i64).length=m.hold.length:=by simp
 have q3:(m.bn.map cY.av).length=m.bn.length:=by simp
 refine aQ DV rfl ?_
 refine cQ ?_
 exact⟨⟨rfl,⟨hM.IU ht _ _ ⟨_,bh⟩ fun y hy hne=>by have:=cr hout hy;exact bq,⟨_,bh⟩,hout⟩,cZ,fun y y1 y2 y3=>by have y4:=cr y3 (hmem L.ho (by simp));exact bq⟩⟩
theorem tE {u:bf} {m:MS} {t:Nat} {n:Node} {d:fZ} {ab:Nat} {L:ML} {H:Hp} {nx:Nat} (h:qB u m t n d ab L H) (hlt:∀y∈ab::L.all,y<nx) (ht:t<m.bg.length) (hl:m.bg.length≤8) (hva:kd m t n.a):
 cD Tryz.prog 89 [.pt ab 1 0 0] H nx (fun r H' k=>r=i64 (if m.val t n.a=0 then n.oc else n.next)∧pe u m t n { d with word:=m.val t n.a } ab L H nx H' k):=by
 have hfr:∀(v:ja) (H1:Hp),(∀y∈ab::L.all,bd H1 y=bd H y)→[.pt ab 1 0 0,v.av].map (cO.dM H1 6)=[kg u m t n d,v.av]:=fun v H1 h1=>by
  rw[List.map_cons,List.map_cons,List.map_nil,(h.cE h1).dM,dY _ (show bx 0 v.av by simp[bx])]
 have h0:=h
 obtain⟨hM,⟨dd,ra⟩,hout⟩:=h
 obtain⟨⟨a1,a2,a3,a4,a5,b1,b2,b3,b4,c1,c2,c3,e1',e2',f1⟩,n1,n2,n3,n4,n5,n6⟩:=apart hM ht
 have hmem:=hM.mem
 have k0:=hlt ab (by simp)
 have km:=hlt L.mr (by simp)
 have ke:=hlt L.me (List.mem_cons_of_mem _ (hmem _ (by simp)))
 have kh:=hlt L.ho (List.mem_cons_of_mem _ (hmem _ (by simp)))
 have kp:=hlt L.pr (List.mem_cons_of_mem _ (hmem _ (by simp)))
 have o1:=cr hout (List.mem_cons_self (a:=L.mr))
 have o2:=cr hout (hmem L.me (by simp))
 have o3:=cr hout (hmem L.ho (by simp))
 have o4:=cr hout (hmem L.pr (by simp))
 clear a1 a2 a4 b1 b2 b3 b4 c1 c2 c3 e1' e2' f1 n1 n2 n3 n4 n5 n6
 obtain⟨d1,r1⟩:=hM.rM
 obtain⟨d3,r4⟩:=hM.rE
 obtain⟨d5,r5⟩:=hM.rH
 obtain⟨d6,r6⟩:=hM.rP
 have q1:(m.mem.map i64).length=m.mem.length:=by simp
 have q2:(m.hold.map i64).length=m.hold.length:=by simp
 have q3:(m.bn.map cY.av).length=m.bn.length:=by simp
 by_cases hz:m.val t n.a=0
 ·rw[if_pos hz]
  refine aQ zq rfl ?_
  refine cQ ?_
  refine aT (gT u m n d n.a ht hl hva) (hfr n.a _ ?_) (by simp[cK,bx]) trivial ?_
  ·exact fun y hy=>rfl
  refine cQ ?_
  exact⟨⟨rfl,⟨hM.cE fun y hy=>by have:=cr hout hy;exact bq,⟨_,bh⟩,hout⟩,cZ,fun y y1 y2 y3=>bq⟩⟩
 ·rw[if_neg hz]
  refine aQ zq rfl ?_
  refine cQ ?_
  refine aT (gT u m n d n.a ht hl hva) (hfr n.a _ ?_) (by simp[cK,bx]) trivial ?_
  ·exact fun y hy=>rfl
  refine cQ ?_
  exact⟨⟨rfl,⟨hM.cE fun y hy=>by have:=cr hout hy;exact bq,⟨_,bh⟩,hout⟩,cZ,fun y y1 y2 y3=>bq⟩⟩
theorem zu {u:bf} {m:MS} {t:Nat} {n:Node} {d:fZ} {ab:Nat} {L:ML} {H:Hp} {nx:Nat} (h:qB u m t n d ab L H) (hlt:∀y∈ab::L.all,y<nx) (ht:t<m.bg.length) (hl:m.bg.length≤8) (hs:0≤n.slot∧n.slot<(m.bg.getD t []).length) (hth:0≤n.cH∧n.cH<m.mem.length):
 cD Tryz.prog 83 [.pt ab 1 0 0] H nx (fun r H' k=>r=i64 n.next∧pe u (m.fU t n.slot (m.mem.getD n.cH.toNat 0)) t n { d with cH:=n.cH,word:=m.mem.getD n.cH.toNat 0 } ab L H nx H' k):=by
 have hfr:∀(v:ja) (H1:Hp),(∀y∈ab::L.all,bd H1 y=bd H y)→[.pt ab 1 0 0,v.av].map (cO.dM H1 6)=[kg u m t n d,v.av]:=fun v H1 h1=>by
  rw[List.map_cons,List.map_cons,List.map_nil,(h.cE h1).dM,dY _ (show bx 0 v.av by simp[bx])]
 have h0:=h
 obtain⟨hM,⟨dd,ra⟩,hout⟩:=h
 obtain⟨⟨a1,a2,a3,a4,a5,b1,b2,b3,b4,c1,c2,c3,e1',e2',f1⟩,n1,n2,n3,n4,n5,n6⟩:=apart hM ht
 have hmem:=hM.mem
 have k0:=hlt ab (by simp)
 have km:=hlt L.mr (by simp)
 have ke:=hlt L.me (List.mem_cons_of_mem _ (hmem _ (by simp)))
 have kh:=hlt L.ho (List.mem_cons_of_mem _ (hmem _ (by simp)))
 have kp:=hlt L.pr (List.mem_cons_of_mem _ (hmem _ (by simp)))
 have o1:=cr hout (List.mem_cons_self (a:=L.mr))
 have o2:=cr hout (hmem L.me (by simp))
 have o3:=cr hout (hmem L.ho (by simp))
 have o4:=cr hout (hmem L.pr (by simp))
 clear a1 a2 a4 b1 b2 b3 b4 c1 c2 c3 e1' e2' f1 n1 n2 n3 n4 n5 n6
 obtain⟨d1,r1⟩:=hM.rM
 obtain⟨d3,r4⟩:=hM.rE
 obtain⟨d5,r5⟩:=hM.rH
 obtain⟨d6,r6⟩:=hM.rP
 have q1:(m.mem.map i64).length=m.mem.length:=by simp
 have q2:(m.hold.map i64).length=m.hold.length:=by simp
 have q3:(m.bn.map cY.av).length=m.bn.length:=by simp
 have e0:=fun d=>lz (l:=m.mem) (k:=n.cH) (by omega) d
 refine aQ DR rfl ?_
 refine cQ ?_
 refine aJ (iu (u:=u) (t:=t) (n:=n) (d:={ d with cH:=n.cH }) (L:=L) (m:=m) (ab:=ab) ?_ ?_ ht hl hs _) ?_
 ·exact⟨hM.cE fun y hy=>by have:=cr hout hy;exact bq,⟨_,bh⟩,hout⟩
 ·exact fun y hy=>Nat.lt_of_lt_of_le (hlt y hy) cZ
 rintro _ H2 n2 ⟨hA,hn2,hk2⟩
 obtain⟨dd2,ra2⟩:=hA.row
 refine cQ ?_
 exact⟨⟨rfl,hA.cE fun y hy=>bq,cZ,fun y y1 y2 y3=>Eq.trans bq ((hk2 y (Nat.lt_of_lt_of_le y1 cZ) y2 y3).trans bq)⟩⟩
theorem xS {u:bf} {m:MS} {t:Nat} {n:Node} {d:fZ} {ab:Nat} {L:ML} {H:Hp} {nx:Nat} (h:qB u m t n d ab L H) (hlt:∀y∈ab::L.all,y<nx) (ht:t<m.bg.length) (hl:m.bg.length≤8) (hva:kd m t n.a) (hth:0≤n.cH∧n.cH<m.mem.length):
 cD Tryz.prog 84 [.pt ab 1 0 0] H nx (fun r H' k=>r=i64 n.next∧pe u { m with mem:=m.mem.set n.cH.toNat (m.val t n.a) } t n { d with cH:=n.cH,word:=m.val t n.a } ab L H nx H' k):=by
 have hfr:∀(v:ja) (H1:Hp),(∀y∈ab::L.all,bd H1 y=bd H y)→[.pt ab 1 0 0,v.av].map (cO.dM H1 6)=[kg u m t n d,v.av]:=fun v H1 h1=>by
  rw[List.map_cons,List.map_cons,List.map_nil,(h.cE h1).dM,dY _ (show bx 0 v.av by simp[bx])]
 have h0:=h
 obtain⟨hM,⟨dd,ra⟩,hout⟩:=h
 obtain⟨⟨a1,a2,a3,a4,a5,b1,b2,b3,b4,c1,c2,c3,e1',e2',f1⟩,n1,n2,n3,n4,n5,n6⟩:=apart hM ht
 have hmem:=hM.mem
 have k0:=hlt ab (by simp)
 have km:=hlt L.mr (by simp)
 have ke:=hlt L.me (List.mem_cons_of_mem _ (hmem _ (by simp)))
 have kh:=hlt L.ho (List.mem_cons_of_mem _ (hmem _ (by simp)))
 have kp:=hlt L.pr (List.mem_cons_of_mem _ (hmem _ (by simp)))
 have o1:=cr hout (List.mem_cons_self (a:=L.mr))
 have o2:=cr hout (hmem L.me (by simp))
 have o3:=cr hout (hmem L.ho (by simp))
 have o4:=cr hout (hmem L.pr (by simp))
 clear a1 a2 a4 b1 b2 b3 b4 c1 c2 c3 e1' e2' f1 n1 n2 n3 n4 n5 n6
 obtain⟨d1,r1⟩:=hM.rM
 obtain⟨d3,r4⟩:=hM.rE
 obtain⟨d5,r5⟩:=hM.rH
 obtain⟨d6,r6⟩:=hM.rP
 have q1:(m.mem.map i64).length=m.mem.length:=by simp
 have q2:(m.hold.map i64).length=m.hold.length:=by simp
 have q3:(m.bn.map cY.av).length=m.bn.length:=by simp
 refine aQ DS rfl ?_
 refine cQ ?_
 refine aX (ab::L.all) (gT u m n d n.a ht hl hva) (fun H1 h1=>hfr n.a H1 h1) (by simp[cK,bx]) trivial ?_
 refine Eq.mpr (pO (ab::L.all) _) (p7 ?_)
 refine cQ ?_
 exact⟨⟨rfl,⟨hM.hP ht _ _ ⟨_,bh⟩ fun y hy hne=>by have:=cr hout hy;exact bq,⟨_,bh⟩,hout⟩,cZ,fun y y1 y2 y3=>by have y4:=cr y3 (hmem L.me (by simp));exact bq⟩⟩
theorem wu {u:bf} {m:MS} {t:Nat} {n:Node} {d:fZ} {ab:Nat} {L:ML} {H:Hp} {nx:Nat} (h:qB u m t n d ab L H) (hlt:∀y∈ab::L.all,y<nx) (ht:t<m.bg.length) (hl:m.bg.length≤8) (hva:kd m t n.a) (hpl:m.bn.length≤1048576):
 cD Tryz.prog 88 [.pt ab 1 0 0] H nx (fun r H' k=>r=i64 n.next∧pe u { m with bn:=m.bn++[⟨t,m.val t n.a⟩] } t n { d with word:=m.val t n.a } ab L H nx H' k):=by
 have hfr:∀(v:ja) (H1:Hp),(∀y∈ab::L.all,bd H1 y=bd H y)→[.pt ab 1 0 0,v.av].map (cO.dM H1 6)=[kg u m t n d,v.av]:=fun v H1 h1=>by
  rw[List.map_cons,List.map_cons,List.map_nil,(h.cE h1).dM,dY _ (show bx 0 v.av by simp[bx])]
 have h0:=h
 obtain⟨hM,⟨dd,ra⟩,hout⟩:=h
 obtain⟨⟨a1,a2,a3,a4,a5,b1,b2,b3,b4,c1,c2,c3,e1',e2',f1⟩,n1,n2,n3,n4,n5,n6⟩:=apart hM ht
 have hmem:=hM.mem
 have k0:=hlt ab (by simp)
 have km:=hlt L.mr (by simp)
 have ke:=hlt L.me (List.mem_cons_of_mem _ (hmem _ (by simp)))
 have kh:=hlt L.ho (List.mem_cons_of_mem _ (hmem _ (by simp)))
 have kp:=hlt L.pr (List.mem_cons_of_mem _ (hmem _ (by simp)))
 have o1:=cr hout (List.mem_cons_self (a:=L.mr))
 have o2:=cr hout (hmem L.me (by simp))
 have o3:=cr hout (hmem L.ho (by simp))
 have o4:=cr hout (hmem L.pr (by simp))
 clear a1 a2 a4 b1 b2 b3 b4 c1 c2 c3 e1' e2' f1 n1 n2 n3 n4 n5 n6
 obtain⟨d1,r1⟩:=hM.rM
 obtain⟨d3,r4⟩:=hM.rE
 obtain⟨d5,r5⟩:=hM.rH
 obtain⟨d6,r6⟩:=hM.rP
 have q1:(m.mem.map i64).length=m.mem.length:=by simp
 have q2:(m.hold.map i64).length=m.hold.length:=by simp
 have q3:(m.bn.map cY.av).length=m.bn.length:=by simp
 refine aQ DW rfl ?_
 refine cQ ?_
 refine aT (gT u m n d n.a ht hl hva) (hfr n.a _ ?_) (by simp[cK,bx]) trivial ?_
 ·exact fun y hy=>rfl
 refine cQ ?_
 exact⟨⟨rfl,⟨hM.J6 ht _ ⟨_,by simp only[MS.rows,List.length_append,List.length_cons,List.length_nil];exact bh⟩ ⟨_,bh⟩ fun y hy hne hn2=>by have:=cr hout hy;have:=hlt y (List.mem_cons_of_mem _ hy);exact bq,⟨_,bh⟩,hout⟩,cZ,fun y y1 y2 y3=>by have y4:=cr y3 (List.mem_cons_self (a:=L.mr));have y5:=cr y3 (hmem L.pr (by simp));exact bq⟩⟩
theorem AQ {u:bf} {m:MS} {t:Nat} {n:Node} {d:fZ} {ab:Nat} {L:ML} {H:Hp} {nx:Nat} (h:qB u m t n d ab L H) (hlt:∀y∈ab::L.all,y<nx) (ht:t<m.bg.length) (hl:m.bg.length≤8) (hva:kd m t n.a) (hs:0≤n.slot∧n.slot<(m.bg.getD t []).length) (hth:0≤n.cH∧n.cH<m.mem.length):
 cD Tryz.prog 85 [.pt ab 1 0 0] H nx (fun r H' k=>r=i64 n.next∧pe u { m.fU t n.slot (m.mem.getD n.cH.toNat 0) with mem:=m.mem.set n.cH.toNat (m.val t n.a) } t n { d with cH:=n.cH,word:=m.mem.getD n.cH.toNat 0,put:=m.val t n.a } ab L H nx H' k):=by
 have hfr:∀(v:ja) (H1:Hp),(∀y∈ab::L.all,bd H1 y=bd H y)→[.pt ab 1 0 0,v.av].map (cO.dM H1 6)=[kg u m t n d,v.av]:=fun v H1 h1=>by
  rw[List.map_cons,List.map_cons,List.map_nil,(h.cE h1).dM,dY _ (show bx 0 v.av by simp[bx])]
 have h0:=h
 obtain⟨hM,⟨dd,ra⟩,hout⟩:=h
 obtain⟨⟨a1,a2,a3,a4,a5,b1,b2,b3,b4,c1,c2,c3,e1',e2',f1⟩,n1,n2,n3,n4,n5,n6⟩:=apart hM ht
 have hmem:=hM.mem
 have k0:=hlt ab (by simp)
 have km:=hlt L.mr (by simp)
 have ke:=hlt L.me (List.mem_cons_of_mem _ (hmem _ (by simp)))
 have kh:=hlt L.ho (List.mem_cons_of_mem _ (hmem _ (by simp)))
 have kp:=hlt L.pr (List.mem_cons_of_mem _ (hmem _ (by simp)))
 have o1:=cr hout (List.mem_cons_self (a:=L.mr))
 have o2:=cr hout (hmem L.me (by simp))
 have o3:=cr hout (hmem L.ho (by simp))
 have o4:=cr hout (hmem L.pr (by simp))
 clear a1 a2 a4 b1 b2 b3 b4 c1 c2 c3 e1' e2' f1 n1 n2 n3 n4 n5 n6
 obtain⟨d1,r1⟩:=hM.rM
 obtain⟨d3,r4⟩:=hM.rE
 obtain⟨d5,r5⟩:=hM.rH
 obtain⟨d6,r6⟩:=hM.rP
 have q1:(m.mem.map i64).length=m.mem.length:=by simp
 have q2:(m.hold.map i64).length=m.hold.length:=by simp
 have q3:(m.bn.map cY.av).length=m.bn.length:=by simp
 have e0:=fun d=>lz (l:=m.mem) (k:=n.cH) (by omega) d
 refine aQ DT rfl ?_
 refine cQ ?_
 refine aX (ab::L.all) (gT u m n d n.a ht hl hva) (fun H1 h1=>hfr n.a H1 h1) (by simp[cK,bx]) trivial ?_
 refine Eq.mpr (pO (ab::L.all) _) (p7 ?_)
 refine cQ ?_
 refine aJ (iu (u:=u) (t:=t) (n:=n) (d:={ d with cH:=n.cH,put:=m.val t n.a }) (L:=L) (m:=m) (ab:=ab) ?_ ?_ ht hl hs _) ?_
 ·exact⟨hM.cE fun y hy=>by have:=cr hout hy;exact bq,⟨_,bh⟩,hout⟩
 ·exact fun y hy=>Nat.lt_of_lt_of_le (hlt y hy) cZ
 rintro _ H2 n2 ⟨hA,hn2,hk2⟩
 obtain⟨dd2,ra2⟩:=hA.row
 obtain⟨d8,r8⟩:=hA.M.rM
 obtain⟨d9,r9⟩:=hA.M.rE
 refine cQ ?_
 have ht2:t<(m.fU t n.slot (m.mem.getD n.cH.toNat 0)).bg.length:=by simp only[MS.fU,List.length_set];exact ht
 exact⟨⟨rfl,⟨hA.M.hP ht2 _ _ ⟨_,bh⟩ fun y hy hne=>by have:=cr hout hy;exact bq,⟨_,bh⟩,hout⟩,cZ,fun y y1 y2 y3=>by have y4:=cr y3 (hmem L.me (by simp));exact Eq.trans bq ((hk2 y (Nat.lt_of_lt_of_le y1 cZ) y2 y3).trans bq)⟩⟩
theorem EK {u:bf} {m:MS} {t:Nat} {n:Node} {d:fZ} {ab:Nat} {L:ML} {H:Hp} {nx:Nat} (h:qB u m t n d ab L H) (hlt:∀y∈ab::L.all,y<nx) (ht:t<m.bg.length) (hl:m.bg.length≤8) (hs:0≤n.slot∧n.slot<(m.bg.getD t []).length) (hva:kd m t n.a) (hvb:dJ n.op=true→kd m t n.b) (hop:0≤n.op∧n.op<19):
 cD Tryz.prog 82 [.pt ab 1 0 0] H nx (fun r H' k=>r=i64 n.next∧pe u (m.fU t n.slot (m.xJ t n)) t n { d with word:=m.xJ t n } ab L H nx H' k):=by
 have hfr:∀(v:ja) (H1:Hp),(∀y∈ab::L.all,bd H1 y=bd H y)→[.pt ab 1 0 0,v.av].map (cO.dM H1 6)=[kg u m t n d,v.av]:=fun v H1 h1=>by
  rw[List.map_cons,List.map_cons,List.map_nil,(h.cE h1).dM,dY _ (show bx 0 v.av by simp[bx])]
 have h0:=h
 obtain⟨hM,⟨dd,ra⟩,hout⟩:=h
 obtain⟨⟨a1,a2,a3,a4,a5,b1,b2,b3,b4,c1,c2,c3,e1',e2',f1⟩,n1,n2,n3,n4,n5,n6⟩:=apart hM ht
 have hmem:=hM.mem
 have k0:=hlt ab (by simp)
 have km:=hlt L.mr (by simp)
 have ke:=hlt L.me (List.mem_cons_of_mem _ (hmem _ (by simp)))
 have kh:=hlt L.ho (List.mem_cons_of_mem _ (hmem _ (by simp)))
 have kp:=hlt L.pr (List.mem_cons_of_mem _ (hmem _ (by simp)))
 have o1:=cr hout (List.mem_cons_self (a:=L.mr))
 have o2:=cr hout (hmem L.me (by simp))
 have o3:=cr hout (hmem L.ho (by simp))
 have o4:=cr hout (hmem L.pr (by simp))
 clear a1 a2 a4 b1 b2 b3 b4 c1 c2 c3 e1' e2' f1 n1 n2 n3 n4 n5 n6
 obtain⟨d1,r1⟩:=hM.rM
 obtain⟨d3,r4⟩:=hM.rE
 obtain⟨d5,r5⟩:=hM.rH
 obtain⟨d6,r6⟩:=hM.rP
 have q1:(m.mem.map i64).length=m.mem.length:=by simp
 have q2:(m.hold.map i64).length=m.hold.length:=by simp
 have q3:(m.bn.map cY.av).length=m.bn.length:=by simp
 have c0:=eP n.op hop.1
 unfold MS.xJ
 cases h2:dJ n.op with
 |true=>
  rw[h2] at c0
  have c1:=I5 n.op (m.val t n.a) (m.val t n.b) h2
  have hvb:=hvb h2
  rw[if_pos rfl]
  refine aQ w3 rfl ?_
  refine cQ ?_
  refine aT (gT u m n d n.a ht hl hva) (hfr n.a _ ?_) (by simp[cK,bx]) trivial ?_
  ·exact fun y hy=>rfl
  refine cQ ?_
  refine aX (ab::L.all) (gT u m n d n.b ht hl hvb) (fun H1 h1=>hfr n.b H1 h1) (by simp[cK,bx]) trivial ?_
  refine Eq.mpr (pO (ab::L.all) _) (p7 ?_)
  refine cQ ?_
  refine aJ (iu (u:=u) (t:=t) (n:=n) (d:=d) (L:=L) (m:=m) (ab:=ab) ?_ ?_ ht hl hs _) ?_
  ·exact⟨hM.cE fun y hy=>by have:=cr hout hy;exact bq,⟨_,bh⟩,hout⟩
  ·exact fun y hy=>Nat.lt_of_lt_of_le (hlt y hy) cZ
  rintro _ H2 n2 ⟨hA,hn2,hk2⟩
  obtain⟨dd2,ra2⟩:=hA.row
  refine cQ ?_
  exact⟨⟨rfl,hA.cE fun y hy=>bq,cZ,fun y y1 y2 y3=>Eq.trans bq ((hk2 y (Nat.lt_of_lt_of_le y1 cZ) y2 y3).trans bq)⟩⟩
 |false=>
  rw[h2] at c0
  rw[if_neg (by decide)]
  by_cases h0':n.op=0
  ·rw[if_neg (fun e=>e h0')]
   refine aQ w3 rfl ?_
   refine cQ ?_
   refine aT (gT u m n d n.a ht hl hva) (hfr n.a _ ?_) (by simp[cK,bx]) trivial ?_
   ·exact fun y hy=>rfl
   refine cQ ?_
   refine aJ (iu (u:=u) (t:=t) (n:=n) (d:=d) (L:=L) (m:=m) (ab:=ab) ?_ ?_ ht hl hs _) ?_
   ·exact⟨hM.cE fun y hy=>by have:=cr hout hy;exact bq,⟨_,bh⟩,hout⟩
   ·exact fun y hy=>Nat.lt_of_lt_of_le (hlt y hy) cZ
   rintro _ H2 n2 ⟨hA,hn2,hk2⟩
   obtain⟨dd2,ra2⟩:=hA.row
   refine cQ ?_
   exact⟨⟨rfl,hA.cE fun y hy=>bq,cZ,fun y y1 y2 y3=>Eq.trans bq ((hk2 y (Nat.lt_of_lt_of_le y1 cZ) y2 y3).trans bq)⟩⟩
  ·rw[if_pos h0']
   have c1:=E7 n.op (m.val t n.a) (by unfold dJ at h2;simp only[Bool.and_eq_false_iff,decide_eq_false_iff_not] at h2;omega)
   refine aQ w3 rfl ?_
   refine cQ ?_
   refine aT (gT u m n d n.a ht hl hva) (hfr n.a _ ?_) (by simp[cK,bx]) trivial ?_
   ·exact fun y hy=>rfl
   refine cQ ?_
   refine aJ (iu (u:=u) (t:=t) (n:=n) (d:=d) (L:=L) (m:=m) (ab:=ab) ?_ ?_ ht hl hs _) ?_
   ·exact⟨hM.cE fun y hy=>by have:=cr hout hy;exact bq,⟨_,bh⟩,hout⟩
   ·exact fun y hy=>Nat.lt_of_lt_of_le (hlt y hy) cZ
   rintro _ H2 n2 ⟨hA,hn2,hk2⟩
   obtain⟨dd2,ra2⟩:=hA.row
   refine cQ ?_
   exact⟨⟨rfl,hA.cE fun y hy=>bq,cZ,fun y y1 y2 y3=>Eq.trans bq ((hk2 y (Nat.lt_of_lt_of_le y1 cZ) y2 y3).trans bq)⟩⟩
end Go.Proofs.YtekfmjjmihomlaaGreat
end
