import Derived.Test.YtekfmjjmihomlaaGreatM30
section
/- A step keeps a situation right. -/
namespace Go.Proofs.YtekfmjjmihomlaaGreat
open Go Go.cO Go.Proofs
set_option linter.unusedSimpArgs false
set_option linter.unusedVariables false
theorem pH (n:Int):dR (ru n):=by unfold dR ru;rw[IntKind.wrap_i64];omega
theorem IM {p:Prop} [Decidable p] {a b:Int} (h1:dR a) (h2:dR b):dR (if p then a else b):=by
 split
 ·exact h1
 ·exact h2
theorem HL (t:Bool):dR (tr t):=by unfold tr dR;split<;>omega
theorem GF {a:Int} (h:dR a) (b:Int):dR (GD a b):=by
 unfold GD
 have hd:(1:Int)≤2^(min (AF b).toNat 64):=Int.le_of_lt_add_one (by have:(0:Int)<2^(min (AF b).toNat 64):=Int.pow_pos (by omega);omega)
 generalize (2:Int)^(min (AF b).toNat 64)=d at *
 rw[Int.fdiv_eq_ediv_of_nonneg _ (by omega)]
 have h1:=Int.mul_ediv_add_emod a d
 have h2:=Int.emod_nonneg a (b:=d) (by omega)
 have h3:=Int.emod_lt_of_pos a (b:=d) (by omega)
 obtain⟨h4,h5⟩:=h
 generalize a /d=q at *
 generalize a%d=r at *
 constructor
 ·apply Int.not_lt.1
  intro hq
  have:d * (q+1)≤1 * (q+1):=Int.mul_le_mul_of_nonpos_right hd (by omega)
  rw[Int.mul_add] at this
  omega
 ·apply Int.not_le.1
  intro hq
  have:1 * q≤d * q:=Int.mul_le_mul_of_nonneg_right hd (by omega)
  omega
theorem GY {a b:Int} (ha:dR a) (op:Int):dR (GX op a b):=by
 have hq:dR (zH a b):=by
  unfold zH
  split
  ·exact⟨by omega,by omega⟩
  ·split
   ·exact pH _
   ·exact pH _
 have hm:dR (C0 a b):=by
  unfold C0
  split
  ·exact ha
  ·exact pH _
 unfold GX
 repeat' (with_reducible refine IM ?_ ?_)
 all_goals first
  |exact HL _
  |exact GF ha _
  |exact hq
  |exact hm
  |exact pH _
theorem F3 (op a:Int):dR (F2 op a):=by
 unfold F2
 split
 ·exact pH _
 ·exact HL _
theorem getD_none {α:Type} {l:List α} {k:Nat} {d:α} (h:l.length≤k):l.getD k d=d:=by simp[List.getD,List.getElem?_eq_none h]
section
variable {u:bh} {m:MS} {t:Nat}
theorem GG (h:eH u m) (ht:t<u.bj.length) (k:Nat):dR ((m.bg.getD t []).getD k 0):=by
 by_cases hk:k<(m.bg.getD t []).length
 ·exact h.wR t ht _ (cY 0 hk)
 ·rw[getD_none (Nat.le_of_not_lt hk)]
  exact⟨by omega,by omega⟩
theorem wZ (h:eH u m) (ht:t<u.bj.length) {v:kU} (hv:v.Wf):dR (m.val t v):=by
 unfold MS.val
 split
 ·exact GG h ht _
 ·exact hv.word
theorem GC (h:eH u m) (ht:t<u.bj.length) {n:Node} (hn:n.Wf):dR (m.wN t n):=by
 unfold MS.wN
 split
 ·exact GY (wZ h ht hn.a) _
 ·split
  ·exact F3 _ _
  ·exact wZ h ht hn.a
theorem lD {α:Type} {l:List α} {i:Nat} {a x:α} (h:x∈l.set i a):x∈l∨x=a:=by
 rcases List.mem_or_eq_of_mem_set h with h|h
 ·exact .inl h
 ·exact .inr h
theorem getD_set_ne {α:Type} {l:List α} {i j:Nat} {v d:α} (h:i≠j):(l.set i v).getD j d=l.getD j d:=by simp[List.getD,List.getElem?_set_ne h]
theorem eH.fM (h:eH u m) (k w:Int) (hw:dR w):eH u (m.fM t k w) where
 nw:=h.nw
 fp:=h.fp
 sl:=by simp only[MS.fM,List.length_set];exact h.sl
 wQ:=fun s hs=>by
  simp only[MS.fM]
  by_cases e:t=s
  ·subst e
   rw[eT (by rw[h.sl];exact hs),List.length_set]
   exact h.wQ t hs
  ·rw[getD_set_ne e];exact h.wQ s hs
 wR:=fun s hs x hx=>by
  simp only[MS.fM] at hx
  by_cases e:t=s
  ·subst e
   rw[eT (by rw[h.sl];exact hs)] at hx
   rcases lD hx with hx|rfl
   ·exact h.wR t hs x hx
   ·exact hw
  ·rw[getD_set_ne e] at hx;exact h.wR s hs x hx
 ml:=h.ml
 mw:=h.mw
 hl:=h.hl
 hw:=h.hw
 pw:=h.pw
theorem eH.mem (h:eH u m) (k:Nat) (w:Int) (hw:dR w):eH u { m with mem:=m.mem.set k w } where
 nw:=h.nw
 fp:=h.fp
 sl:=h.sl
 wQ:=h.wQ
 wR:=h.wR
 ml:=by simp only[List.length_set];exact h.ml
 mw:=fun x hx=>by
  rcases lD hx with hx|rfl
  ·exact h.mw x hx
  ·exact hw
 hl:=h.hl
 hw:=h.hw
 pw:=h.pw
theorem eH.hold (h:eH u m) (k:Nat) (w:Int) (hw:-1≤w∧w<u.bj.length):eH u { m with hold:=m.hold.set k w } where
 nw:=h.nw
 fp:=h.fp
 sl:=h.sl
 wQ:=h.wQ
 wR:=h.wR
 ml:=h.ml
 mw:=h.mw
 hl:=by simp only[List.length_set];exact h.hl
 hw:=fun x hx=>by
  rcases lD hx with hx|rfl
  ·exact h.hw x hx
  ·exact hw
 pw:=h.pw
theorem eH.print (h:eH u m) (p:cU) (hp:0≤p.cP∧p.cP<u.bj.length∧dR p.word):eH u { m with bn:=m.bn++[p] } where
 nw:=h.nw
 fp:=h.fp
 sl:=h.sl
 wQ:=h.wQ
 wR:=h.wR
 ml:=h.ml
 mw:=h.mw
 hl:=h.hl
 hw:=h.hw
 pw:=fun x hx=>by
  rcases List.mem_append.1 hx with hx|hx
  ·exact h.pw x hx
  ·simp only[List.mem_cons,List.not_mem_nil,or_false] at hx
   subst hx;exact hp
theorem eH.LR (h:eH u m) (k:Int) (hk:t<u.bj.length→0≤k∧k<(u.gr t).nodes.length):eH u { m with at_:=m.at_.set t k } where
 nw:=by simp only[List.length_set];exact h.nw
 fp:=fun s hs=>by
  by_cases e:t=s
  ·subst e
   dsimp only
   rw[eT (by rw[h.nw];exact hs)]
   exact hk hs
  ·dsimp only
   rw[getD_set_ne e];exact h.fp s hs
 sl:=h.sl
 wQ:=h.wQ
 wR:=h.wR
 ml:=h.ml
 mw:=h.mw
 hl:=h.hl
 hw:=h.hw
 pw:=h.pw
theorem nz (h:eH u m) (ht:t<u.bj.length) (hb:m.qn u t=0):(m.node u t).kind≠9∧¬((m.node u t).kind=5∧0≤m.hold.getD (m.node u t).cG.toNat 0):=by
 unfold MS.qn at hb
 rw[if_neg (by have:=h.nw;omega),Int.toNat_natCast] at hb
 refine⟨fun e=> ?_,fun e=> ?_⟩
 ·rw[if_pos e] at hb;cases hb
 ·rw[if_neg (by omega)] at hb
  rw[if_pos e] at hb
  cases hb
theorem xl (hu:u.Wf) (h:eH u m) (ht:t<u.bj.length):(m.node u t).Wf:=by
 have h1:=h.fp t ht
 exact(hu.bj _ (cY default ht)).nodes _ (cY default (show(m.at_.getD t 0).toNat<(u.gr t).nodes.length by omega))
theorem HZ (hu:u.Wf) (hr:cr u) (h:eH u m) (ht:t<u.bj.length):eH u (m.act t (m.node u t)).1:=by
 have hn:=h.node hr ht
 have hw:=xl hu h ht
 have hst:=GC h ht hw
 have hva:=wZ h ht hw.a
 have hmw:dR (m.mem.getD (m.node u t).cG.toNat 0):=by
  by_cases hk:(m.node u t).cG.toNat<m.mem.length
  ·exact h.mw _ (cY 0 hk)
  ·rw[getD_none (Nat.le_of_not_lt hk)];exact⟨by omega,by omega⟩
 generalize m.node u t=n at *
 unfold MS.act
 split
 ·exact h.fM _ _ hst
 split
 ·exact h.fM _ _ hmw
 split
 ·exact h.mem _ _ hva
 split
 ·exact(h.fM (t:=t) n.slot _ hmw).mem _ _ hva
 split
 ·exact h.hold _ _ ⟨by omega,by omega⟩
 split
 ·exact h.hold _ _ ⟨by omega,by omega⟩
 split
 ·exact h.print _ ⟨by dsimp only;omega,by dsimp only;omega,hva⟩
 ·exact h
theorem zl (hr:cr u) (h:eH u m) (ht:t<u.bj.length) (hk:(m.node u t).kind≠9):0≤(m.act t (m.node u t)).2.1∧(m.act t (m.node u t)).2.1<(u.gr t).nodes.length:=by
 have hn:=h.node hr ht
 generalize m.node u t=n at *
 have hkd:=hn.kind
 have hnx:=hn.next.1 (by unfold gn;exact decide_eq_true (by omega))
 unfold MS.act
 repeat' split
 all_goals first
  |exact hnx
  |exact hn.oJ.1 (by omega)
theorem xw (hu:u.Wf) (hr:cr u) (h:eH u m) (ht:t<u.bj.length) (hk:(m.node u t).kind≠9):eH u (m.step u t).1:=by
 have h1:=HZ hu hr h ht
 have h2:=zl hr h ht hk
 have h3:(m.step u t).1={ (m.act t (m.node u t)).1 with at_:=m.at_.set t (m.act t (m.node u t)).2.1 }:=rfl
 have h4:(m.act t (m.node u t)).1.at_=m.at_:=by
  unfold MS.act
  repeat' split
  all_goals rfl
 rw[h3,←h4]
 exact h1.LR _ fun _=>h2
end
end Go.Proofs.YtekfmjjmihomlaaGreat
end
section
/- The machine in rows: what a store makes of it. -/
namespace Go.Proofs.YtekfmjjmihomlaaGreat
open Go Go.cO Go.Proofs
set_option linter.unusedSimpArgs false
set_option linter.unusedVariables false
structure ML where
 mr:Nat
 a:Nat
 s:Nat
 me:Nat
 ho:Nat
 pr:Nat
 ids:List Nat
abbrev ML.all (L:ML):List Nat:=L.mr::L.a::L.s::L.me::L.ho::L.pr::L.ids
abbrev ML.it (L:ML) (t:Nat):Nat:=L.ids.getD t 0
abbrev ML.At (L:ML) (u:bh) (m:MS) (H:Hp):Prop:=JG u m L.mr L.a L.s L.me L.ho L.pr L.ids H
theorem JG.yW {u:bh} {m:MS} {mr a s me ho pr:Nat} {ids:List Nat} {H:Hp} (h:JG u m mr a s me ho pr ids H) (k:Nat):cO.dK H (k+4) (.pt mr 1 0 0)=m.fz u:=by
 obtain⟨d1,h1⟩:=h.rM
 obtain⟨d2,h2⟩:=h.rA
 obtain⟨d3,h3⟩:=h.rS
 obtain⟨d4,h4⟩:=h.rE
 obtain⟨d5,h5⟩:=h.rH
 obtain⟨d6,h6⟩:=h.rP
 have hsl:(dc ids m.bg).length=m.bg.length:=by unfold dc;rw[List.length_map,List.length_zip,h.len];simp
 have hs:(dc ids m.bg).map (cO.dK H (k+1))=m.bg.map ct:=by
  apply List.ext_getElem (by simp[hsl])
  intro t q1 q2
  have ht:t<m.bg.length:=by simpa using q2
  have hti:t<ids.length:=by rw[h.len];exact ht
  obtain⟨d,hd⟩:=h.rL t ht
  rw[show ids.getD t 0=ids[t] by simp[List.getD,hti],show m.bg.getD t []=m.bg[t] by simp[List.getD,ht]] at hd
  rw[List.getElem_map,List.getElem_map]
  simp only[dc,List.getElem_map,List.getElem_zip]
  rw[dt hd (by simp),dD _ ((cA _ _).2 fun _ _=>by simp[bz])]
 simp only[cO.dK,h1]
 simp only[List.length_cons,List.length_nil,if_true,List.map_cons,List.map_nil,MS.rows]
 rw[rC]
 simp only[List.map_cons,List.map_nil]
 rw[dt h2 (by simp),dt h3 hsl,dt h4 (by simp),dt h5 (by simp),dt h6 (by simp),hs]
 rw[dD _ ((cA _ _).2 fun _ _=>by simp[bz]),dD _ ((cA _ _).2 fun _ _=>by simp[bz]),dD _ ((cA _ _).2 fun _ _=>by simp[bz]),dD _ ((cA _ _).2 fun _ _=>by simp[bz])]
 rw[dS _ (show bz 0 (cV u.shared) by simp[bz,cA]),dS _ (show bz 0 (cV u.bx) by simp[bz,cA]),dS _ (show bz 0 (dU u.bj) by simp[bz,cA])]
 rfl
section
variable {u:bh} {m:MS} {L:ML} {H H':Hp}
theorem jw {p:Prop} (h:p:=by first|assumption|(refine Ne.symm ?_;assumption)):p:=h
theorem ML.At.mem (h:L.At u m H):(∀x∈[L.a,L.s,L.me,L.ho,L.pr],x∈L.all):=by
 intro x hx
 simp only[List.mem_cons,List.not_mem_nil,or_false] at hx
 simp only[ML.all,List.mem_cons]
 omega
theorem jL (h:L.At u m H) {t:Nat} (ht:t<m.bg.length):L.it t∈L.all:=by
 have:L.it t∈L.ids:=eI (by rw[h.len];exact ht)
 simp only[ML.all,List.mem_cons]
 exact .inr (.inr (.inr (.inr (.inr (.inr this)))))
theorem KB (h:L.At u m H) {t s:Nat} (ht:t<m.bg.length) (hs:s<m.bg.length) (e:s≠t):L.it s≠L.it t:=by
 have h1:=(List.nodup_cons.1 (List.nodup_cons.1 (List.nodup_cons.1 (List.nodup_cons.1 (List.nodup_cons.1 (List.nodup_cons.1 h.nodup).2).2).2).2).2).2
 have hl:=h.len
 intro he
 have ht':t<L.ids.length:=by omega
 have hs':s<L.ids.length:=by omega
 have:L.ids[s]=L.ids[t]:=by simpa[ML.it,List.getD,ht',hs'] using he
 exact e ((List.getElem_inj h1).1 this)
structure ML.JO (L:ML) (t:Nat):Prop where
 ne:L.mr≠L.a∧L.mr≠L.s∧L.mr≠L.me∧L.mr≠L.ho∧L.mr≠L.pr∧L.a≠L.s∧L.a≠L.me∧L.a≠L.ho∧L.a≠L.pr∧L.s≠L.me∧L.s≠L.ho∧L.s≠L.pr∧L.me≠L.ho∧L.me≠L.pr∧L.ho≠L.pr
 it:L.it t≠L.mr∧L.it t≠L.a∧L.it t≠L.s∧L.it t≠L.me∧L.it t≠L.ho∧L.it t≠L.pr
theorem apart (h:L.At u m H) {t:Nat} (ht:t<m.bg.length):L.JO t:=by
 have hn:=h.nodup
 have hi:L.it t∈L.ids:=eI (by rw[h.len];exact ht)
 have hne:∀x,x∉L.ids→L.it t≠x:=fun x hx e=>hx (e▸hi)
 simp only[List.nodup_cons,List.mem_cons,not_or] at hn
 obtain⟨⟨a1,a2,a3,a4,a5,a6⟩,⟨b1,b2,b3,b4,b5⟩,⟨c1,c2,c3,c4⟩,⟨d1,d2,d3⟩,⟨e1,e2⟩,f1,_⟩:=hn
 exact⟨⟨a1,a2,a3,a4,a5,b1,b2,b3,b4,c1,c2,c3,d1,d2,e1⟩,hne _ a6,hne _ b5,hne _ c4,hne _ d3,hne _ e2,hne _ f1⟩
theorem ML.At.cD (h:L.At u m H) (hk:∀y∈L.all,bd H' y=bd H y):L.At u m H':=by
 have hm:=h.mem
 obtain⟨d1,h1⟩:=h.rM
 obtain⟨d2,h2⟩:=h.rA
 obtain⟨d3,h3⟩:=h.rS
 obtain⟨d4,h4⟩:=h.rE
 obtain⟨d5,h5⟩:=h.rH
 obtain⟨d6,h6⟩:=h.rP
 refine⟨⟨d1,(hk _ (by simp)).trans h1⟩,⟨d2,(hk _ (hm _ (by simp))).trans h2⟩,⟨d3,(hk _ (hm _ (by simp))).trans h3⟩,fun t ht=> ?_,⟨d4,(hk _ (hm _ (by simp))).trans h4⟩,⟨d5,(hk _ (hm _ (by simp))).trans h5⟩,⟨d6,(hk _ (hm _ (by simp))).trans h6⟩,h.len,h.nodup⟩
 obtain⟨d,hd⟩:=h.rL t ht
 exact⟨d,(hk _ (jL h ht)).trans hd⟩
theorem ML.At.fM (h:L.At u m H) {t:Nat} (ht:t<m.bg.length) (k w:Int) (hit:∃d,bd H' (L.it t)=some (.row 2 1 d (((m.bg.getD t []).map i64).set k.toNat (i64 w)))) (hk:∀y∈L.all,y≠L.it t→bd H' y=bd H y):L.At u (m.fM t k w) H':=by
 obtain⟨-,n1,n2,n3,n4,n5,n6⟩:=apart h ht
 have hm:=h.mem
 obtain⟨d1,h1⟩:=h.rM
 obtain⟨d2,h2⟩:=h.rA
 obtain⟨d3,h3⟩:=h.rS
 obtain⟨d4,h4⟩:=h.rE
 obtain⟨d5,h5⟩:=h.rH
 obtain⟨d6,h6⟩:=h.rP
 have hl:(m.fM t k w).bg.length=m.bg.length:=by simp[MS.fM]
 have hrow:dc L.ids (m.fM t k w).bg=dc L.ids m.bg:=by
  unfold dc MS.fM
  apply List.ext_getElem (by simp)
  intro i q1 q2
  simp only[List.getElem_map,List.getElem_zip,AV.sl.injEq,true_and]
  rw[List.getElem_set]
  have hi:i<m.bg.length:=by simp at q2;omega
  split
  ·rename_i e;subst e;rw[List.length_set];simp[List.getD,hi]
  ·rfl
 refine⟨⟨d1, ?_⟩,⟨d2,(hk _ (hm _ (by simp)) jw).trans h2⟩,⟨d3,by rw[hrow];exact(hk _ (hm _ (by simp)) jw).trans h3⟩,fun s hs=> ?_,⟨d4,(hk _ (hm _ (by simp)) jw).trans h4⟩,⟨d5,(hk _ (hm _ (by simp)) jw).trans h5⟩,⟨d6,(hk _ (hm _ (by simp)) jw).trans h6⟩,by rw[hl];exact h.len,h.nodup⟩
 ·rw[show(m.fM t k w).rows u L.a L.s L.me L.ho L.pr=m.rows u L.a L.s L.me L.ho L.pr by simp[MS.rows,MS.fM]]
  exact(hk _ (by simp) jw).trans h1
 ·rw[hl] at hs
  by_cases e:s=t
  ·subst e
   obtain⟨d,hd⟩:=hit
   refine⟨d,hd.trans ?_⟩
   rw[show(m.fM s k w).bg.getD s []=(m.bg.getD s []).set k.toNat w from eT hs,List.map_set]
  ·obtain⟨d,hd⟩:=h.rL s hs
   refine⟨d, ?_⟩
   rw[show(m.fM t k w).bg.getD s []=m.bg.getD s [] from getD_set_ne (Ne.symm e)]
   exact(hk _ (jL h hs) (KB h ht hs e)).trans hd
theorem ML.At.gu (h:L.At u m H) {t:Nat} (ht:t<m.bg.length) (k w:Int) (hme:∃d,bd H' L.me=some (.row 2 1 d ((m.mem.map i64).set k.toNat (i64 w)))) (hk:∀y∈L.all,y≠L.me→bd H' y=bd H y):L.At u { m with mem:=m.mem.set k.toNat w } H':=by
 obtain⟨⟨a1,a2,a3,a4,a5,b1,b2,b3,b4,c1,c2,c3,e1,e2,f1⟩,n1,n2,n3,n4,n5,n6⟩:=apart h ht
 have hm:=h.mem
 obtain⟨d1,h1⟩:=h.rM
 obtain⟨d2,h2⟩:=h.rA
 obtain⟨d3,h3⟩:=h.rS
 obtain⟨d4,h4⟩:=hme
 obtain⟨d5,h5⟩:=h.rH
 obtain⟨d6,h6⟩:=h.rP
 refine⟨⟨d1, ?_⟩,⟨d2,(hk _ (hm _ (by simp)) jw).trans h2⟩,⟨d3,(hk _ (hm _ (by simp)) jw).trans h3⟩,fun s hs=> ?_,⟨d4,by rw[List.map_set];exact h4⟩,⟨d5,(hk _ (hm _ (by simp)) jw).trans h5⟩,⟨d6,(hk _ (hm _ (by simp)) jw).trans h6⟩,h.len,h.nodup⟩
 ·rw[show({ m with mem:=m.mem.set k.toNat w }:MS).rows u L.a L.s L.me L.ho L.pr=m.rows u L.a L.s L.me L.ho L.pr by simp[MS.rows]]
  exact(hk _ (by simp) jw).trans h1
 ·obtain⟨d,hd⟩:=h.rL s hs
  obtain⟨m1,m2,m3,m4,m5,m6⟩:=(apart h hs).it
  exact⟨d,(hk _ (jL h hs) jw).trans hd⟩
theorem ML.At.HC (h:L.At u m H) {t:Nat} (ht:t<m.bg.length) (k w:Int) (hho:∃d,bd H' L.ho=some (.row 3 1 d ((m.hold.map i64).set k.toNat (i64 w)))) (hk:∀y∈L.all,y≠L.ho→bd H' y=bd H y):L.At u { m with hold:=m.hold.set k.toNat w } H':=by
 obtain⟨⟨a1,a2,a3,a4,a5,b1,b2,b3,b4,c1,c2,c3,e1,e2,f1⟩,n1,n2,n3,n4,n5,n6⟩:=apart h ht
 have hm:=h.mem
 obtain⟨d1,h1⟩:=h.rM
 obtain⟨d2,h2⟩:=h.rA
 obtain⟨d3,h3⟩:=h.rS
 obtain⟨d4,h4⟩:=h.rE
 obtain⟨d5,h5⟩:=hho
 obtain⟨d6,h6⟩:=h.rP
 refine⟨⟨d1, ?_⟩,⟨d2,(hk _ (hm _ (by simp)) jw).trans h2⟩,⟨d3,(hk _ (hm _ (by simp)) jw).trans h3⟩,fun s hs=> ?_,⟨d4,(hk _ (hm _ (by simp)) jw).trans h4⟩,⟨d5,by rw[List.map_set];exact h5⟩,⟨d6,(hk _ (hm _ (by simp)) jw).trans h6⟩,h.len,h.nodup⟩
 ·rw[show({ m with hold:=m.hold.set k.toNat w }:MS).rows u L.a L.s L.me L.ho L.pr=m.rows u L.a L.s L.me L.ho L.pr by simp[MS.rows]]
  exact(hk _ (by simp) jw).trans h1
 ·obtain⟨d,hd⟩:=h.rL s hs
  obtain⟨m1,m2,m3,m4,m5,m6⟩:=(apart h hs).it
  exact⟨d,(hk _ (jL h hs) jw).trans hd⟩
theorem ML.At.LR (h:L.At u m H) {t:Nat} (ht:t<m.bg.length) (k:Nat) (w:Int) (hat:∃d,bd H' L.a=some (.row 3 1 d ((m.at_.map i64).set k (i64 w)))) (hk:∀y∈L.all,y≠L.a→bd H' y=bd H y):L.At u { m with at_:=m.at_.set k w } H':=by
 obtain⟨⟨a1,a2,a3,a4,a5,b1,b2,b3,b4,c1,c2,c3,e1,e2,f1⟩,n1,n2,n3,n4,n5,n6⟩:=apart h ht
 have hm:=h.mem
 obtain⟨d1,h1⟩:=h.rM
 obtain⟨d2,h2⟩:=hat
 obtain⟨d3,h3⟩:=h.rS
 obtain⟨d4,h4⟩:=h.rE
 obtain⟨d5,h5⟩:=h.rH
 obtain⟨d6,h6⟩:=h.rP
 refine⟨⟨d1, ?_⟩,⟨d2,by rw[List.map_set];exact h2⟩,⟨d3,(hk _ (hm _ (by simp)) jw).trans h3⟩,fun s hs=> ?_,⟨d4,(hk _ (hm _ (by simp)) jw).trans h4⟩,⟨d5,(hk _ (hm _ (by simp)) jw).trans h5⟩,⟨d6,(hk _ (hm _ (by simp)) jw).trans h6⟩,h.len,h.nodup⟩
 ·rw[show({ m with at_:=m.at_.set k w }:MS).rows u L.a L.s L.me L.ho L.pr=m.rows u L.a L.s L.me L.ho L.pr by simp[MS.rows]]
  exact(hk _ (by simp) jw).trans h1
 ·obtain⟨d,hd⟩:=h.rL s hs
  obtain⟨m1,m2,m3,m4,m5,m6⟩:=(apart h hs).it
  exact⟨d,(hk _ (jL h hs) jw).trans hd⟩
theorem ML.At.IW (h:L.At u m H) {t:Nat} (ht:t<m.bg.length) (p:cU) (hmr:∃d,bd H' L.mr=some (.row 100 8 d [({ m with bn:=m.bn++[p] }:MS).rows u L.a L.s L.me L.ho L.pr])) (hpr:∃d,bd H' L.pr=some (.row 89 2 d (m.bn.map cU.av++[p.av]))) (hk:∀y∈L.all,y≠L.pr→y≠L.mr→bd H' y=bd H y):L.At u { m with bn:=m.bn++[p] } H':=by
 obtain⟨⟨a1,a2,a3,a4,a5,b1,b2,b3,b4,c1,c2,c3,e1,e2,f1⟩,n1,n2,n3,n4,n5,n6⟩:=apart h ht
 have hm:=h.mem
 obtain⟨d2,h2⟩:=h.rA
 obtain⟨d3,h3⟩:=h.rS
 obtain⟨d4,h4⟩:=h.rE
 obtain⟨d5,h5⟩:=h.rH
 obtain⟨d6,h6⟩:=hpr
 refine⟨hmr,⟨d2,(hk _ (hm _ (by simp)) jw jw).trans h2⟩,⟨d3,(hk _ (hm _ (by simp)) jw jw).trans h3⟩,fun s hs=> ?_,⟨d4,(hk _ (hm _ (by simp)) jw jw).trans h4⟩,⟨d5,(hk _ (hm _ (by simp)) jw jw).trans h5⟩,⟨d6,by rw[List.map_append];exact h6⟩,h.len,h.nodup⟩
 obtain⟨d,hd⟩:=h.rL s hs
 obtain⟨m1,m2,m3,m4,m5,m6⟩:=(apart h hs).it
 exact⟨d,(hk _ (jL h hs) jw jw).trans hd⟩
end
end Go.Proofs.YtekfmjjmihomlaaGreat
end
section
/- An action at work: what a value is; a word into a slot. -/
namespace Go.Proofs.YtekfmjjmihomlaaGreat
open Go Go.cO Go.Proofs
set_option linter.unusedSimpArgs false
set_option linter.unusedVariables false
set_option maxRecDepth 8000
def AC (x:AV) (t:Int) (n:Node) (d:fR):List AV:=[x,i64 t,u8 n.kind,u8 n.op,i64 n.slot,i64 n.cG,bl n.a.gb,i64 n.a.slot,i64 n.a.word,bl n.b.gb,i64 n.b.slot,i64 n.b.word,i64 n.next,i64 n.oJ,i64 n.origin,i64 d.cP,i64 d.node,u8 d.kind,i64 d.cG,i64 d.word,i64 d.put]
abbrev kW (u:bh) (m:MS) (t:Int) (n:Node) (d:fR):AV:= .ip 21 .any [.agg (AC (m.fz u) t n d)] 0 0
@[simp] theorem LV (k:Nat) (u:bh) (m:MS) (t:Int) (n:Node) (d:fR):cK k (AC (m.fz u) t n d):=by
  simp[bz,cK,AC]
structure pV (u:bh) (m:MS) (t:Nat) (n:Node) (d:fR) (ab:Nat) (L:ML) (H:Hp):Prop where
 M:L.At u m H
 row:∃dd,bd H ab=some (.row 113 21 dd [.agg (AC (.pt L.mr 1 0 0) t n d)])
 out:ab∉L.all
theorem pV.dK {u:bh} {m:MS} {t:Nat} {n:Node} {d:fR} {ab:Nat} {L:ML} {H:Hp} (h:pV u m t n d ab L H):cO.dK H 6 (.pt ab 1 0 0)=kW u m t n d:=by
 obtain⟨dd,hr⟩:=h.row
 rw[show cO.dK H 6 (.pt ab 1 0 0)= .ip 21 .any (([.agg (AC (.pt L.mr 1 0 0) t n d)]:List AV).map (cO.dK H 5)) 0 0 from IJ hr rfl]
 simp only[List.map_cons,List.map_nil]
 rw[rC]
 simp only[AC,List.map_cons,List.map_nil]
 have:=h.M.yW 0
 rw[this]
 simp only[cO.dK]
 rfl
theorem pV.cD {u:bh} {m:MS} {t:Nat} {n:Node} {d:fR} {ab:Nat} {L:ML} {H H':Hp} (h:pV u m t n d ab L H) (hk:∀y∈ab::L.all,bd H' y=bd H y):pV u m t n d ab L H':=by
 obtain⟨dd,hr⟩:=h.row
 exact⟨h.M.cD fun y hy=>hk y (List.mem_cons_of_mem _ hy),⟨dd,(hk ab (by simp)).trans hr⟩,h.out⟩
def kV (m:MS) (t:Nat) (v:kU):Prop:=v.gb=true→0≤v.slot∧v.slot<(m.bg.getD t []).length
theorem gM (u:bh) (m:MS) {t:Nat} (n:Node) (d:fR) (v:kU) (ht:t<m.bg.length) (hl:m.bg.length≤8) (hv:kV m t v):Pure Tryz.prog 122 [kW u m t n d,v.av] (fun r=>r=i64 (m.val t v)):=by
 unfold MS.val
 have e0:∀d,(m.bg.map ct).getD ((t:Int)).toNat d=ct (m.bg.getD t []):=fun d=>by rw[Int.toNat_natCast];exact dN ct m.bg t d ht
 have a0:(m.bg.map ct).length=m.bg.length:=by simp
 cases hs:v.gb with
 |true=>
  have r0:=hs
  obtain⟨v1,v2⟩:=hv hs
  have a1:((m.bg.getD t []).map i64).length=(m.bg.getD t []).length:=by simp
  have e1:=fun d=>l7 (l:=m.bg.getD t []) (k:=v.slot) (by omega) d
  rw[if_pos rfl]
  refine aI qK rfl ?_
  refine cW ?_
  first|exact rfl|trivial
 |false=>
  have r0:=hs
  rw[if_neg (by decide)]
  refine aI qK rfl ?_
  refine cW ?_
  first|exact rfl|trivial
abbrev pL (u:bh) (m:MS) (t:Nat) (n:Node) (d:fR) (ab:Nat) (L:ML) (H0:Hp) (nx:Nat) (H:Hp) (k:Nat):Prop:=pV u m t n d ab L H∧nx≤k∧∀y,y<nx→y≠ab→y∉L.all→bd H y=bd H0 y
theorem C9 {L:ML} {m:MS} {t:Nat} (hl:L.ids.length=m.bg.length) (ht:t<m.bg.length) (d:AV):(dc L.ids m.bg).getD t d= .sl (L.it t) (m.bg.getD t []).length:=by
 have h1:t<L.ids.length:=by omega
 have h2:t<(L.ids.zip m.bg).length:=by rw[List.length_zip];omega
 simp[dc,List.getD,ht,h1,List.getElem?_eq_getElem h2]
theorem qT {L:ML} {m:MS} (hl:L.ids.length=m.bg.length):(dc L.ids m.bg).length=m.bg.length:=by
 unfold dc;rw[List.length_map,List.length_zip,hl];simp
theorem cn {x y:Nat} {l:List Nat} (h:x∉l) (hy:y∈l):y≠x:=fun e=>h (e▸hy)
set_option maxHeartbeats 1000000 in
theorem iZ {u:bh} {m:MS} {t:Nat} {n:Node} {d:fR} {ab:Nat} {L:ML} {H:Hp} {nx:Nat} (h:pV u m t n d ab L H) (hlt:∀y∈ab::L.all,y<nx) (ht:t<m.bg.length) (hl:m.bg.length≤8) (hs:0≤n.slot∧n.slot<(m.bg.getD t []).length) (w:Int):
 cC Tryz.prog 126 [.pt ab 1 0 0,i64 w] H nx (fun _ H' k=>pL u (m.fM t n.slot w) t n { d with word:=w } ab L H nx H' k):=by
 obtain⟨hM,⟨dd,ra⟩,hout⟩:=h
 obtain⟨⟨a1,a2,a3,a4,a5,b1,b2,b3,b4,c1,c2,c3,e1,e2,f1⟩,n1,n2,n3,n4,n5,n6⟩:=apart hM ht
 have hmem:=hM.mem
 have k0:=hlt ab (by simp)
 have km:=hlt L.mr (by simp)
 have ks:=hlt L.s (List.mem_cons_of_mem _ (hmem _ (by simp)))
 have ki:=hlt (L.it t) (List.mem_cons_of_mem _ (jL hM ht))
 have o1:=cn hout (List.mem_cons_self (a:=L.mr))
 have o2:=cn hout (hmem L.s (by simp))
 have o3:=cn hout (jL hM ht)
 obtain⟨d1,r1⟩:=hM.rM
 obtain⟨d3,r3⟩:=hM.rS
 obtain⟨d7,r7⟩:=hM.rL t ht
 have e0:∀d,(dc L.ids m.bg).getD ((t:Int)).toNat d= .sl (L.it t) (m.bg.getD t []).length:=fun d=>by rw[Int.toNat_natCast];exact C9 hM.len ht d
 have q0:=qT hM.len
 have q1:((m.bg.getD t []).map i64).length=(m.bg.getD t []).length:=by simp
 obtain⟨hs1,hs2⟩:=hs
 refine aQ tN rfl ?_
 refine cW ?_
 exact⟨⟨hM.fM ht _ _ ⟨_,bf⟩ fun y hy hne=>by have:=cn hout hy;exact br,⟨_,bf⟩,hout⟩,cX,fun y y1 y2 y3=>by have y4:=cn y3 (jL hM ht);exact br⟩
end Go.Proofs.YtekfmjjmihomlaaGreat
end
section
/- An action at work: the kinds of nodes. -/
namespace Go.Proofs.YtekfmjjmihomlaaGreat
open Go Go.cO Go.Proofs
set_option linter.unusedSimpArgs false
set_option linter.unusedVariables false
set_option maxRecDepth 8000
set_option maxHeartbeats 2000000
theorem yu {u:bh} {m:MS} {t:Nat} {n:Node} {d:fR} {ab:Nat} {L:ML} {H:Hp} {nx:Nat} (h:pV u m t n d ab L H) (hlt:∀y∈ab::L.all,y<nx) (ht:t<m.bg.length) (hl:m.bg.length≤8) (hth:0≤n.cG∧n.cG<m.hold.length):
 cC Tryz.prog 86 [.pt ab 1 0 0] H nx (fun r H' k=>r=i64 n.next∧pL u { m with hold:=m.hold.set n.cG.toNat t } t n { d with cG:=n.cG } ab L H nx H' k):=by
 have hfr:∀(v:kU) (H1:Hp),(∀y∈ab::L.all,bd H1 y=bd H y)→[.pt ab 1 0 0,v.av].map (cO.dK H1 6)=[kW u m t n d,v.av]:=fun v H1 h1=>by
  rw[List.map_cons,List.map_cons,List.map_nil,(h.cD h1).dK,dS _ (show bz 0 v.av by simp[bz])]
 have h0:=h
 obtain⟨hM,⟨dd,ra⟩,hout⟩:=h
 obtain⟨⟨a1,a2,a3,a4,a5,b1,b2,b3,b4,c1,c2,c3,e1',e2',f1⟩,n1,n2,n3,n4,n5,n6⟩:=apart hM ht
 have hmem:=hM.mem
 have k0:=hlt ab (by simp)
 have km:=hlt L.mr (by simp)
 have ke:=hlt L.me (List.mem_cons_of_mem _ (hmem _ (by simp)))
 have kh:=hlt L.ho (List.mem_cons_of_mem _ (hmem _ (by simp)))
 have kp:=hlt L.pr (List.mem_cons_of_mem _ (hmem _ (by simp)))
 have o1:=cn hout (List.mem_cons_self (a:=L.mr))
 have o2:=cn hout (hmem L.me (by simp))
 have o3:=cn hout (hmem L.ho (by simp))
 have o4:=cn hout (hmem L.pr (by simp))
 clear a1 a2 a4 b1 b2 b3 b4 c1 c2 c3 e1' e2' f1 n1 n2 n3 n4 n5 n6
 obtain⟨d1,r1⟩:=hM.rM
 obtain⟨d3,r4⟩:=hM.rE
 obtain⟨d5,r5⟩:=hM.rH
 obtain⟨d6,r6⟩:=hM.rP
 have q1:(m.mem.map i64).length=m.mem.length:=by simp
 have q2:(m.hold.map i64).length=m.hold.length:=by simp
 have q3:(m.bn.map cU.av).length=m.bn.length:=by simp
 refine aQ CI rfl ?_
 refine cW ?_
 exact⟨⟨rfl,⟨hM.HC ht _ _ ⟨_,bf⟩ fun y hy hne=>by have:=cn hout hy;exact br,⟨_,bf⟩,hout⟩,cX,fun y y1 y2 y3=>by have y4:=cn y3 (hmem L.ho (by simp));exact br⟩⟩
theorem ua {u:bh} {m:MS} {t:Nat} {n:Node} {d:fR} {ab:Nat} {L:ML} {H:Hp} {nx:Nat} (h:pV u m t n d ab L H) (hlt:∀y∈ab::L.all,y<nx) (ht:t<m.bg.length) (hl:m.bg.length≤8) (hth:0≤n.cG∧n.cG<m.hold.length):
 cC Tryz.prog 87 [.pt ab 1 0 0] H nx (fun r H' k=>r=i64 n.next∧pL u { m with hold:=m.hold.set n.cG.toNat (-1) } t n { d with cG:=n.cG } ab L H nx H' k):=by
 have hfr:∀(v:kU) (H1:Hp),(∀y∈ab::L.all,bd H1 y=bd H y)→[.pt ab 1 0 0,v.av].map (cO.dK H1 6)=[kW u m t n d,v.av]:=fun v H1 h1=>by
  rw[List.map_cons,List.map_cons,List.map_nil,(h.cD h1).dK,dS _ (show bz 0 v.av by simp[bz])]
 have h0:=h
 obtain⟨hM,⟨dd,ra⟩,hout⟩:=h
 obtain⟨⟨a1,a2,a3,a4,a5,b1,b2,b3,b4,c1,c2,c3,e1',e2',f1⟩,n1,n2,n3,n4,n5,n6⟩:=apart hM ht
 have hmem:=hM.mem
 have k0:=hlt ab (by simp)
 have km:=hlt L.mr (by simp)
 have ke:=hlt L.me (List.mem_cons_of_mem _ (hmem _ (by simp)))
 have kh:=hlt L.ho (List.mem_cons_of_mem _ (hmem _ (by simp)))
 have kp:=hlt L.pr (List.mem_cons_of_mem _ (hmem _ (by simp)))
 have o1:=cn hout (List.mem_cons_self (a:=L.mr))
 have o2:=cn hout (hmem L.me (by simp))
 have o3:=cn hout (hmem L.ho (by simp))
 have o4:=cn hout (hmem L.pr (by simp))
 clear a1 a2 a4 b1 b2 b3 b4 c1 c2 c3 e1' e2' f1 n1 n2 n3 n4 n5 n6
 obtain⟨d1,r1⟩:=hM.rM
 obtain⟨d3,r4⟩:=hM.rE
 obtain⟨d5,r5⟩:=hM.rH
 obtain⟨d6,r6⟩:=hM.rP
 have q1:(m.mem.map i64).length=m.mem.length:=by simp
 have q2:(m.hold.map i64).length=m.hold.length:=by simp
 have q3:(m.bn.map cU.av).length=m.bn.length:=by simp
 refine aQ CJ rfl ?_
 refine cW ?_
 exact⟨⟨rfl,⟨hM.HC ht _ _ ⟨_,bf⟩ fun y hy hne=>by have:=cn hout hy;exact br,⟨_,bf⟩,hout⟩,cX,fun y y1 y2 y3=>by have y4:=cn y3 (hmem L.ho (by simp));exact br⟩⟩
theorem sM {u:bh} {m:MS} {t:Nat} {n:Node} {d:fR} {ab:Nat} {L:ML} {H:Hp} {nx:Nat} (h:pV u m t n d ab L H) (hlt:∀y∈ab::L.all,y<nx) (ht:t<m.bg.length) (hl:m.bg.length≤8) (hva:kV m t n.a):
 cC Tryz.prog 89 [.pt ab 1 0 0] H nx (fun r H' k=>r=i64 (if m.val t n.a=0 then n.oJ else n.next)∧pL u m t n { d with word:=m.val t n.a } ab L H nx H' k):=by
 have hfr:∀(v:kU) (H1:Hp),(∀y∈ab::L.all,bd H1 y=bd H y)→[.pt ab 1 0 0,v.av].map (cO.dK H1 6)=[kW u m t n d,v.av]:=fun v H1 h1=>by
  rw[List.map_cons,List.map_cons,List.map_nil,(h.cD h1).dK,dS _ (show bz 0 v.av by simp[bz])]
 have h0:=h
 obtain⟨hM,⟨dd,ra⟩,hout⟩:=h
 obtain⟨⟨a1,a2,a3,a4,a5,b1,b2,b3,b4,c1,c2,c3,e1',e2',f1⟩,n1,n2,n3,n4,n5,n6⟩:=apart hM ht
 have hmem:=hM.mem
 have k0:=hlt ab (by simp)
 have km:=hlt L.mr (by simp)
 have ke:=hlt L.me (List.mem_cons_of_mem _ (hmem _ (by simp)))
 have kh:=hlt L.ho (List.mem_cons_of_mem _ (hmem _ (by simp)))
 have kp:=hlt L.pr (List.mem_cons_of_mem _ (hmem _ (by simp)))
 have o1:=cn hout (List.mem_cons_self (a:=L.mr))
 have o2:=cn hout (hmem L.me (by simp))
 have o3:=cn hout (hmem L.ho (by simp))
 have o4:=cn hout (hmem L.pr (by simp))
 clear a1 a2 a4 b1 b2 b3 b4 c1 c2 c3 e1' e2' f1 n1 n2 n3 n4 n5 n6
 obtain⟨d1,r1⟩:=hM.rM
 obtain⟨d3,r4⟩:=hM.rE
 obtain⟨d5,r5⟩:=hM.rH
 obtain⟨d6,r6⟩:=hM.rP
 have q1:(m.mem.map i64).length=m.mem.length:=by simp
 have q2:(m.hold.map i64).length=m.hold.length:=by simp
 have q3:(m.bn.map cU.av).length=m.bn.length:=by simp
 by_cases hz:m.val t n.a=0
 ·rw[if_pos hz]
  refine aQ yo rfl ?_
  refine cW ?_
  refine aT (gM u m n d n.a ht hl hva) (hfr n.a _ ?_) (by simp[cK,bz]) trivial ?_
  ·exact fun y hy=>rfl
  refine cW ?_
  exact⟨⟨rfl,⟨hM.cD fun y hy=>by have:=cn hout hy;exact br,⟨_,bf⟩,hout⟩,cX,fun y y1 y2 y3=>br⟩⟩
 ·rw[if_neg hz]
  refine aQ yo rfl ?_
  refine cW ?_
  refine aT (gM u m n d n.a ht hl hva) (hfr n.a _ ?_) (by simp[cK,bz]) trivial ?_
  ·exact fun y hy=>rfl
  refine cW ?_
  exact⟨⟨rfl,⟨hM.cD fun y hy=>by have:=cn hout hy;exact br,⟨_,bf⟩,hout⟩,cX,fun y y1 y2 y3=>br⟩⟩
theorem yr {u:bh} {m:MS} {t:Nat} {n:Node} {d:fR} {ab:Nat} {L:ML} {H:Hp} {nx:Nat} (h:pV u m t n d ab L H) (hlt:∀y∈ab::L.all,y<nx) (ht:t<m.bg.length) (hl:m.bg.length≤8) (hs:0≤n.slot∧n.slot<(m.bg.getD t []).length) (hth:0≤n.cG∧n.cG<m.mem.length):
 cC Tryz.prog 83 [.pt ab 1 0 0] H nx (fun r H' k=>r=i64 n.next∧pL u (m.fM t n.slot (m.mem.getD n.cG.toNat 0)) t n { d with cG:=n.cG,word:=m.mem.getD n.cG.toNat 0 } ab L H nx H' k):=by
 have hfr:∀(v:kU) (H1:Hp),(∀y∈ab::L.all,bd H1 y=bd H y)→[.pt ab 1 0 0,v.av].map (cO.dK H1 6)=[kW u m t n d,v.av]:=fun v H1 h1=>by
  rw[List.map_cons,List.map_cons,List.map_nil,(h.cD h1).dK,dS _ (show bz 0 v.av by simp[bz])]
 have h0:=h
 obtain⟨hM,⟨dd,ra⟩,hout⟩:=h
 obtain⟨⟨a1,a2,a3,a4,a5,b1,b2,b3,b4,c1,c2,c3,e1',e2',f1⟩,n1,n2,n3,n4,n5,n6⟩:=apart hM ht
 have hmem:=hM.mem
 have k0:=hlt ab (by simp)
 have km:=hlt L.mr (by simp)
 have ke:=hlt L.me (List.mem_cons_of_mem _ (hmem _ (by simp)))
 have kh:=hlt L.ho (List.mem_cons_of_mem _ (hmem _ (by simp)))
 have kp:=hlt L.pr (List.mem_cons_of_mem _ (hmem _ (by simp)))
 have o1:=cn hout (List.mem_cons_self (a:=L.mr))
 have o2:=cn hout (hmem L.me (by simp))
 have o3:=cn hout (hmem L.ho (by simp))
 have o4:=cn hout (hmem L.pr (by simp))
 clear a1 a2 a4 b1 b2 b3 b4 c1 c2 c3 e1' e2' f1 n1 n2 n3 n4 n5 n6
 obtain⟨d1,r1⟩:=hM.rM
 obtain⟨d3,r4⟩:=hM.rE
 obtain⟨d5,r5⟩:=hM.rH
 obtain⟨d6,r6⟩:=hM.rP
 have q1:(m.mem.map i64).length=m.mem.length:=by simp
 have q2:(m.hold.map i64).length=m.hold.length:=by simp
 have q3:(m.bn.map cU.av).length=m.bn.length:=by simp
 have e0:=fun d=>l7 (l:=m.mem) (k:=n.cG) (by omega) d
 refine aQ CE rfl ?_
 refine cW ?_
 refine aJ (iZ (u:=u) (t:=t) (n:=n) (d:={ d with cG:=n.cG }) (L:=L) (m:=m) (ab:=ab) ?_ ?_ ht hl hs _) ?_
 ·exact⟨hM.cD fun y hy=>by have:=cn hout hy;exact br,⟨_,bf⟩,hout⟩
 ·exact fun y hy=>Nat.lt_of_lt_of_le (hlt y hy) cX
 rintro _ H2 n2 ⟨hA,hn2,hk2⟩
 obtain⟨dd2,ra2⟩:=hA.row
 refine cW ?_
 exact⟨⟨rfl,hA.cD fun y hy=>br,cX,fun y y1 y2 y3=>Eq.trans br ((hk2 y (Nat.lt_of_lt_of_le y1 cX) y2 y3).trans br)⟩⟩
theorem wV {u:bh} {m:MS} {t:Nat} {n:Node} {d:fR} {ab:Nat} {L:ML} {H:Hp} {nx:Nat} (h:pV u m t n d ab L H) (hlt:∀y∈ab::L.all,y<nx) (ht:t<m.bg.length) (hl:m.bg.length≤8) (hva:kV m t n.a) (hth:0≤n.cG∧n.cG<m.mem.length):
 cC Tryz.prog 84 [.pt ab 1 0 0] H nx (fun r H' k=>r=i64 n.next∧pL u { m with mem:=m.mem.set n.cG.toNat (m.val t n.a) } t n { d with cG:=n.cG,word:=m.val t n.a } ab L H nx H' k):=by
 have hfr:∀(v:kU) (H1:Hp),(∀y∈ab::L.all,bd H1 y=bd H y)→[.pt ab 1 0 0,v.av].map (cO.dK H1 6)=[kW u m t n d,v.av]:=fun v H1 h1=>by
  rw[List.map_cons,List.map_cons,List.map_nil,(h.cD h1).dK,dS _ (show bz 0 v.av by simp[bz])]
 have h0:=h
 obtain⟨hM,⟨dd,ra⟩,hout⟩:=h
 obtain⟨⟨a1,a2,a3,a4,a5,b1,b2,b3,b4,c1,c2,c3,e1',e2',f1⟩,n1,n2,n3,n4,n5,n6⟩:=apart hM ht
 have hmem:=hM.mem
 have k0:=hlt ab (by simp)
 have km:=hlt L.mr (by simp)
 have ke:=hlt L.me (List.mem_cons_of_mem _ (hmem _ (by simp)))
 have kh:=hlt L.ho (List.mem_cons_of_mem _ (hmem _ (by simp)))
 have kp:=hlt L.pr (List.mem_cons_of_mem _ (hmem _ (by simp)))
 have o1:=cn hout (List.mem_cons_self (a:=L.mr))
 have o2:=cn hout (hmem L.me (by simp))
 have o3:=cn hout (hmem L.ho (by simp))
 have o4:=cn hout (hmem L.pr (by simp))
 clear a1 a2 a4 b1 b2 b3 b4 c1 c2 c3 e1' e2' f1 n1 n2 n3 n4 n5 n6
 obtain⟨d1,r1⟩:=hM.rM
 obtain⟨d3,r4⟩:=hM.rE
 obtain⟨d5,r5⟩:=hM.rH
 obtain⟨d6,r6⟩:=hM.rP
 have q1:(m.mem.map i64).length=m.mem.length:=by simp
 have q2:(m.hold.map i64).length=m.hold.length:=by simp
 have q3:(m.bn.map cU.av).length=m.bn.length:=by simp
 refine aQ CG rfl ?_
 refine cW ?_
 refine aX (ab::L.all) (gM u m n d n.a ht hl hva) (fun H1 h1=>hfr n.a H1 h1) (by simp[cK,bz]) trivial ?_
 refine Eq.mpr (oo (ab::L.all) _) (pF ?_)
 refine cW ?_
 exact⟨⟨rfl,⟨hM.gu ht _ _ ⟨_,bf⟩ fun y hy hne=>by have:=cn hout hy;exact br,⟨_,bf⟩,hout⟩,cX,fun y y1 y2 y3=>by have y4:=cn y3 (hmem L.me (by simp));exact br⟩⟩
theorem vy {u:bh} {m:MS} {t:Nat} {n:Node} {d:fR} {ab:Nat} {L:ML} {H:Hp} {nx:Nat} (h:pV u m t n d ab L H) (hlt:∀y∈ab::L.all,y<nx) (ht:t<m.bg.length) (hl:m.bg.length≤8) (hva:kV m t n.a) (hpl:m.bn.length≤1048576):
 cC Tryz.prog 88 [.pt ab 1 0 0] H nx (fun r H' k=>r=i64 n.next∧pL u { m with bn:=m.bn++[⟨t,m.val t n.a⟩] } t n { d with word:=m.val t n.a } ab L H nx H' k):=by
 have hfr:∀(v:kU) (H1:Hp),(∀y∈ab::L.all,bd H1 y=bd H y)→[.pt ab 1 0 0,v.av].map (cO.dK H1 6)=[kW u m t n d,v.av]:=fun v H1 h1=>by
  rw[List.map_cons,List.map_cons,List.map_nil,(h.cD h1).dK,dS _ (show bz 0 v.av by simp[bz])]
 have h0:=h
 obtain⟨hM,⟨dd,ra⟩,hout⟩:=h
 obtain⟨⟨a1,a2,a3,a4,a5,b1,b2,b3,b4,c1,c2,c3,e1',e2',f1⟩,n1,n2,n3,n4,n5,n6⟩:=apart hM ht
 have hmem:=hM.mem
 have k0:=hlt ab (by simp)
 have km:=hlt L.mr (by simp)
 have ke:=hlt L.me (List.mem_cons_of_mem _ (hmem _ (by simp)))
 have kh:=hlt L.ho (List.mem_cons_of_mem _ (hmem _ (by simp)))
 have kp:=hlt L.pr (List.mem_cons_of_mem _ (hmem _ (by simp)))
 have o1:=cn hout (List.mem_cons_self (a:=L.mr))
 have o2:=cn hout (hmem L.me (by simp))
 have o3:=cn hout (hmem L.ho (by simp))
 have o4:=cn hout (hmem L.pr (by simp))
 clear a1 a2 a4 b1 b2 b3 b4 c1 c2 c3 e1' e2' f1 n1 n2 n3 n4 n5 n6
 obtain⟨d1,r1⟩:=hM.rM
 obtain⟨d3,r4⟩:=hM.rE
 obtain⟨d5,r5⟩:=hM.rH
 obtain⟨d6,r6⟩:=hM.rP
 have q1:(m.mem.map i64).length=m.mem.length:=by simp
 have q2:(m.hold.map i64).length=m.hold.length:=by simp
 have q3:(m.bn.map cU.av).length=m.bn.length:=by simp
 refine aQ CK rfl ?_
 refine cW ?_
 refine aT (gM u m n d n.a ht hl hva) (hfr n.a _ ?_) (by simp[cK,bz]) trivial ?_
 ·exact fun y hy=>rfl
 refine cW ?_
 exact⟨⟨rfl,⟨hM.IW ht _ ⟨_,by simp only[MS.rows,List.length_append,List.length_cons,List.length_nil];exact bf⟩ ⟨_,bf⟩ fun y hy hne hn2=>by have:=cn hout hy;have:=hlt y (List.mem_cons_of_mem _ hy);exact br,⟨_,bf⟩,hout⟩,cX,fun y y1 y2 y3=>by have y4:=cn y3 (List.mem_cons_self (a:=L.mr));have y5:=cn y3 (hmem L.pr (by simp));exact br⟩⟩
theorem zV {u:bh} {m:MS} {t:Nat} {n:Node} {d:fR} {ab:Nat} {L:ML} {H:Hp} {nx:Nat} (h:pV u m t n d ab L H) (hlt:∀y∈ab::L.all,y<nx) (ht:t<m.bg.length) (hl:m.bg.length≤8) (hva:kV m t n.a) (hs:0≤n.slot∧n.slot<(m.bg.getD t []).length) (hth:0≤n.cG∧n.cG<m.mem.length):
 cC Tryz.prog 85 [.pt ab 1 0 0] H nx (fun r H' k=>r=i64 n.next∧pL u { m.fM t n.slot (m.mem.getD n.cG.toNat 0) with mem:=m.mem.set n.cG.toNat (m.val t n.a) } t n { d with cG:=n.cG,word:=m.mem.getD n.cG.toNat 0,put:=m.val t n.a } ab L H nx H' k):=by
 have hfr:∀(v:kU) (H1:Hp),(∀y∈ab::L.all,bd H1 y=bd H y)→[.pt ab 1 0 0,v.av].map (cO.dK H1 6)=[kW u m t n d,v.av]:=fun v H1 h1=>by
  rw[List.map_cons,List.map_cons,List.map_nil,(h.cD h1).dK,dS _ (show bz 0 v.av by simp[bz])]
 have h0:=h
 obtain⟨hM,⟨dd,ra⟩,hout⟩:=h
 obtain⟨⟨a1,a2,a3,a4,a5,b1,b2,b3,b4,c1,c2,c3,e1',e2',f1⟩,n1,n2,n3,n4,n5,n6⟩:=apart hM ht
 have hmem:=hM.mem
 have k0:=hlt ab (by simp)
 have km:=hlt L.mr (by simp)
 have ke:=hlt L.me (List.mem_cons_of_mem _ (hmem _ (by simp)))
 have kh:=hlt L.ho (List.mem_cons_of_mem _ (hmem _ (by simp)))
 have kp:=hlt L.pr (List.mem_cons_of_mem _ (hmem _ (by simp)))
 have o1:=cn hout (List.mem_cons_self (a:=L.mr))
 have o2:=cn hout (hmem L.me (by simp))
 have o3:=cn hout (hmem L.ho (by simp))
 have o4:=cn hout (hmem L.pr (by simp))
 clear a1 a2 a4 b1 b2 b3 b4 c1 c2 c3 e1' e2' f1 n1 n2 n3 n4 n5 n6
 obtain⟨d1,r1⟩:=hM.rM
 obtain⟨d3,r4⟩:=hM.rE
 obtain⟨d5,r5⟩:=hM.rH
 obtain⟨d6,r6⟩:=hM.rP
 have q1:(m.mem.map i64).length=m.mem.length:=by simp
 have q2:(m.hold.map i64).length=m.hold.length:=by simp
 have q3:(m.bn.map cU.av).length=m.bn.length:=by simp
 have e0:=fun d=>l7 (l:=m.mem) (k:=n.cG) (by omega) d
 refine aQ CH rfl ?_
 refine cW ?_
 refine aX (ab::L.all) (gM u m n d n.a ht hl hva) (fun H1 h1=>hfr n.a H1 h1) (by simp[cK,bz]) trivial ?_
 refine Eq.mpr (oo (ab::L.all) _) (pF ?_)
 refine cW ?_
 refine aJ (iZ (u:=u) (t:=t) (n:=n) (d:={ d with cG:=n.cG,put:=m.val t n.a }) (L:=L) (m:=m) (ab:=ab) ?_ ?_ ht hl hs _) ?_
 ·exact⟨hM.cD fun y hy=>by have:=cn hout hy;exact br,⟨_,bf⟩,hout⟩
 ·exact fun y hy=>Nat.lt_of_lt_of_le (hlt y hy) cX
 rintro _ H2 n2 ⟨hA,hn2,hk2⟩
 obtain⟨dd2,ra2⟩:=hA.row
 obtain⟨d8,r8⟩:=hA.M.rM
 obtain⟨d9,r9⟩:=hA.M.rE
 refine cW ?_
 have ht2:t<(m.fM t n.slot (m.mem.getD n.cG.toNat 0)).bg.length:=by simp only[MS.fM,List.length_set];exact ht
 exact⟨⟨rfl,⟨hA.M.gu ht2 _ _ ⟨_,bf⟩ fun y hy hne=>by have:=cn hout hy;exact br,⟨_,bf⟩,hout⟩,cX,fun y y1 y2 y3=>by have y4:=cn y3 (hmem L.me (by simp));exact Eq.trans br ((hk2 y (Nat.lt_of_lt_of_le y1 cX) y2 y3).trans br)⟩⟩
theorem C8 {u:bh} {m:MS} {t:Nat} {n:Node} {d:fR} {ab:Nat} {L:ML} {H:Hp} {nx:Nat} (h:pV u m t n d ab L H) (hlt:∀y∈ab::L.all,y<nx) (ht:t<m.bg.length) (hl:m.bg.length≤8) (hs:0≤n.slot∧n.slot<(m.bg.getD t []).length) (hva:kV m t n.a) (hvb:dH n.op=true→kV m t n.b) (hop:0≤n.op∧n.op<19):
 cC Tryz.prog 82 [.pt ab 1 0 0] H nx (fun r H' k=>r=i64 n.next∧pL u (m.fM t n.slot (m.wN t n)) t n { d with word:=m.wN t n } ab L H nx H' k):=by
 have hfr:∀(v:kU) (H1:Hp),(∀y∈ab::L.all,bd H1 y=bd H y)→[.pt ab 1 0 0,v.av].map (cO.dK H1 6)=[kW u m t n d,v.av]:=fun v H1 h1=>by
  rw[List.map_cons,List.map_cons,List.map_nil,(h.cD h1).dK,dS _ (show bz 0 v.av by simp[bz])]
 have h0:=h
 obtain⟨hM,⟨dd,ra⟩,hout⟩:=h
 obtain⟨⟨a1,a2,a3,a4,a5,b1,b2,b3,b4,c1,c2,c3,e1',e2',f1⟩,n1,n2,n3,n4,n5,n6⟩:=apart hM ht
 have hmem:=hM.mem
 have k0:=hlt ab (by simp)
 have km:=hlt L.mr (by simp)
 have ke:=hlt L.me (List.mem_cons_of_mem _ (hmem _ (by simp)))
 have kh:=hlt L.ho (List.mem_cons_of_mem _ (hmem _ (by simp)))
 have kp:=hlt L.pr (List.mem_cons_of_mem _ (hmem _ (by simp)))
 have o1:=cn hout (List.mem_cons_self (a:=L.mr))
 have o2:=cn hout (hmem L.me (by simp))
 have o3:=cn hout (hmem L.ho (by simp))
 have o4:=cn hout (hmem L.pr (by simp))
 clear a1 a2 a4 b1 b2 b3 b4 c1 c2 c3 e1' e2' f1 n1 n2 n3 n4 n5 n6
 obtain⟨d1,r1⟩:=hM.rM
 obtain⟨d3,r4⟩:=hM.rE
 obtain⟨d5,r5⟩:=hM.rH
 obtain⟨d6,r6⟩:=hM.rP
 have q1:(m.mem.map i64).length=m.mem.length:=by simp
 have q2:(m.hold.map i64).length=m.hold.length:=by simp
 have q3:(m.bn.map cU.av).length=m.bn.length:=by simp
 have c0:=eL n.op hop.1
 unfold MS.wN
 cases h2:dH n.op with
 |true=>
  rw[h2] at c0
  have c1:=HN n.op (m.val t n.a) (m.val t n.b) h2
  have hvb:=hvb h2
  rw[if_pos rfl]
  refine aQ vi rfl ?_
  refine cW ?_
  refine aT (gM u m n d n.a ht hl hva) (hfr n.a _ ?_) (by simp[cK,bz]) trivial ?_
  ·exact fun y hy=>rfl
  refine cW ?_
  refine aX (ab::L.all) (gM u m n d n.b ht hl hvb) (fun H1 h1=>hfr n.b H1 h1) (by simp[cK,bz]) trivial ?_
  refine Eq.mpr (oo (ab::L.all) _) (pF ?_)
  refine cW ?_
  refine aJ (iZ (u:=u) (t:=t) (n:=n) (d:=d) (L:=L) (m:=m) (ab:=ab) ?_ ?_ ht hl hs _) ?_
  ·exact⟨hM.cD fun y hy=>by have:=cn hout hy;exact br,⟨_,bf⟩,hout⟩
  ·exact fun y hy=>Nat.lt_of_lt_of_le (hlt y hy) cX
  rintro _ H2 n2 ⟨hA,hn2,hk2⟩
  obtain⟨dd2,ra2⟩:=hA.row
  refine cW ?_
  exact⟨⟨rfl,hA.cD fun y hy=>br,cX,fun y y1 y2 y3=>Eq.trans br ((hk2 y (Nat.lt_of_lt_of_le y1 cX) y2 y3).trans br)⟩⟩
 |false=>
  rw[h2] at c0
  rw[if_neg (by decide)]
  by_cases h0':n.op=0
  ·rw[if_neg (fun e=>e h0')]
   refine aQ vi rfl ?_
   refine cW ?_
   refine aT (gM u m n d n.a ht hl hva) (hfr n.a _ ?_) (by simp[cK,bz]) trivial ?_
   ·exact fun y hy=>rfl
   refine cW ?_
   refine aJ (iZ (u:=u) (t:=t) (n:=n) (d:=d) (L:=L) (m:=m) (ab:=ab) ?_ ?_ ht hl hs _) ?_
   ·exact⟨hM.cD fun y hy=>by have:=cn hout hy;exact br,⟨_,bf⟩,hout⟩
   ·exact fun y hy=>Nat.lt_of_lt_of_le (hlt y hy) cX
   rintro _ H2 n2 ⟨hA,hn2,hk2⟩
   obtain⟨dd2,ra2⟩:=hA.row
   refine cW ?_
   exact⟨⟨rfl,hA.cD fun y hy=>br,cX,fun y y1 y2 y3=>Eq.trans br ((hk2 y (Nat.lt_of_lt_of_le y1 cX) y2 y3).trans br)⟩⟩
  ·rw[if_pos h0']
   have c1:=DS n.op (m.val t n.a) (by unfold dH at h2;simp only[Bool.and_eq_false_iff,decide_eq_false_iff_not] at h2;omega)
   refine aQ vi rfl ?_
   refine cW ?_
   refine aT (gM u m n d n.a ht hl hva) (hfr n.a _ ?_) (by simp[cK,bz]) trivial ?_
   ·exact fun y hy=>rfl
   refine cW ?_
   refine aJ (iZ (u:=u) (t:=t) (n:=n) (d:=d) (L:=L) (m:=m) (ab:=ab) ?_ ?_ ht hl hs _) ?_
   ·exact⟨hM.cD fun y hy=>by have:=cn hout hy;exact br,⟨_,bf⟩,hout⟩
   ·exact fun y hy=>Nat.lt_of_lt_of_le (hlt y hy) cX
   rintro _ H2 n2 ⟨hA,hn2,hk2⟩
   obtain⟨dd2,ra2⟩:=hA.row
   refine cW ?_
   exact⟨⟨rfl,hA.cD fun y hy=>br,cX,fun y y1 y2 y3=>Eq.trans br ((hk2 y (Nat.lt_of_lt_of_le y1 cX) y2 y3).trans br)⟩⟩
end Go.Proofs.YtekfmjjmihomlaaGreat
end
