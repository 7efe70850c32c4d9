import Derived.Test.YtekfmjjmihomlaaGreatM30
section
/- A step keeps a situation right. -/
namespace Go.Proofs.YtekfmjjmihomlaaGreat
open Go Go.cN Go.Proofs
set_option linter.unusedSimpArgs false
set_option linter.unusedVariables false
theorem pT (n:Int):dh (sN n):=by unfold dh sN;rw[IntKind.wrap_i64];omega
theorem I3 {p:Prop} [Decidable p] {a b:Int} (h1:dh a) (h2:dh b):dh (if p then a else b):=by
 split
 ·exact h1
 ·exact h2
theorem H8 (t:Bool):dh (tr t):=by unfold tr dh;split<;>omega
theorem GV {a:Int} (h:dh a) (b:Int):dh (GU a b):=by
 unfold GU
 have hd:(1:Int)≤2^(min (AY b).toNat 64):=Int.le_of_lt_add_one (by have:(0:Int)<2^(min (AY b).toNat 64):=Int.pow_pos (by omega);omega)
 generalize (2:Int)^(min (AY b).toNat 64)=d at *
 rw[Int.fdiv_eq_ediv_of_nonneg _ (by omega)]
 have h1:=Int.mul_ediv_add_emod a d
 have h2:=Int.emod_nonneg a (b:=d) (by omega)
 have h3:=Int.emod_lt_of_pos a (b:=d) (by omega)
 obtain⟨h4,h5⟩:=h
 generalize a /d=q at *
 generalize a%d=r at *
 constructor
 ·apply Int.not_lt.1
  intro hq
  have:d * (q+1)≤1 * (q+1):=Int.mul_le_mul_of_nonpos_right hd (by omega)
  rw[Int.mul_add] at this
  omega
 ·apply Int.not_le.1
  intro hq
  have:1 * q≤d * q:=Int.mul_le_mul_of_nonneg_right hd (by omega)
  omega
theorem HD {a b:Int} (ha:dh a) (op:Int):dh (HC op a b):=by
 have hq:dh (z8 a b):=by
  unfold z8
  split
  ·exact⟨by omega,by omega⟩
  ·split
   ·exact pT _
   ·exact pT _
 have hm:dh (DH a b):=by
  unfold DH
  split
  ·exact ha
  ·exact pT _
 unfold HC
 repeat' (with_reducible refine I3 ?_ ?_)
 all_goals first
  |exact H8 _
  |exact GV ha _
  |exact hq
  |exact hm
  |exact pT _
theorem GJ (op a:Int):dh (GI op a):=by
 unfold GI
 split
 ·exact pT _
 ·exact H8 _
theorem getD_none {α:Type} {l:List α} {k:Nat} {d:α} (h:l.length≤k):l.getD k d=d:=by simp[List.getD,List.getElem?_eq_none h]
section
variable {u:bf} {m:MS} {t:Nat}
theorem GW (h:eK u m) (ht:t<u.bj.length) (k:Nat):dh ((m.bh.getD t []).getD k 0):=by
 by_cases hk:k<(m.bh.getD t []).length
 ·exact h.we t ht _ (cW 0 hk)
 ·rw[getD_none (Nat.le_of_not_lt hk)]
  exact⟨by omega,by omega⟩
theorem wu (h:eK u m) (ht:t<u.bj.length) {v:j4} (hv:v.Wf):dh (m.val t v):=by
 unfold MS.val
 split
 ·exact GW h ht _
 ·exact hv.word
theorem GS (h:eK u m) (ht:t<u.bj.length) {n:Node} (hn:n.Wf):dh (m.w8 t n):=by
 unfold MS.w8
 split
 ·exact HD (wu h ht hn.a) _
 ·split
  ·exact GJ _ _
  ·exact wu h ht hn.a
theorem lG {α:Type} {l:List α} {i:Nat} {a x:α} (h:x∈l.set i a):x∈l∨x=a:=by
 rcases List.mem_or_eq_of_mem_set h with h|h
 ·exact .inl h
 ·exact .inr h
theorem getD_set_ne {α:Type} {l:List α} {i j:Nat} {v d:α} (h:i≠j):(l.set i v).getD j d=l.getD j d:=by simp[List.getD,List.getElem?_set_ne h]
theorem eK.fR (h:eK u m) (k w:Int) (hw:dh w):eK u (m.fR t k w) where
 oK:=h.oK
 fx:=h.fx
 sl:=by simp only[MS.fR,List.length_set];exact h.sl
 wc:=fun s hs=>by
  simp only[MS.fR]
  by_cases e:t=s
  ·subst e
   rw[eV (by rw[h.sl];exact hs),List.length_set]
   exact h.wc t hs
  ·rw[getD_set_ne e];exact h.wc s hs
 we:=fun s hs x hx=>by
  simp only[MS.fR] at hx
  by_cases e:t=s
  ·subst e
   rw[eV (by rw[h.sl];exact hs)] at hx
   rcases lG hx with hx|rfl
   ·exact h.we t hs x hx
   ·exact hw
  ·rw[getD_set_ne e] at hx;exact h.we s hs x hx
 ml:=h.ml
 mw:=h.mw
 hl:=h.hl
 hw:=h.hw
 pw:=h.pw
theorem eK.mem (h:eK u m) (k:Nat) (w:Int) (hw:dh w):eK u { m with mem:=m.mem.set k w } where
 oK:=h.oK
 fx:=h.fx
 sl:=h.sl
 wc:=h.wc
 we:=h.we
 ml:=by simp only[List.length_set];exact h.ml
 mw:=fun x hx=>by
  rcases lG hx with hx|rfl
  ·exact h.mw x hx
  ·exact hw
 hl:=h.hl
 hw:=h.hw
 pw:=h.pw
theorem eK.hold (h:eK u m) (k:Nat) (w:Int) (hw:-1≤w∧w<u.bj.length):eK u { m with hold:=m.hold.set k w } where
 oK:=h.oK
 fx:=h.fx
 sl:=h.sl
 wc:=h.wc
 we:=h.we
 ml:=h.ml
 mw:=h.mw
 hl:=by simp only[List.length_set];exact h.hl
 hw:=fun x hx=>by
  rcases lG hx with hx|rfl
  ·exact h.hw x hx
  ·exact hw
 pw:=h.pw
theorem eK.print (h:eK u m) (p:cY) (hp:0≤p.cT∧p.cT<u.bj.length∧dh p.word):eK u { m with bo:=m.bo++[p] } where
 oK:=h.oK
 fx:=h.fx
 sl:=h.sl
 wc:=h.wc
 we:=h.we
 ml:=h.ml
 mw:=h.mw
 hl:=h.hl
 hw:=h.hw
 pw:=fun x hx=>by
  rcases List.mem_append.1 hx with hx|hx
  ·exact h.pw x hx
  ·simp only[List.mem_cons,List.not_mem_nil,or_false] at hx
   subst hx;exact hp
theorem eK.L8 (h:eK u m) (k:Int) (hk:t<u.bj.length→0≤k∧k<(u.gr t).nodes.length):eK u { m with at_:=m.at_.set t k } where
 oK:=by simp only[List.length_set];exact h.oK
 fx:=fun s hs=>by
  by_cases e:t=s
  ·subst e
   dsimp only
   rw[eV (by rw[h.oK];exact hs)]
   exact hk hs
  ·dsimp only
   rw[getD_set_ne e];exact h.fx s hs
 sl:=h.sl
 wc:=h.wc
 we:=h.we
 ml:=h.ml
 mw:=h.mw
 hl:=h.hl
 hw:=h.hw
 pw:=h.pw
theorem oM (h:eK u m) (ht:t<u.bj.length) (hb:m.rJ u t=0):(m.node u t).kind≠9∧¬((m.node u t).kind=5∧0≤m.hold.getD (m.node u t).cH.toNat 0):=by
 unfold MS.rJ at hb
 rw[if_neg (by have:=h.oK;omega),Int.toNat_natCast] at hb
 refine⟨fun e=> ?_,fun e=> ?_⟩
 ·rw[if_pos e] at hb;cases hb
 ·rw[if_neg (by omega)] at hb
  rw[if_pos e] at hb
  cases hb
theorem yG (hu:u.Wf) (h:eK u m) (ht:t<u.bj.length):(m.node u t).Wf:=by
 have h1:=h.fx t ht
 exact(hu.bj _ (cW default ht)).nodes _ (cW default (show(m.at_.getD t 0).toNat<(u.gr t).nodes.length by omega))
theorem IJ (hu:u.Wf) (hr:ch u) (h:eK u m) (ht:t<u.bj.length):eK u (m.act t (m.node u t)).1:=by
 have hn:=h.node hr ht
 have hw:=yG hu h ht
 have hst:=GS h ht hw
 have hva:=wu h ht hw.a
 have hmw:dh (m.mem.getD (m.node u t).cH.toNat 0):=by
  by_cases hk:(m.node u t).cH.toNat<m.mem.length
  ·exact h.mw _ (cW 0 hk)
  ·rw[getD_none (Nat.le_of_not_lt hk)];exact⟨by omega,by omega⟩
 generalize m.node u t=n at *
 unfold MS.act
 split
 ·exact h.fR _ _ hst
 split
 ·exact h.fR _ _ hmw
 split
 ·exact h.mem _ _ hva
 split
 ·exact(h.fR (t:=t) n.slot _ hmw).mem _ _ hva
 split
 ·exact h.hold _ _ ⟨by omega,by omega⟩
 split
 ·exact h.hold _ _ ⟨by omega,by omega⟩
 split
 ·exact h.print _ ⟨by dsimp only;omega,by dsimp only;omega,hva⟩
 ·exact h
theorem AG (hr:ch u) (h:eK u m) (ht:t<u.bj.length) (hk:(m.node u t).kind≠9):0≤(m.act t (m.node u t)).2.1∧(m.act t (m.node u t)).2.1<(u.gr t).nodes.length:=by
 have hn:=h.node hr ht
 generalize m.node u t=n at *
 have hkd:=hn.kind
 have hnx:=hn.next.1 (by unfold gw;exact decide_eq_true (by omega))
 unfold MS.act
 repeat' split
 all_goals first
  |exact hnx
  |exact hn.oX.1 (by omega)
theorem yO (hu:u.Wf) (hr:ch u) (h:eK u m) (ht:t<u.bj.length) (hk:(m.node u t).kind≠9):eK u (m.step u t).1:=by
 have h1:=IJ hu hr h ht
 have h2:=AG hr h ht hk
 have h3:(m.step u t).1={ (m.act t (m.node u t)).1 with at_:=m.at_.set t (m.act t (m.node u t)).2.1 }:=rfl
 have h4:(m.act t (m.node u t)).1.at_=m.at_:=by
  unfold MS.act
  repeat' split
  all_goals rfl
 rw[h3,←h4]
 exact h1.L8 _ fun _=>h2
end
end Go.Proofs.YtekfmjjmihomlaaGreat
end
section
/- The machine in rows: what a store makes of it. -/
namespace Go.Proofs.YtekfmjjmihomlaaGreat
open Go Go.cN Go.Proofs
set_option linter.unusedSimpArgs false
set_option linter.unusedVariables false
structure ML where
 mr:Nat
 a:Nat
 s:Nat
 me:Nat
 ho:Nat
 pr:Nat
 ids:List Nat
abbrev ML.all (L:ML):List Nat:=L.mr::L.a::L.s::L.me::L.ho::L.pr::L.ids
abbrev ML.it (L:ML) (t:Nat):Nat:=L.ids.getD t 0
abbrev ML.At (L:ML) (u:bf) (m:MS) (H:Hp):Prop:=JV u m L.mr L.a L.s L.me L.ho L.pr L.ids H
theorem JV.ym {u:bf} {m:MS} {mr a s me ho pr:Nat} {ids:List Nat} {H:Hp} (h:JV u m mr a s me ho pr ids H) (k:Nat):cN.dM H (k+4) (.pt mr 1 0 0)=m.fz u:=by
 obtain⟨d1,h1⟩:=h.rM
 obtain⟨d2,h2⟩:=h.rA
 obtain⟨d3,h3⟩:=h.rS
 obtain⟨d4,h4⟩:=h.rE
 obtain⟨d5,h5⟩:=h.rH
 obtain⟨d6,h6⟩:=h.rP
 have hsl:(df ids m.bh).length=m.bh.length:=by unfold df;rw[List.length_map,List.length_zip,h.len];simp
 have hs:(df ids m.bh).map (cN.dM H (k+1))=m.bh.map cu:=by
  apply List.ext_getElem (by simp[hsl])
  intro t q1 q2
  have ht:t<m.bh.length:=by simpa using q2
  have hti:t<ids.length:=by rw[h.len];exact ht
  obtain⟨d,hd⟩:=h.rL t ht
  rw[show ids.getD t 0=ids[t] by simp[List.getD,hti],show m.bh.getD t []=m.bh[t] by simp[List.getD,ht]] at hd
  rw[List.getElem_map,List.getElem_map]
  simp only[df,List.getElem_map,List.getElem_zip]
  rw[dw hd (by simp),dF _ ((cB _ _).2 fun _ _=>by simp[cA])]
 simp only[cN.dM,h1]
 simp only[List.length_cons,List.length_nil,if_true,List.map_cons,List.map_nil,MS.rows]
 rw[rZ]
 simp only[List.map_cons,List.map_nil]
 rw[dw h2 (by simp),dw h3 hsl,dw h4 (by simp),dw h5 (by simp),dw h6 (by simp),hs]
 rw[dF _ ((cB _ _).2 fun _ _=>by simp[cA]),dF _ ((cB _ _).2 fun _ _=>by simp[cA]),dF _ ((cB _ _).2 fun _ _=>by simp[cA]),dF _ ((cB _ _).2 fun _ _=>by simp[cA])]
 rw[dW _ (show cA 0 (cV u.shared) by simp[cA,cB]),dW _ (show cA 0 (cV u.bx) by simp[cA,cB]),dW _ (show cA 0 (dQ u.bj) by simp[cA,cB])]
 rfl
section
variable {u:bf} {m:MS} {L:ML} {H H':Hp}
theorem kB {p:Prop} (h:p:=by first|assumption|(refine Ne.symm ?_;assumption)):p:=h
theorem ML.At.mem (h:L.At u m H):(∀x∈[L.a,L.s,L.me,L.ho,L.pr],x∈L.all):=by
 intro x hx
 simp only[List.mem_cons,List.not_mem_nil,or_false] at hx
 simp only[ML.all,List.mem_cons]
 omega
theorem jP (h:L.At u m H) {t:Nat} (ht:t<m.bh.length):L.it t∈L.all:=by
 have:L.it t∈L.ids:=eL (by rw[h.len];exact ht)
 simp only[ML.all,List.mem_cons]
 exact .inr (.inr (.inr (.inr (.inr (.inr this)))))
theorem KQ (h:L.At u m H) {t s:Nat} (ht:t<m.bh.length) (hs:s<m.bh.length) (e:s≠t):L.it s≠L.it t:=by
 have h1:=(List.nodup_cons.1 (List.nodup_cons.1 (List.nodup_cons.1 (List.nodup_cons.1 (List.nodup_cons.1 (List.nodup_cons.1 h.nodup).2).2).2).2).2).2
 have hl:=h.len
 intro he
 have ht':t<L.ids.length:=by omega
 have hs':s<L.ids.length:=by omega
 have:L.ids[s]=L.ids[t]:=by simpa[ML.it,List.getD,ht',hs'] using he
 exact e ((List.getElem_inj h1).1 this)
structure ML.J3 (L:ML) (t:Nat):Prop where
 ne:L.mr≠L.a∧L.mr≠L.s∧L.mr≠L.me∧L.mr≠L.ho∧L.mr≠L.pr∧L.a≠L.s∧L.a≠L.me∧L.a≠L.ho∧L.a≠L.pr∧L.s≠L.me∧L.s≠L.ho∧L.s≠L.pr∧L.me≠L.ho∧L.me≠L.pr∧L.ho≠L.pr
 it:L.it t≠L.mr∧L.it t≠L.a∧L.it t≠L.s∧L.it t≠L.me∧L.it t≠L.ho∧L.it t≠L.pr
theorem apart (h:L.At u m H) {t:Nat} (ht:t<m.bh.length):L.J3 t:=by
 have hn:=h.nodup
 have hi:L.it t∈L.ids:=eL (by rw[h.len];exact ht)
 have hne:∀x,x∉L.ids→L.it t≠x:=fun x hx e=>hx (e▸hi)
 simp only[List.nodup_cons,List.mem_cons,not_or] at hn
 obtain⟨⟨a1,a2,a3,a4,a5,a6⟩,⟨b1,b2,b3,b4,b5⟩,⟨c1,c2,c3,c4⟩,⟨d1,d2,d3⟩,⟨e1,e2⟩,f1,_⟩:=hn
 exact⟨⟨a1,a2,a3,a4,a5,b1,b2,b3,b4,c1,c2,c3,d1,d2,e1⟩,hne _ a6,hne _ b5,hne _ c4,hne _ d3,hne _ e2,hne _ f1⟩
theorem ML.At.cE (h:L.At u m H) (hk:∀y∈L.all,bd H' y=bd H y):L.At u m H':=by
 have hm:=h.mem
 obtain⟨d1,h1⟩:=h.rM
 obtain⟨d2,h2⟩:=h.rA
 obtain⟨d3,h3⟩:=h.rS
 obtain⟨d4,h4⟩:=h.rE
 obtain⟨d5,h5⟩:=h.rH
 obtain⟨d6,h6⟩:=h.rP
 refine⟨⟨d1,(hk _ (by simp)).trans h1⟩,⟨d2,(hk _ (hm _ (by simp))).trans h2⟩,⟨d3,(hk _ (hm _ (by simp))).trans h3⟩,fun t ht=> ?_,⟨d4,(hk _ (hm _ (by simp))).trans h4⟩,⟨d5,(hk _ (hm _ (by simp))).trans h5⟩,⟨d6,(hk _ (hm _ (by simp))).trans h6⟩,h.len,h.nodup⟩
 obtain⟨d,hd⟩:=h.rL t ht
 exact⟨d,(hk _ (jP h ht)).trans hd⟩
theorem ML.At.fR (h:L.At u m H) {t:Nat} (ht:t<m.bh.length) (k w:Int) (hit:∃d,bd H' (L.it t)=some (.row 2 1 d (((m.bh.getD t []).map i64).set k.toNat (i64 w)))) (hk:∀y∈L.all,y≠L.it t→bd H' y=bd H y):L.At u (m.fR t k w) H':=by
 obtain⟨-,n1,n2,n3,n4,n5,n6⟩:=apart h ht
 have hm:=h.mem
 obtain⟨d1,h1⟩:=h.rM
 obtain⟨d2,h2⟩:=h.rA
 obtain⟨d3,h3⟩:=h.rS
 obtain⟨d4,h4⟩:=h.rE
 obtain⟨d5,h5⟩:=h.rH
 obtain⟨d6,h6⟩:=h.rP
 have hl:(m.fR t k w).bh.length=m.bh.length:=by simp[MS.fR]
 have hrow:df L.ids (m.fR t k w).bh=df L.ids m.bh:=by
  unfold df MS.fR
  apply List.ext_getElem (by simp)
  intro i q1 q2
  simp only[List.getElem_map,List.getElem_zip,AV.sl.injEq,true_and]
  rw[List.getElem_set]
  have hi:i<m.bh.length:=by simp at q2;omega
  split
  ·rename_i e;subst e;rw[List.length_set];simp[List.getD,hi]
  ·rfl
 refine⟨⟨d1, ?_⟩,⟨d2,(hk _ (hm _ (by simp)) kB).trans h2⟩,⟨d3,by rw[hrow];exact(hk _ (hm _ (by simp)) kB).trans h3⟩,fun s hs=> ?_,⟨d4,(hk _ (hm _ (by simp)) kB).trans h4⟩,⟨d5,(hk _ (hm _ (by simp)) kB).trans h5⟩,⟨d6,(hk _ (hm _ (by simp)) kB).trans h6⟩,by rw[hl];exact h.len,h.nodup⟩
 ·rw[show(m.fR t k w).rows u L.a L.s L.me L.ho L.pr=m.rows u L.a L.s L.me L.ho L.pr by simp[MS.rows,MS.fR]]
  exact(hk _ (by simp) kB).trans h1
 ·rw[hl] at hs
  by_cases e:s=t
  ·subst e
   obtain⟨d,hd⟩:=hit
   refine⟨d,hd.trans ?_⟩
   rw[show(m.fR s k w).bh.getD s []=(m.bh.getD s []).set k.toNat w from eV hs,List.map_set]
  ·obtain⟨d,hd⟩:=h.rL s hs
   refine⟨d, ?_⟩
   rw[show(m.fR t k w).bh.getD s []=m.bh.getD s [] from getD_set_ne (Ne.symm e)]
   exact(hk _ (jP h hs) (KQ h ht hs e)).trans hd
theorem ML.At.gz (h:L.At u m H) {t:Nat} (ht:t<m.bh.length) (k w:Int) (hme:∃d,bd H' L.me=some (.row 2 1 d ((m.mem.map i64).set k.toNat (i64 w)))) (hk:∀y∈L.all,y≠L.me→bd H' y=bd H y):L.At u { m with mem:=m.mem.set k.toNat w } H':=by
 obtain⟨⟨a1,a2,a3,a4,a5,b1,b2,b3,b4,c1,c2,c3,e1,e2,f1⟩,n1,n2,n3,n4,n5,n6⟩:=apart h ht
 have hm:=h.mem
 obtain⟨d1,h1⟩:=h.rM
 obtain⟨d2,h2⟩:=h.rA
 obtain⟨d3,h3⟩:=h.rS
 obtain⟨d4,h4⟩:=hme
 obtain⟨d5,h5⟩:=h.rH
 obtain⟨d6,h6⟩:=h.rP
 refine⟨⟨d1, ?_⟩,⟨d2,(hk _ (hm _ (by simp)) kB).trans h2⟩,⟨d3,(hk _ (hm _ (by simp)) kB).trans h3⟩,fun s hs=> ?_,⟨d4,by rw[List.map_set];exact h4⟩,⟨d5,(hk _ (hm _ (by simp)) kB).trans h5⟩,⟨d6,(hk _ (hm _ (by simp)) kB).trans h6⟩,h.len,h.nodup⟩
 ·rw[show({ m with mem:=m.mem.set k.toNat w }:MS).rows u L.a L.s L.me L.ho L.pr=m.rows u L.a L.s L.me L.ho L.pr by simp[MS.rows]]
  exact(hk _ (by simp) kB).trans h1
 ·obtain⟨d,hd⟩:=h.rL s hs
  obtain⟨m1,m2,m3,m4,m5,m6⟩:=(apart h hs).it
  exact⟨d,(hk _ (jP h hs) kB).trans hd⟩
theorem ML.At.HV (h:L.At u m H) {t:Nat} (ht:t<m.bh.length) (k w:Int) (hho:∃d,bd H' L.ho=some (.row 3 1 d ((m.hold.map i64).set k.toNat (i64 w)))) (hk:∀y∈L.all,y≠L.ho→bd H' y=bd H y):L.At u { m with hold:=m.hold.set k.toNat w } H':=by
 obtain⟨⟨a1,a2,a3,a4,a5,b1,b2,b3,b4,c1,c2,c3,e1,e2,f1⟩,n1,n2,n3,n4,n5,n6⟩:=apart h ht
 have hm:=h.mem
 obtain⟨d1,h1⟩:=h.rM
 obtain⟨d2,h2⟩:=h.rA
 obtain⟨d3,h3⟩:=h.rS
 obtain⟨d4,h4⟩:=h.rE
 obtain⟨d5,h5⟩:=hho
 obtain⟨d6,h6⟩:=h.rP
 refine⟨⟨d1, ?_⟩,⟨d2,(hk _ (hm _ (by simp)) kB).trans h2⟩,⟨d3,(hk _ (hm _ (by simp)) kB).trans h3⟩,fun s hs=> ?_,⟨d4,(hk _ (hm _ (by simp)) kB).trans h4⟩,⟨d5,by rw[List.map_set];exact h5⟩,⟨d6,(hk _ (hm _ (by simp)) kB).trans h6⟩,h.len,h.nodup⟩
 ·rw[show({ m with hold:=m.hold.set k.toNat w }:MS).rows u L.a L.s L.me L.ho L.pr=m.rows u L.a L.s L.me L.ho L.pr by simp[MS.rows]]
  exact(hk _ (by simp) kB).trans h1
 ·obtain⟨d,hd⟩:=h.rL s hs
  obtain⟨m1,m2,m3,m4,m5,m6⟩:=(apart h hs).it
  exact⟨d,(hk _ (jP h hs) kB).trans hd⟩
theorem ML.At.L8 (h:L.At u m H) {t:Nat} (ht:t<m.bh.length) (k:Nat) (w:Int) (hat:∃d,bd H' L.a=some (.row 3 1 d ((m.at_.map i64).set k (i64 w)))) (hk:∀y∈L.all,y≠L.a→bd H' y=bd H y):L.At u { m with at_:=m.at_.set k w } H':=by
 obtain⟨⟨a1,a2,a3,a4,a5,b1,b2,b3,b4,c1,c2,c3,e1,e2,f1⟩,n1,n2,n3,n4,n5,n6⟩:=apart h ht
 have hm:=h.mem
 obtain⟨d1,h1⟩:=h.rM
 obtain⟨d2,h2⟩:=hat
 obtain⟨d3,h3⟩:=h.rS
 obtain⟨d4,h4⟩:=h.rE
 obtain⟨d5,h5⟩:=h.rH
 obtain⟨d6,h6⟩:=h.rP
 refine⟨⟨d1, ?_⟩,⟨d2,by rw[List.map_set];exact h2⟩,⟨d3,(hk _ (hm _ (by simp)) kB).trans h3⟩,fun s hs=> ?_,⟨d4,(hk _ (hm _ (by simp)) kB).trans h4⟩,⟨d5,(hk _ (hm _ (by simp)) kB).trans h5⟩,⟨d6,(hk _ (hm _ (by simp)) kB).trans h6⟩,h.len,h.nodup⟩
 ·rw[show({ m with at_:=m.at_.set k w }:MS).rows u L.a L.s L.me L.ho L.pr=m.rows u L.a L.s L.me L.ho L.pr by simp[MS.rows]]
  exact(hk _ (by simp) kB).trans h1
 ·obtain⟨d,hd⟩:=h.rL s hs
  obtain⟨m1,m2,m3,m4,m5,m6⟩:=(apart h hs).it
  exact⟨d,(hk _ (jP h hs) kB).trans hd⟩
theorem ML.At.JB (h:L.At u m H) {t:Nat} (ht:t<m.bh.length) (p:cY) (hmr:∃d,bd H' L.mr=some (.row 100 8 d [({ m with bo:=m.bo++[p] }:MS).rows u L.a L.s L.me L.ho L.pr])) (hpr:∃d,bd H' L.pr=some (.row 89 2 d (m.bo.map cY.av++[p.av]))) (hk:∀y∈L.all,y≠L.pr→y≠L.mr→bd H' y=bd H y):L.At u { m with bo:=m.bo++[p] } H':=by
 obtain⟨⟨a1,a2,a3,a4,a5,b1,b2,b3,b4,c1,c2,c3,e1,e2,f1⟩,n1,n2,n3,n4,n5,n6⟩:=apart h ht
 have hm:=h.mem
 obtain⟨d2,h2⟩:=h.rA
 obtain⟨d3,h3⟩:=h.rS
 obtain⟨d4,h4⟩:=h.rE
 obtain⟨d5,h5⟩:=h.rH
 obtain⟨d6,h6⟩:=hpr
 refine⟨hmr,⟨d2,(hk _ (hm _ (by simp)) kB kB).trans h2⟩,⟨d3,(hk _ (hm _ (by simp)) kB kB).trans h3⟩,fun s hs=> ?_,⟨d4,(hk _ (hm _ (by simp)) kB kB).trans h4⟩,⟨d5,(hk _ (hm _ (by simp)) kB kB).trans h5⟩,⟨d6,by rw[List.map_append];exact h6⟩,h.len,h.nodup⟩
 obtain⟨d,hd⟩:=h.rL s hs
 obtain⟨m1,m2,m3,m4,m5,m6⟩:=(apart h hs).it
 exact⟨d,(hk _ (jP h hs) kB kB).trans hd⟩
end
end Go.Proofs.YtekfmjjmihomlaaGreat
end
section
/- An action at work: what a value is; a word into a slot. -/
namespace Go.Proofs.YtekfmjjmihomlaaGreat
open Go Go.cN Go.Proofs
set_option linter.unusedSimpArgs false
set_option linter.unusedVariables false
set_option maxRecDepth 8000
def AC (x:AV) (t:Int) (n:Node) (d:fW):List AV:=[x,i64 t,u8 n.kind,u8 n.op,i64 n.slot,i64 n.cH,bl n.a.gm,i64 n.a.slot,i64 n.a.word,bl n.b.gm,i64 n.b.slot,i64 n.b.word,i64 n.next,i64 n.oX,i64 n.origin,i64 d.cT,i64 d.node,u8 d.kind,i64 d.cH,i64 d.word,i64 d.put]
abbrev kZ (u:bf) (m:MS) (t:Int) (n:Node) (d:fW):AV:= .ip 21 .any [.agg (AC (m.fz u) t n d)] 0 0
@[simp] theorem MB (k:Nat) (u:bf) (m:MS) (t:Int) (n:Node) (d:fW):cM k (AC (m.fz u) t n d):=by
  simp[cA,cM,AC]
structure pg (u:bf) (m:MS) (t:Nat) (n:Node) (d:fW) (ab:Nat) (L:ML) (H:Hp):Prop where
 M:L.At u m H
 row:∃dd,bd H ab=some (.row 113 21 dd [.agg (AC (.pt L.mr 1 0 0) t n d)])
 out:ab∉L.all
theorem pg.dM {u:bf} {m:MS} {t:Nat} {n:Node} {d:fW} {ab:Nat} {L:ML} {H:Hp} (h:pg u m t n d ab L H):cN.dM H 6 (.pt ab 1 0 0)=kZ u m t n d:=by
 obtain⟨dd,hr⟩:=h.row
 rw[show cN.dM H 6 (.pt ab 1 0 0)= .ip 21 .any (([.agg (AC (.pt L.mr 1 0 0) t n d)]:List AV).map (cN.dM H 5)) 0 0 from I0 hr rfl]
 simp only[List.map_cons,List.map_nil]
 rw[rZ]
 simp only[AC,List.map_cons,List.map_nil]
 have:=h.M.ym 0
 rw[this]
 simp only[cN.dM]
 rfl
theorem pg.cE {u:bf} {m:MS} {t:Nat} {n:Node} {d:fW} {ab:Nat} {L:ML} {H H':Hp} (h:pg u m t n d ab L H) (hk:∀y∈ab::L.all,bd H' y=bd H y):pg u m t n d ab L H':=by
 obtain⟨dd,hr⟩:=h.row
 exact⟨h.M.cE fun y hy=>hk y (List.mem_cons_of_mem _ hy),⟨dd,(hk ab (by simp)).trans hr⟩,h.out⟩
def kY (m:MS) (t:Nat) (v:j4):Prop:=v.gm=true→0≤v.slot∧v.slot<(m.bh.getD t []).length
theorem gS (u:bf) (m:MS) {t:Nat} (n:Node) (d:fW) (v:j4) (ht:t<m.bh.length) (hl:m.bh.length≤8) (hv:kY m t v):Pure Tryz.prog 122 [kZ u m t n d,v.av] (fun r=>r=i64 (m.val t v)):=by
 unfold MS.val
 have e0:∀d,(m.bh.map cu).getD ((t:Int)).toNat d=cu (m.bh.getD t []):=fun d=>by rw[Int.toNat_natCast];exact dJ cu m.bh t d ht
 have a0:(m.bh.map cu).length=m.bh.length:=by simp
 cases hs:v.gm with
 |true=>
  have r0:=hs
  obtain⟨v1,v2⟩:=hv hs
  have a1:((m.bh.getD t []).map i64).length=(m.bh.getD t []).length:=by simp
  have e1:=fun d=>ln (l:=m.bh.getD t []) (k:=v.slot) (by omega) d
  rw[if_pos rfl]
  refine aI q7 rfl ?_
  refine cU ?_
  first|exact rfl|trivial
 |false=>
  have r0:=hs
  rw[if_neg (by decide)]
  refine aI q7 rfl ?_
  refine cU ?_
  first|exact rfl|trivial
abbrev pX (u:bf) (m:MS) (t:Nat) (n:Node) (d:fW) (ab:Nat) (L:ML) (H0:Hp) (nx:Nat) (H:Hp) (k:Nat):Prop:=pg u m t n d ab L H∧nx≤k∧∀y,y<nx→y≠ab→y∉L.all→bd H y=bd H0 y
theorem DQ {L:ML} {m:MS} {t:Nat} (hl:L.ids.length=m.bh.length) (ht:t<m.bh.length) (d:AV):(df L.ids m.bh).getD t d= .sl (L.it t) (m.bh.getD t []).length:=by
 have h1:t<L.ids.length:=by omega
 have h2:t<(L.ids.zip m.bh).length:=by rw[List.length_zip];omega
 simp[df,List.getD,ht,h1,List.getElem?_eq_getElem h2]
theorem qh {L:ML} {m:MS} (hl:L.ids.length=m.bh.length):(df L.ids m.bh).length=m.bh.length:=by
 unfold df;rw[List.length_map,List.length_zip,hl];simp
theorem cq {x y:Nat} {l:List Nat} (h:x∉l) (hy:y∈l):y≠x:=fun e=>h (e▸hy)
set_option maxHeartbeats 1000000 in
theorem iq {u:bf} {m:MS} {t:Nat} {n:Node} {d:fW} {ab:Nat} {L:ML} {H:Hp} {nx:Nat} (h:pg u m t n d ab L H) (hlt:∀y∈ab::L.all,y<nx) (ht:t<m.bh.length) (hl:m.bh.length≤8) (hs:0≤n.slot∧n.slot<(m.bh.getD t []).length) (w:Int):
 cC Tryz.prog 126 [.pt ab 1 0 0,i64 w] H nx (fun _ H' k=>pX u (m.fR t n.slot w) t n { d with word:=w } ab L H nx H' k):=by
 obtain⟨hM,⟨dd,ra⟩,hout⟩:=h
 obtain⟨⟨a1,a2,a3,a4,a5,b1,b2,b3,b4,c1,c2,c3,e1,e2,f1⟩,n1,n2,n3,n4,n5,n6⟩:=apart hM ht
 have hmem:=hM.mem
 have k0:=hlt ab (by simp)
 have km:=hlt L.mr (by simp)
 have ks:=hlt L.s (List.mem_cons_of_mem _ (hmem _ (by simp)))
 have ki:=hlt (L.it t) (List.mem_cons_of_mem _ (jP hM ht))
 have o1:=cq hout (List.mem_cons_self (a:=L.mr))
 have o2:=cq hout (hmem L.s (by simp))
 have o3:=cq hout (jP hM ht)
 obtain⟨d1,r1⟩:=hM.rM
 obtain⟨d3,r3⟩:=hM.rS
 obtain⟨d7,r7⟩:=hM.rL t ht
 have e0:∀d,(df L.ids m.bh).getD ((t:Int)).toNat d= .sl (L.it t) (m.bh.getD t []).length:=fun d=>by rw[Int.toNat_natCast];exact DQ hM.len ht d
 have q0:=qh hM.len
 have q1:((m.bh.getD t []).map i64).length=(m.bh.getD t []).length:=by simp
 obtain⟨hs1,hs2⟩:=hs
 refine aQ tf rfl ?_
 refine cU ?_
 exact⟨⟨hM.fR ht _ _ ⟨_,bg⟩ fun y hy hne=>by have:=cq hout hy;exact br,⟨_,bg⟩,hout⟩,cZ,fun y y1 y2 y3=>by have y4:=cq y3 (jP hM ht);exact br⟩
end Go.Proofs.YtekfmjjmihomlaaGreat
end
section
/- An action at work: the kinds of nodes. -/
namespace Go.Proofs.YtekfmjjmihomlaaGreat
open Go Go.cN Go.Proofs
set_option linter.unusedSimpArgs false
set_option linter.unusedVariables false
set_option maxRecDepth 8000
set_option maxHeartbeats 2000000
theorem zP {u:bf} {m:MS} {t:Nat} {n:Node} {d:fW} {ab:Nat} {L:ML} {H:Hp} {nx:Nat} (h:pg u m t n d ab L H) (hlt:∀y∈ab::L.all,y<nx) (ht:t<m.bh.length) (hl:m.bh.length≤8) (hth:0≤n.cH∧n.cH<m.hold.length):
 cC Tryz.prog 86 [.pt ab 1 0 0] H nx (fun r H' k=>r=i64 n.next∧pX u { m with hold:=m.hold.set n.cH.toNat t } t n { d with cH:=n.cH } ab L H nx H' k):=by
 have hfr:∀(v:j4) (H1:Hp),(∀y∈ab::L.all,bd H1 y=bd H y)→[.pt ab 1 0 0,v.av].map (cN.dM H1 6)=[kZ u m t n d,v.av]:=fun v H1 h1=>by
  rw[List.map_cons,List.map_cons,List.map_nil,(h.cE h1).dM,dW _ (show cA 0 v.av by simp[cA])]
 have h0:=h
 obtain⟨hM,⟨dd,ra⟩,hout⟩:=h
 obtain⟨⟨a1,a2,a3,a4,a5,b1,b2,b3,b4,c1,c2,c3,e1',e2',f1⟩,n1,n2,n3,n4,n5,n6⟩:=apart hM ht
 have hmem:=hM.mem
 have k0:=hlt ab (by simp)
 have km:=hlt L.mr (by simp)
 have ke:=hlt L.me (List.mem_cons_of_mem _ (hmem _ (by simp)))
 have kh:=hlt L.ho (List.mem_cons_of_mem _ (hmem _ (by simp)))
 have kp:=hlt L.pr (List.mem_cons_of_mem _ (hmem _ (by simp)))
 have o1:=cq hout (List.mem_cons_self (a:=L.mr))
 have o2:=cq hout (hmem L.me (by simp))
 have o3:=cq hout (hmem L.ho (by simp))
 have o4:=cq hout (hmem L.pr (by simp))
 clear a1 a2 a4 b1 b2 b3 b4 c1 c2 c3 e1' e2' f1 n1 n2 n3 n4 n5 n6
 obtain⟨d1,r1⟩:=hM.rM
 obtain⟨d3,r4⟩:=hM.rE
 obtain⟨d5,r5⟩:=hM.rH
 obtain⟨d6,r6⟩:=hM.rP
 have q1:(m.mem.map i64).length=m.mem.length:=by simp
 have q2:(m.hold.map i64).length=m.hold.length:=by simp
 have q3:(m.bo.map cY.av).length=m.bo.length:=by simp
 refine aQ CZ rfl ?_
 refine cU ?_
 exact⟨⟨rfl,⟨hM.HV ht _ _ ⟨_,bg⟩ fun y hy hne=>by have:=cq hout hy;exact br,⟨_,bg⟩,hout⟩,cZ,fun y y1 y2 y3=>by have y4:=cq y3 (hmem L.ho (by simp));exact br⟩⟩
theorem uy {u:bf} {m:MS} {t:Nat} {n:Node} {d:fW} {ab:Nat} {L:ML} {H:Hp} {nx:Nat} (h:pg u m t n d ab L H) (hlt:∀y∈ab::L.all,y<nx) (ht:t<m.bh.length) (hl:m.bh.length≤8) (hth:0≤n.cH∧n.cH<m.hold.length):
 cC Tryz.prog 87 [.pt ab 1 0 0] H nx (fun r H' k=>r=i64 n.next∧pX u { m with hold:=m.hold.set n.cH.toNat (-1) } t n { d with cH:=n.cH } ab L H nx H' k):=by
 have hfr:∀(v:j4) (H1:Hp),(∀y∈ab::L.all,bd H1 y=bd H y)→[.pt ab 1 0 0,v.av].map (cN.dM H1 6)=[kZ u m t n d,v.av]:=fun v H1 h1=>by
  rw[List.map_cons,List.map_cons,List.map_nil,(h.cE h1).dM,dW _ (show cA 0 v.av by simp[cA])]
 have h0:=h
 obtain⟨hM,⟨dd,ra⟩,hout⟩:=h
 obtain⟨⟨a1,a2,a3,a4,a5,b1,b2,b3,b4,c1,c2,c3,e1',e2',f1⟩,n1,n2,n3,n4,n5,n6⟩:=apart hM ht
 have hmem:=hM.mem
 have k0:=hlt ab (by simp)
 have km:=hlt L.mr (by simp)
 have ke:=hlt L.me (List.mem_cons_of_mem _ (hmem _ (by simp)))
 have kh:=hlt L.ho (List.mem_cons_of_mem _ (hmem _ (by simp)))
 have kp:=hlt L.pr (List.mem_cons_of_mem _ (hmem _ (by simp)))
 have o1:=cq hout (List.mem_cons_self (a:=L.mr))
 have o2:=cq hout (hmem L.me (by simp))
 have o3:=cq hout (hmem L.ho (by simp))
 have o4:=cq hout (hmem L.pr (by simp))
 clear a1 a2 a4 b1 b2 b3 b4 c1 c2 c3 e1' e2' f1 n1 n2 n3 n4 n5 n6
 obtain⟨d1,r1⟩:=hM.rM
 obtain⟨d3,r4⟩:=hM.rE
 obtain⟨d5,r5⟩:=hM.rH
 obtain⟨d6,r6⟩:=hM.rP
 have q1:(m.mem.map i64).length=m.mem.length:=by simp
 have q2:(m.hold.map i64).length=m.hold.length:=by simp
 have q3:(m.bo.map cY.av).length=m.bo.length:=by simp
 refine aQ C0 rfl ?_
 refine cU ?_
 exact⟨⟨rfl,⟨hM.HV ht _ _ ⟨_,bg⟩ fun y hy hne=>by have:=cq hout hy;exact br,⟨_,bg⟩,hout⟩,cZ,fun y y1 y2 y3=>by have y4:=cq y3 (hmem L.ho (by simp));exact br⟩⟩
theorem sa {u:bf} {m:MS} {t:Nat} {n:Node} {d:fW} {ab:Nat} {L:ML} {H:Hp} {nx:Nat} (h:pg u m t n d ab L H) (hlt:∀y∈ab::L.all,y<nx) (ht:t<m.bh.length) (hl:m.bh.length≤8) (hva:kY m t n.a):
 cC Tryz.prog 89 [.pt ab 1 0 0] H nx (fun r H' k=>r=i64 (if m.val t n.a=0 then n.oX else n.next)∧pX u m t n { d with word:=m.val t n.a } ab L H nx H' k):=by
 have hfr:∀(v:j4) (H1:Hp),(∀y∈ab::L.all,bd H1 y=bd H y)→[.pt ab 1 0 0,v.av].map (cN.dM H1 6)=[kZ u m t n d,v.av]:=fun v H1 h1=>by
  rw[List.map_cons,List.map_cons,List.map_nil,(h.cE h1).dM,dW _ (show cA 0 v.av by simp[cA])]
 have h0:=h
 obtain⟨hM,⟨dd,ra⟩,hout⟩:=h
 obtain⟨⟨a1,a2,a3,a4,a5,b1,b2,b3,b4,c1,c2,c3,e1',e2',f1⟩,n1,n2,n3,n4,n5,n6⟩:=apart hM ht
 have hmem:=hM.mem
 have k0:=hlt ab (by simp)
 have km:=hlt L.mr (by simp)
 have ke:=hlt L.me (List.mem_cons_of_mem _ (hmem _ (by simp)))
 have kh:=hlt L.ho (List.mem_cons_of_mem _ (hmem _ (by simp)))
 have kp:=hlt L.pr (List.mem_cons_of_mem _ (hmem _ (by simp)))
 have o1:=cq hout (List.mem_cons_self (a:=L.mr))
 have o2:=cq hout (hmem L.me (by simp))
 have o3:=cq hout (hmem L.ho (by simp))
 have o4:=cq hout (hmem L.pr (by simp))
 clear a1 a2 a4 b1 b2 b3 b4 c1 c2 c3 e1' e2' f1 n1 n2 n3 n4 n5 n6
 obtain⟨d1,r1⟩:=hM.rM
 obtain⟨d3,r4⟩:=hM.rE
 obtain⟨d5,r5⟩:=hM.rH
 obtain⟨d6,r6⟩:=hM.rP
 have q1:(m.mem.map i64).length=m.mem.length:=by simp
 have q2:(m.hold.map i64).length=m.hold.length:=by simp
 have q3:(m.bo.map cY.av).length=m.bo.length:=by simp
 by_cases hz:m.val t n.a=0
 ·rw[if_pos hz]
  refine aQ zL rfl ?_
  refine cU ?_
  refine aT (gS u m n d n.a ht hl hva) (hfr n.a _ ?_) (by simp[cM,cA]) trivial ?_
  ·exact fun y hy=>rfl
  refine cU ?_
  exact⟨⟨rfl,⟨hM.cE fun y hy=>by have:=cq hout hy;exact br,⟨_,bg⟩,hout⟩,cZ,fun y y1 y2 y3=>br⟩⟩
 ·rw[if_neg hz]
  refine aQ zL rfl ?_
  refine cU ?_
  refine aT (gS u m n d n.a ht hl hva) (hfr n.a _ ?_) (by simp[cM,cA]) trivial ?_
  ·exact fun y hy=>rfl
  refine cU ?_
  exact⟨⟨rfl,⟨hM.cE fun y hy=>by have:=cq hout hy;exact br,⟨_,bg⟩,hout⟩,cZ,fun y y1 y2 y3=>br⟩⟩
theorem zO {u:bf} {m:MS} {t:Nat} {n:Node} {d:fW} {ab:Nat} {L:ML} {H:Hp} {nx:Nat} (h:pg u m t n d ab L H) (hlt:∀y∈ab::L.all,y<nx) (ht:t<m.bh.length) (hl:m.bh.length≤8) (hs:0≤n.slot∧n.slot<(m.bh.getD t []).length) (hth:0≤n.cH∧n.cH<m.mem.length):
 cC Tryz.prog 83 [.pt ab 1 0 0] H nx (fun r H' k=>r=i64 n.next∧pX u (m.fR t n.slot (m.mem.getD n.cH.toNat 0)) t n { d with cH:=n.cH,word:=m.mem.getD n.cH.toNat 0 } ab L H nx H' k):=by
 have hfr:∀(v:j4) (H1:Hp),(∀y∈ab::L.all,bd H1 y=bd H y)→[.pt ab 1 0 0,v.av].map (cN.dM H1 6)=[kZ u m t n d,v.av]:=fun v H1 h1=>by
  rw[List.map_cons,List.map_cons,List.map_nil,(h.cE h1).dM,dW _ (show cA 0 v.av by simp[cA])]
 have h0:=h
 obtain⟨hM,⟨dd,ra⟩,hout⟩:=h
 obtain⟨⟨a1,a2,a3,a4,a5,b1,b2,b3,b4,c1,c2,c3,e1',e2',f1⟩,n1,n2,n3,n4,n5,n6⟩:=apart hM ht
 have hmem:=hM.mem
 have k0:=hlt ab (by simp)
 have km:=hlt L.mr (by simp)
 have ke:=hlt L.me (List.mem_cons_of_mem _ (hmem _ (by simp)))
 have kh:=hlt L.ho (List.mem_cons_of_mem _ (hmem _ (by simp)))
 have kp:=hlt L.pr (List.mem_cons_of_mem _ (hmem _ (by simp)))
 have o1:=cq hout (List.mem_cons_self (a:=L.mr))
 have o2:=cq hout (hmem L.me (by simp))
 have o3:=cq hout (hmem L.ho (by simp))
 have o4:=cq hout (hmem L.pr (by simp))
 clear a1 a2 a4 b1 b2 b3 b4 c1 c2 c3 e1' e2' f1 n1 n2 n3 n4 n5 n6
 obtain⟨d1,r1⟩:=hM.rM
 obtain⟨d3,r4⟩:=hM.rE
 obtain⟨d5,r5⟩:=hM.rH
 obtain⟨d6,r6⟩:=hM.rP
 have q1:(m.mem.map i64).length=m.mem.length:=by simp
 have q2:(m.hold.map i64).length=m.hold.length:=by simp
 have q3:(m.bo.map cY.av).length=m.bo.length:=by simp
 have e0:=fun d=>ln (l:=m.mem) (k:=n.cH) (by omega) d
 refine aQ CW rfl ?_
 refine cU ?_
 refine aJ (iq (u:=u) (t:=t) (n:=n) (d:={ d with cH:=n.cH }) (L:=L) (m:=m) (ab:=ab) ?_ ?_ ht hl hs _) ?_
 ·exact⟨hM.cE fun y hy=>by have:=cq hout hy;exact br,⟨_,bg⟩,hout⟩
 ·exact fun y hy=>Nat.lt_of_lt_of_le (hlt y hy) cZ
 rintro _ H2 n2 ⟨hA,hn2,hk2⟩
 obtain⟨dd2,ra2⟩:=hA.row
 refine cU ?_
 exact⟨⟨rfl,hA.cE fun y hy=>br,cZ,fun y y1 y2 y3=>Eq.trans br ((hk2 y (Nat.lt_of_lt_of_le y1 cZ) y2 y3).trans br)⟩⟩
theorem wj {u:bf} {m:MS} {t:Nat} {n:Node} {d:fW} {ab:Nat} {L:ML} {H:Hp} {nx:Nat} (h:pg u m t n d ab L H) (hlt:∀y∈ab::L.all,y<nx) (ht:t<m.bh.length) (hl:m.bh.length≤8) (hva:kY m t n.a) (hth:0≤n.cH∧n.cH<m.mem.length):
 cC Tryz.prog 84 [.pt ab 1 0 0] H nx (fun r H' k=>r=i64 n.next∧pX u { m with mem:=m.mem.set n.cH.toNat (m.val t n.a) } t n { d with cH:=n.cH,word:=m.val t n.a } ab L H nx H' k):=by
 have hfr:∀(v:j4) (H1:Hp),(∀y∈ab::L.all,bd H1 y=bd H y)→[.pt ab 1 0 0,v.av].map (cN.dM H1 6)=[kZ u m t n d,v.av]:=fun v H1 h1=>by
  rw[List.map_cons,List.map_cons,List.map_nil,(h.cE h1).dM,dW _ (show cA 0 v.av by simp[cA])]
 have h0:=h
 obtain⟨hM,⟨dd,ra⟩,hout⟩:=h
 obtain⟨⟨a1,a2,a3,a4,a5,b1,b2,b3,b4,c1,c2,c3,e1',e2',f1⟩,n1,n2,n3,n4,n5,n6⟩:=apart hM ht
 have hmem:=hM.mem
 have k0:=hlt ab (by simp)
 have km:=hlt L.mr (by simp)
 have ke:=hlt L.me (List.mem_cons_of_mem _ (hmem _ (by simp)))
 have kh:=hlt L.ho (List.mem_cons_of_mem _ (hmem _ (by simp)))
 have kp:=hlt L.pr (List.mem_cons_of_mem _ (hmem _ (by simp)))
 have o1:=cq hout (List.mem_cons_self (a:=L.mr))
 have o2:=cq hout (hmem L.me (by simp))
 have o3:=cq hout (hmem L.ho (by simp))
 have o4:=cq hout (hmem L.pr (by simp))
 clear a1 a2 a4 b1 b2 b3 b4 c1 c2 c3 e1' e2' f1 n1 n2 n3 n4 n5 n6
 obtain⟨d1,r1⟩:=hM.rM
 obtain⟨d3,r4⟩:=hM.rE
 obtain⟨d5,r5⟩:=hM.rH
 obtain⟨d6,r6⟩:=hM.rP
 have q1:(m.mem.map i64).length=m.mem.length:=by simp
 have q2:(m.hold.map i64).length=m.hold.length:=by simp
 have q3:(m.bo.map cY.av).length=m.bo.length:=by simp
 refine aQ CX rfl ?_
 refine cU ?_
 refine aX (ab::L.all) (gS u m n d n.a ht hl hva) (fun H1 h1=>hfr n.a H1 h1) (by simp[cM,cA]) trivial ?_
 refine Eq.mpr (pF (ab::L.all) _) (pR ?_)
 refine cU ?_
 exact⟨⟨rfl,⟨hM.gz ht _ _ ⟨_,bg⟩ fun y hy hne=>by have:=cq hout hy;exact br,⟨_,bg⟩,hout⟩,cZ,fun y y1 y2 y3=>by have y4:=cq y3 (hmem L.me (by simp));exact br⟩⟩
theorem wR {u:bf} {m:MS} {t:Nat} {n:Node} {d:fW} {ab:Nat} {L:ML} {H:Hp} {nx:Nat} (h:pg u m t n d ab L H) (hlt:∀y∈ab::L.all,y<nx) (ht:t<m.bh.length) (hl:m.bh.length≤8) (hva:kY m t n.a) (hpl:m.bo.length≤1048576):
 cC Tryz.prog 88 [.pt ab 1 0 0] H nx (fun r H' k=>r=i64 n.next∧pX u { m with bo:=m.bo++[⟨t,m.val t n.a⟩] } t n { d with word:=m.val t n.a } ab L H nx H' k):=by
 have hfr:∀(v:j4) (H1:Hp),(∀y∈ab::L.all,bd H1 y=bd H y)→[.pt ab 1 0 0,v.av].map (cN.dM H1 6)=[kZ u m t n d,v.av]:=fun v H1 h1=>by
  rw[List.map_cons,List.map_cons,List.map_nil,(h.cE h1).dM,dW _ (show cA 0 v.av by simp[cA])]
 have h0:=h
 obtain⟨hM,⟨dd,ra⟩,hout⟩:=h
 obtain⟨⟨a1,a2,a3,a4,a5,b1,b2,b3,b4,c1,c2,c3,e1',e2',f1⟩,n1,n2,n3,n4,n5,n6⟩:=apart hM ht
 have hmem:=hM.mem
 have k0:=hlt ab (by simp)
 have km:=hlt L.mr (by simp)
 have ke:=hlt L.me (List.mem_cons_of_mem _ (hmem _ (by simp)))
 have kh:=hlt L.ho (List.mem_cons_of_mem _ (hmem _ (by simp)))
 have kp:=hlt L.pr (List.mem_cons_of_mem _ (hmem _ (by simp)))
 have o1:=cq hout (List.mem_cons_self (a:=L.mr))
 have o2:=cq hout (hmem L.me (by simp))
 have o3:=cq hout (hmem L.ho (by simp))
 have o4:=cq hout (hmem L.pr (by simp))
 clear a1 a2 a4 b1 b2 b3 b4 c1 c2 c3 e1' e2' f1 n1 n2 n3 n4 n5 n6
 obtain⟨d1,r1⟩:=hM.rM
 obtain⟨d3,r4⟩:=hM.rE
 obtain⟨d5,r5⟩:=hM.rH
 obtain⟨d6,r6⟩:=hM.rP
 have q1:(m.mem.map i64).length=m.mem.length:=by simp
 have q2:(m.hold.map i64).length=m.hold.length:=by simp
 have q3:(m.bo.map cY.av).length=m.bo.length:=by simp
 refine aQ C1 rfl ?_
 refine cU ?_
 refine aT (gS u m n d n.a ht hl hva) (hfr n.a _ ?_) (by simp[cM,cA]) trivial ?_
 ·exact fun y hy=>rfl
 refine cU ?_
 exact⟨⟨rfl,⟨hM.JB ht _ ⟨_,by simp only[MS.rows,List.length_append,List.length_cons,List.length_nil];exact bg⟩ ⟨_,bg⟩ fun y hy hne hn2=>by have:=cq hout hy;have:=hlt y (List.mem_cons_of_mem _ hy);exact br,⟨_,bg⟩,hout⟩,cZ,fun y y1 y2 y3=>by have y4:=cq y3 (List.mem_cons_self (a:=L.mr));have y5:=cq y3 (hmem L.pr (by simp));exact br⟩⟩
theorem zl {u:bf} {m:MS} {t:Nat} {n:Node} {d:fW} {ab:Nat} {L:ML} {H:Hp} {nx:Nat} (h:pg u m t n d ab L H) (hlt:∀y∈ab::L.all,y<nx) (ht:t<m.bh.length) (hl:m.bh.length≤8) (hva:kY m t n.a) (hs:0≤n.slot∧n.slot<(m.bh.getD t []).length) (hth:0≤n.cH∧n.cH<m.mem.length):
 cC Tryz.prog 85 [.pt ab 1 0 0] H nx (fun r H' k=>r=i64 n.next∧pX u { m.fR t n.slot (m.mem.getD n.cH.toNat 0) with mem:=m.mem.set n.cH.toNat (m.val t n.a) } t n { d with cH:=n.cH,word:=m.mem.getD n.cH.toNat 0,put:=m.val t n.a } ab L H nx H' k):=by
 have hfr:∀(v:j4) (H1:Hp),(∀y∈ab::L.all,bd H1 y=bd H y)→[.pt ab 1 0 0,v.av].map (cN.dM H1 6)=[kZ u m t n d,v.av]:=fun v H1 h1=>by
  rw[List.map_cons,List.map_cons,List.map_nil,(h.cE h1).dM,dW _ (show cA 0 v.av by simp[cA])]
 have h0:=h
 obtain⟨hM,⟨dd,ra⟩,hout⟩:=h
 obtain⟨⟨a1,a2,a3,a4,a5,b1,b2,b3,b4,c1,c2,c3,e1',e2',f1⟩,n1,n2,n3,n4,n5,n6⟩:=apart hM ht
 have hmem:=hM.mem
 have k0:=hlt ab (by simp)
 have km:=hlt L.mr (by simp)
 have ke:=hlt L.me (List.mem_cons_of_mem _ (hmem _ (by simp)))
 have kh:=hlt L.ho (List.mem_cons_of_mem _ (hmem _ (by simp)))
 have kp:=hlt L.pr (List.mem_cons_of_mem _ (hmem _ (by simp)))
 have o1:=cq hout (List.mem_cons_self (a:=L.mr))
 have o2:=cq hout (hmem L.me (by simp))
 have o3:=cq hout (hmem L.ho (by simp))
 have o4:=cq hout (hmem L.pr (by simp))
 clear a1 a2 a4 b1 b2 b3 b4 c1 c2 c3 e1' e2' f1 n1 n2 n3 n4 n5 n6
 obtain⟨d1,r1⟩:=hM.rM
 obtain⟨d3,r4⟩:=hM.rE
 obtain⟨d5,r5⟩:=hM.rH
 obtain⟨d6,r6⟩:=hM.rP
 have q1:(m.mem.map i64).length=m.mem.length:=by simp
 have q2:(m.hold.map i64).length=m.hold.length:=by simp
 have q3:(m.bo.map cY.av).length=m.bo.length:=by simp
 have e0:=fun d=>ln (l:=m.mem) (k:=n.cH) (by omega) d
 refine aQ CY rfl ?_
 refine cU ?_
 refine aX (ab::L.all) (gS u m n d n.a ht hl hva) (fun H1 h1=>hfr n.a H1 h1) (by simp[cM,cA]) trivial ?_
 refine Eq.mpr (pF (ab::L.all) _) (pR ?_)
 refine cU ?_
 refine aJ (iq (u:=u) (t:=t) (n:=n) (d:={ d with cH:=n.cH,put:=m.val t n.a }) (L:=L) (m:=m) (ab:=ab) ?_ ?_ ht hl hs _) ?_
 ·exact⟨hM.cE fun y hy=>by have:=cq hout hy;exact br,⟨_,bg⟩,hout⟩
 ·exact fun y hy=>Nat.lt_of_lt_of_le (hlt y hy) cZ
 rintro _ H2 n2 ⟨hA,hn2,hk2⟩
 obtain⟨dd2,ra2⟩:=hA.row
 obtain⟨d8,r8⟩:=hA.M.rM
 obtain⟨d9,r9⟩:=hA.M.rE
 refine cU ?_
 have ht2:t<(m.fR t n.slot (m.mem.getD n.cH.toNat 0)).bh.length:=by simp only[MS.fR,List.length_set];exact ht
 exact⟨⟨rfl,⟨hA.M.gz ht2 _ _ ⟨_,bg⟩ fun y hy hne=>by have:=cq hout hy;exact br,⟨_,bg⟩,hout⟩,cZ,fun y y1 y2 y3=>by have y4:=cq y3 (hmem L.me (by simp));exact Eq.trans br ((hk2 y (Nat.lt_of_lt_of_le y1 cZ) y2 y3).trans br)⟩⟩
theorem DP {u:bf} {m:MS} {t:Nat} {n:Node} {d:fW} {ab:Nat} {L:ML} {H:Hp} {nx:Nat} (h:pg u m t n d ab L H) (hlt:∀y∈ab::L.all,y<nx) (ht:t<m.bh.length) (hl:m.bh.length≤8) (hs:0≤n.slot∧n.slot<(m.bh.getD t []).length) (hva:kY m t n.a) (hvb:dK n.op=true→kY m t n.b) (hop:0≤n.op∧n.op<19):
 cC Tryz.prog 82 [.pt ab 1 0 0] H nx (fun r H' k=>r=i64 n.next∧pX u (m.fR t n.slot (m.w8 t n)) t n { d with word:=m.w8 t n } ab L H nx H' k):=by
 have hfr:∀(v:j4) (H1:Hp),(∀y∈ab::L.all,bd H1 y=bd H y)→[.pt ab 1 0 0,v.av].map (cN.dM H1 6)=[kZ u m t n d,v.av]:=fun v H1 h1=>by
  rw[List.map_cons,List.map_cons,List.map_nil,(h.cE h1).dM,dW _ (show cA 0 v.av by simp[cA])]
 have h0:=h
 obtain⟨hM,⟨dd,ra⟩,hout⟩:=h
 obtain⟨⟨a1,a2,a3,a4,a5,b1,b2,b3,b4,c1,c2,c3,e1',e2',f1⟩,n1,n2,n3,n4,n5,n6⟩:=apart hM ht
 have hmem:=hM.mem
 have k0:=hlt ab (by simp)
 have km:=hlt L.mr (by simp)
 have ke:=hlt L.me (List.mem_cons_of_mem _ (hmem _ (by simp)))
 have kh:=hlt L.ho (List.mem_cons_of_mem _ (hmem _ (by simp)))
 have kp:=hlt L.pr (List.mem_cons_of_mem _ (hmem _ (by simp)))
 have o1:=cq hout (List.mem_cons_self (a:=L.mr))
 have o2:=cq hout (hmem L.me (by simp))
 have o3:=cq hout (hmem L.ho (by simp))
 have o4:=cq hout (hmem L.pr (by simp))
 clear a1 a2 a4 b1 b2 b3 b4 c1 c2 c3 e1' e2' f1 n1 n2 n3 n4 n5 n6
 obtain⟨d1,r1⟩:=hM.rM
 obtain⟨d3,r4⟩:=hM.rE
 obtain⟨d5,r5⟩:=hM.rH
 obtain⟨d6,r6⟩:=hM.rP
 have q1:(m.mem.map i64).length=m.mem.length:=by simp
 have q2:(m.hold.map i64).length=m.hold.length:=by simp
 have q3:(m.bo.map cY.av).length=m.bo.length:=by simp
 have c0:=eO n.op hop.1
 unfold MS.w8
 cases h2:dK n.op with
 |true=>
  rw[h2] at c0
  have c1:=IA n.op (m.val t n.a) (m.val t n.b) h2
  have hvb:=hvb h2
  rw[if_pos rfl]
  refine aQ wC rfl ?_
  refine cU ?_
  refine aT (gS u m n d n.a ht hl hva) (hfr n.a _ ?_) (by simp[cM,cA]) trivial ?_
  ·exact fun y hy=>rfl
  refine cU ?_
  refine aX (ab::L.all) (gS u m n d n.b ht hl hvb) (fun H1 h1=>hfr n.b H1 h1) (by simp[cM,cA]) trivial ?_
  refine Eq.mpr (pF (ab::L.all) _) (pR ?_)
  refine cU ?_
  refine aJ (iq (u:=u) (t:=t) (n:=n) (d:=d) (L:=L) (m:=m) (ab:=ab) ?_ ?_ ht hl hs _) ?_
  ·exact⟨hM.cE fun y hy=>by have:=cq hout hy;exact br,⟨_,bg⟩,hout⟩
  ·exact fun y hy=>Nat.lt_of_lt_of_le (hlt y hy) cZ
  rintro _ H2 n2 ⟨hA,hn2,hk2⟩
  obtain⟨dd2,ra2⟩:=hA.row
  refine cU ?_
  exact⟨⟨rfl,hA.cE fun y hy=>br,cZ,fun y y1 y2 y3=>Eq.trans br ((hk2 y (Nat.lt_of_lt_of_le y1 cZ) y2 y3).trans br)⟩⟩
 |false=>
  rw[h2] at c0
  rw[if_neg (by decide)]
  by_cases h0':n.op=0
  ·rw[if_neg (fun e=>e h0')]
   refine aQ wC rfl ?_
   refine cU ?_
   refine aT (gS u m n d n.a ht hl hva) (hfr n.a _ ?_) (by simp[cM,cA]) trivial ?_
   ·exact fun y hy=>rfl
   refine cU ?_
   refine aJ (iq (u:=u) (t:=t) (n:=n) (d:=d) (L:=L) (m:=m) (ab:=ab) ?_ ?_ ht hl hs _) ?_
   ·exact⟨hM.cE fun y hy=>by have:=cq hout hy;exact br,⟨_,bg⟩,hout⟩
   ·exact fun y hy=>Nat.lt_of_lt_of_le (hlt y hy) cZ
   rintro _ H2 n2 ⟨hA,hn2,hk2⟩
   obtain⟨dd2,ra2⟩:=hA.row
   refine cU ?_
   exact⟨⟨rfl,hA.cE fun y hy=>br,cZ,fun y y1 y2 y3=>Eq.trans br ((hk2 y (Nat.lt_of_lt_of_le y1 cZ) y2 y3).trans br)⟩⟩
  ·rw[if_pos h0']
   have c1:=EA n.op (m.val t n.a) (by unfold dK at h2;simp only[Bool.and_eq_false_iff,decide_eq_false_iff_not] at h2;omega)
   refine aQ wC rfl ?_
   refine cU ?_
   refine aT (gS u m n d n.a ht hl hva) (hfr n.a _ ?_) (by simp[cM,cA]) trivial ?_
   ·exact fun y hy=>rfl
   refine cU ?_
   refine aJ (iq (u:=u) (t:=t) (n:=n) (d:=d) (L:=L) (m:=m) (ab:=ab) ?_ ?_ ht hl hs _) ?_
   ·exact⟨hM.cE fun y hy=>by have:=cq hout hy;exact br,⟨_,bg⟩,hout⟩
   ·exact fun y hy=>Nat.lt_of_lt_of_le (hlt y hy) cZ
   rintro _ H2 n2 ⟨hA,hn2,hk2⟩
   obtain⟨dd2,ra2⟩:=hA.row
   refine cU ?_
   exact⟨⟨rfl,hA.cE fun y hy=>br,cZ,fun y y1 y2 y3=>Eq.trans br ((hk2 y (Nat.lt_of_lt_of_le y1 cZ) y2 y3).trans br)⟩⟩
end Go.Proofs.YtekfmjjmihomlaaGreat
end
