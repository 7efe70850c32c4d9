import Derived.Test.YtjopoheligmmoaaGreatDoorM32
section
/- A step keeps a situation right. -/
namespace Go.Proofs.YtjopoheligmmoaaGreatDoor
open Go Go.cY Go.Proofs
set_option linter.unusedSimpArgs false
set_option linter.unusedVariables false
theorem tO (n:Int):eN (wm n):=by unfold eN wm;rw[IntKind.wrap_i64];omega
theorem VU {p:Prop} [Decidable p] {a b:Int} (h1:eN a) (h2:eN b):eN (if p then a else b):=by
 split
 ·exact h1
 ·exact h2
theorem UO (t:Bool):eN (tr t):=by unfold tr eN;split<;>omega
theorem TH {a:Int} (h:eN a) (b:Int):eN (TG a b):=by
 unfold TG
 have hd:(1:Int)≤2^(min (L5 b).toNat 64):=Int.le_of_lt_add_one (by have:(0:Int)<2^(min (L5 b).toNat 64):=Int.pow_pos (by omega);omega)
 generalize (2:Int)^(min (L5 b).toNat 64)=d at *
 rw[Int.fdiv_eq_ediv_of_nonneg _ (by omega)]
 have h1:=Int.mul_ediv_add_emod a d
 have h2:=Int.emod_nonneg a (b:=d) (by omega)
 have h3:=Int.emod_lt_of_pos a (b:=d) (by omega)
 obtain⟨h4,h5⟩:=h
 generalize a /d=q at *
 generalize a%d=r at *
 constructor
 ·apply Int.not_lt.1
  intro hq
  have:d * (q+1)≤1 * (q+1):=Int.mul_le_mul_of_nonpos_right hd (by omega)
  rw[Int.mul_add] at this
  omega
 ·apply Int.not_le.1
  intro hq
  have:1 * q≤d * q:=Int.mul_le_mul_of_nonneg_right hd (by omega)
  omega
theorem TX {a b:Int} (ha:eN a) (op:Int):eN (TW op a b):=by
 have hq:eN (KB a b):=by
  unfold KB
  split
  ·exact⟨by omega,by omega⟩
  ·split
   ·exact tO _
   ·exact tO _
 have hm:eN (PE a b):=by
  unfold PE
  split
  ·exact ha
  ·exact tO _
 unfold TW
 repeat' (with_reducible refine VU ?_ ?_)
 all_goals first
  |exact UO _
  |exact TH ha _
  |exact hq
  |exact hm
  |exact tO _
theorem S3 (op a:Int):eN (S1 op a):=by
 unfold S1
 split
 ·exact tO _
 ·exact UO _
theorem getD_none {α:Type} {l:List α} {k:Nat} {d:α} (h:l.length≤k):l.getD k d=d:=by simp[List.getD,List.getElem?_eq_none h]
section
variable {u:bu} {m:MS} {t:Nat}
theorem TJ (h:eO u m) (ht:t<u.bw.length) (k:Nat):eN ((m.bz.getD t []).getD k 0):=by
 by_cases hk:k<(m.bz.getD t []).length
 ·exact h.DY t ht _ (cS 0 hk)
 ·rw[getD_none (Nat.le_of_not_lt hk)]
  exact⟨by omega,by omega⟩
theorem EC (h:eO u m) (ht:t<u.bw.length) {v:l3} (hv:v.Wf):eN (m.val t v):=by
 unfold MS.val
 split
 ·exact TJ h ht _
 ·exact hv.word
theorem TF (h:eO u m) (ht:t<u.bw.length) {n:Node} (hn:n.Wf):eN (m.DS t n):=by
 unfold MS.DS
 split
 ·exact TX (EC h ht hn.a) _
 ·split
  ·exact S3 _ _
  ·exact EC h ht hn.a
theorem nw {α:Type} {l:List α} {i:Nat} {a x:α} (h:x∈l.set i a):x∈l∨x=a:=by
 rcases List.mem_or_eq_of_mem_set h with h|h
 ·exact .inl h
 ·exact .inr h
theorem getD_set_ne {α:Type} {l:List α} {i j:Nat} {v d:α} (h:i≠j):(l.set i v).getD j d=l.getD j d:=by simp[List.getD,List.getElem?_set_ne h]
theorem eO.gZ (h:eO u m) (k w:Int) (hw:eN w):eO u (m.gZ t k w) where
 oH:=h.oH
 gU:=h.gU
 sl:=by simp only[MS.gZ,List.length_set];exact h.sl
 DX:=fun s hs=>by
  simp only[MS.gZ]
  by_cases e:t=s
  ·subst e
   rw[ed (by rw[h.sl];exact hs),List.length_set]
   exact h.DX t hs
  ·rw[getD_set_ne e];exact h.DX s hs
 DY:=fun s hs x hx=>by
  simp only[MS.gZ] at hx
  by_cases e:t=s
  ·subst e
   rw[ed (by rw[h.sl];exact hs)] at hx
   rcases nw hx with hx|rfl
   ·exact h.DY t hs x hx
   ·exact hw
  ·rw[getD_set_ne e] at hx;exact h.DY s hs x hx
 ml:=h.ml
 mw:=h.mw
 hl:=h.hl
 hw:=h.hw
 pw:=h.pw
theorem eO.mem (h:eO u m) (k:Nat) (w:Int) (hw:eN w):eO u { m with mem:=m.mem.set k w } where
 oH:=h.oH
 gU:=h.gU
 sl:=h.sl
 DX:=h.DX
 DY:=h.DY
 ml:=by simp only[List.length_set];exact h.ml
 mw:=fun x hx=>by
  rcases nw hx with hx|rfl
  ·exact h.mw x hx
  ·exact hw
 hl:=h.hl
 hw:=h.hw
 pw:=h.pw
theorem eO.hold (h:eO u m) (k:Nat) (w:Int) (hw:-1≤w∧w<u.bw.length):eO u { m with hold:=m.hold.set k w } where
 oH:=h.oH
 gU:=h.gU
 sl:=h.sl
 DX:=h.DX
 DY:=h.DY
 ml:=h.ml
 mw:=h.mw
 hl:=by simp only[List.length_set];exact h.hl
 hw:=fun x hx=>by
  rcases nw hx with hx|rfl
  ·exact h.hw x hx
  ·exact hw
 pw:=h.pw
theorem eO.print (h:eO u m) (p:dV) (hp:0≤p.db∧p.db<u.bw.length∧eN p.word):eO u { m with cN:=m.cN++[p] } where
 oH:=h.oH
 gU:=h.gU
 sl:=h.sl
 DX:=h.DX
 DY:=h.DY
 ml:=h.ml
 mw:=h.mw
 hl:=h.hl
 hw:=h.hw
 pw:=fun x hx=>by
  rcases List.mem_append.1 hx with hx|hx
  ·exact h.pw x hx
  ·simp only[List.mem_cons,List.not_mem_nil,or_false] at hx
   subst hx;exact hp
theorem eO.ZM (h:eO u m) (k:Int) (hk:t<u.bw.length→0≤k∧k<(u.gr t).nodes.length):eO u { m with at_:=m.at_.set t k } where
 oH:=by simp only[List.length_set];exact h.oH
 gU:=fun s hs=>by
  by_cases e:t=s
  ·subst e
   dsimp only
   rw[ed (by rw[h.oH];exact hs)]
   exact hk hs
  ·dsimp only
   rw[getD_set_ne e];exact h.gU s hs
 sl:=h.sl
 DX:=h.DX
 DY:=h.DY
 ml:=h.ml
 mw:=h.mw
 hl:=h.hl
 hw:=h.hw
 pw:=h.pw
theorem kH (h:eO u m) (ht:t<u.bw.length) (hb:m.kA u t=0):(m.node u t).kind≠9∧¬((m.node u t).kind=5∧0≤m.hold.getD (m.node u t).cP.toNat 0):=by
 unfold MS.kA at hb
 rw[if_neg (by have:=h.oH;omega),Int.toNat_natCast] at hb
 refine⟨fun e=> ?_,fun e=> ?_⟩
 ·rw[if_pos e] at hb;cases hb
 ·rw[if_neg (by omega)] at hb
  rw[if_pos e] at hb
  cases hb
theorem G6 (hu:u.Wf) (h:eO u m) (ht:t<u.bw.length):(m.node u t).Wf:=by
 have h1:=h.gU t ht
 exact(hu.bw _ (cS default ht)).nodes _ (cS default (show(m.at_.getD t 0).toNat<(u.gr t).nodes.length by omega))
theorem U4 (hu:u.Wf) (hr:cT u) (h:eO u m) (ht:t<u.bw.length):eO u (m.act t (m.node u t)).1:=by
 have hn:=h.node hr ht
 have hw:=G6 hu h ht
 have hst:=TF h ht hw
 have hva:=EC h ht hw.a
 have hmw:eN (m.mem.getD (m.node u t).cP.toNat 0):=by
  by_cases hk:(m.node u t).cP.toNat<m.mem.length
  ·exact h.mw _ (cS 0 hk)
  ·rw[getD_none (Nat.le_of_not_lt hk)];exact⟨by omega,by omega⟩
 generalize m.node u t=n at *
 unfold MS.act
 split
 ·exact h.gZ _ _ hst
 split
 ·exact h.gZ _ _ hmw
 split
 ·exact h.mem _ _ hva
 split
 ·exact(h.gZ (t:=t) n.slot _ hmw).mem _ _ hva
 split
 ·exact h.hold _ _ ⟨by omega,by omega⟩
 split
 ·exact h.hold _ _ ⟨by omega,by omega⟩
 split
 ·exact h.print _ ⟨by dsimp only;omega,by dsimp only;omega,hva⟩
 ·exact h
theorem LI (hr:cT u) (h:eO u m) (ht:t<u.bw.length) (hk:(m.node u t).kind≠9):0≤(m.act t (m.node u t)).2.1∧(m.act t (m.node u t)).2.1<(u.gr t).nodes.length:=by
 have hn:=h.node hr ht
 generalize m.node u t=n at *
 have hkd:=hn.kind
 have hnx:=hn.next.1 (by unfold jV;exact decide_eq_true (by omega))
 unfold MS.act
 repeat' split
 all_goals first
  |exact hnx
  |exact hn.sH.1 (by omega)
theorem wc (hu:u.Wf) (hr:cT u) (h:eO u m) (ht:t<u.bw.length) (hk:(m.node u t).kind≠9):eO u (m.step u t).1:=by
 have h1:=U4 hu hr h ht
 have h2:=LI hr h ht hk
 have h3:(m.step u t).1={ (m.act t (m.node u t)).1 with at_:=m.at_.set t (m.act t (m.node u t)).2.1 }:=rfl
 have h4:(m.act t (m.node u t)).1.at_=m.at_:=by
  unfold MS.act
  repeat' split
  all_goals rfl
 rw[h3,←h4]
 exact h1.ZM _ fun _=>h2
end
end Go.Proofs.YtjopoheligmmoaaGreatDoor
end
section
/- The machine in rows: what a store makes of it. -/
namespace Go.Proofs.YtjopoheligmmoaaGreatDoor
open Go Go.cY Go.Proofs
set_option linter.unusedSimpArgs false
set_option linter.unusedVariables false
structure ML where
 mr:Nat
 a:Nat
 s:Nat
 me:Nat
 ho:Nat
 pr:Nat
 ids:List Nat
abbrev ML.all (L:ML):List Nat:=L.mr::L.a::L.s::L.me::L.ho::L.pr::L.ids
abbrev ML.it (L:ML) (t:Nat):Nat:=L.ids.getD t 0
abbrev ML.At (L:ML) (u:bu) (m:MS) (H:Hp):Prop:=W0 u m L.mr L.a L.s L.me L.ho L.pr L.ids H
theorem W0.IP {u:bu} {m:MS} {mr a s me ho pr:Nat} {ids:List Nat} {H:Hp} (h:W0 u m mr a s me ho pr ids H) (k:Nat):cY.dW H (k+4) (.pt mr 1 0 0)=m.fz u:=by
 obtain⟨d1,h1⟩:=h.rM
 obtain⟨d2,h2⟩:=h.rA
 obtain⟨d3,h3⟩:=h.rS
 obtain⟨d4,h4⟩:=h.rE
 obtain⟨d5,h5⟩:=h.rH
 obtain⟨d6,h6⟩:=h.rP
 have hsl:(eS ids m.bz).length=m.bz.length:=by unfold eS;rw[List.length_map,List.length_zip,h.len];simp
 have hs:(eS ids m.bz).map (cY.dW H (k+1))=m.bz.map cO:=by
  apply List.ext_getElem (by simp[hsl])
  intro t q1 q2
  have ht:t<m.bz.length:=by simpa using q2
  have hti:t<ids.length:=by rw[h.len];exact ht
  obtain⟨d,hd⟩:=h.rL t ht
  rw[show ids.getD t 0=ids[t] by simp[List.getD,hti],show m.bz.getD t []=m.bz[t] by simp[List.getD,ht]] at hd
  rw[List.getElem_map,List.getElem_map]
  simp only[eS,List.getElem_map,List.getElem_zip]
  rw[dh hd (by simp),cx _ ((cC _ _).2 fun _ _=>by simp[cK])]
 simp only[cY.dW,h1]
 simp only[List.length_cons,List.length_nil,if_true,List.map_cons,List.map_nil,MS.rows]
 rw[wA]
 simp only[List.map_cons,List.map_nil]
 rw[dh h2 (by simp),dh h3 hsl,dh h4 (by simp),dh h5 (by simp),dh h6 (by simp),hs]
 rw[cx _ ((cC _ _).2 fun _ _=>by simp[cK]),cx _ ((cC _ _).2 fun _ _=>by simp[cK]),cx _ ((cC _ _).2 fun _ _=>by simp[cK]),cx _ ((cC _ _).2 fun _ _=>by simp[cK])]
 rw[dv _ (show cK 0 (cr u.shared) by simp[cK,cC]),dv _ (show cK 0 (cr u.cE) by simp[cK,cC]),dv _ (show cK 0 (de u.bw) by simp[cK,cC])]
 rfl
section
variable {u:bu} {m:MS} {L:ML} {H H':Hp}
theorem mR {p:Prop} (h:p:=by first|assumption|(refine Ne.symm ?_;assumption)):p:=h
theorem ML.At.mem (h:L.At u m H):(∀x∈[L.a,L.s,L.me,L.ho,L.pr],x∈L.all):=by
 intro x hx
 simp only[List.mem_cons,List.not_mem_nil,or_false] at hx
 simp only[ML.all,List.mem_cons]
 omega
theorem lF (h:L.At u m H) {t:Nat} (ht:t<m.bz.length):L.it t∈L.all:=by
 have:L.it t∈L.ids:=fJ (by rw[h.len];exact ht)
 simp only[ML.all,List.mem_cons]
 exact .inr (.inr (.inr (.inr (.inr (.inr this)))))
theorem X5 (h:L.At u m H) {t s:Nat} (ht:t<m.bz.length) (hs:s<m.bz.length) (e:s≠t):L.it s≠L.it t:=by
 have h1:=(List.nodup_cons.1 (List.nodup_cons.1 (List.nodup_cons.1 (List.nodup_cons.1 (List.nodup_cons.1 (List.nodup_cons.1 h.nodup).2).2).2).2).2).2
 have hl:=h.len
 intro he
 have ht':t<L.ids.length:=by omega
 have hs':s<L.ids.length:=by omega
 have:L.ids[s]=L.ids[t]:=by simpa[ML.it,List.getD,ht',hs'] using he
 exact e ((List.getElem_inj h1).1 this)
structure ML.XC (L:ML) (t:Nat):Prop where
 ne:L.mr≠L.a∧L.mr≠L.s∧L.mr≠L.me∧L.mr≠L.ho∧L.mr≠L.pr∧L.a≠L.s∧L.a≠L.me∧L.a≠L.ho∧L.a≠L.pr∧L.s≠L.me∧L.s≠L.ho∧L.s≠L.pr∧L.me≠L.ho∧L.me≠L.pr∧L.ho≠L.pr
 it:L.it t≠L.mr∧L.it t≠L.a∧L.it t≠L.s∧L.it t≠L.me∧L.it t≠L.ho∧L.it t≠L.pr
theorem apart (h:L.At u m H) {t:Nat} (ht:t<m.bz.length):L.XC t:=by
 have hn:=h.nodup
 have hi:L.it t∈L.ids:=fJ (by rw[h.len];exact ht)
 have hne:∀x,x∉L.ids→L.it t≠x:=fun x hx e=>hx (e▸hi)
 simp only[List.nodup_cons,List.mem_cons,not_or] at hn
 obtain⟨⟨a1,a2,a3,a4,a5,a6⟩,⟨b1,b2,b3,b4,b5⟩,⟨c1,c2,c3,c4⟩,⟨d1,d2,d3⟩,⟨e1,e2⟩,f1,_⟩:=hn
 exact⟨⟨a1,a2,a3,a4,a5,b1,b2,b3,b4,c1,c2,c3,d1,d2,e1⟩,hne _ a6,hne _ b5,hne _ c4,hne _ d3,hne _ e2,hne _ f1⟩
theorem ML.At.cQ (h:L.At u m H) (hk:∀y∈L.all,bt H' y=bt H y):L.At u m H':=by
 have hm:=h.mem
 obtain⟨d1,h1⟩:=h.rM
 obtain⟨d2,h2⟩:=h.rA
 obtain⟨d3,h3⟩:=h.rS
 obtain⟨d4,h4⟩:=h.rE
 obtain⟨d5,h5⟩:=h.rH
 obtain⟨d6,h6⟩:=h.rP
 refine⟨⟨d1,(hk _ (by simp)).trans h1⟩,⟨d2,(hk _ (hm _ (by simp))).trans h2⟩,⟨d3,(hk _ (hm _ (by simp))).trans h3⟩,fun t ht=> ?_,⟨d4,(hk _ (hm _ (by simp))).trans h4⟩,⟨d5,(hk _ (hm _ (by simp))).trans h5⟩,⟨d6,(hk _ (hm _ (by simp))).trans h6⟩,h.len,h.nodup⟩
 obtain⟨d,hd⟩:=h.rL t ht
 exact⟨d,(hk _ (lF h ht)).trans hd⟩
theorem ML.At.gZ (h:L.At u m H) {t:Nat} (ht:t<m.bz.length) (k w:Int) (hit:∃d,bt H' (L.it t)=some (.row 2 1 d (((m.bz.getD t []).map i64).set k.toNat (i64 w)))) (hk:∀y∈L.all,y≠L.it t→bt H' y=bt H y):L.At u (m.gZ t k w) H':=by
 obtain⟨-,n1,n2,n3,n4,n5,n6⟩:=apart h ht
 have hm:=h.mem
 obtain⟨d1,h1⟩:=h.rM
 obtain⟨d2,h2⟩:=h.rA
 obtain⟨d3,h3⟩:=h.rS
 obtain⟨d4,h4⟩:=h.rE
 obtain⟨d5,h5⟩:=h.rH
 obtain⟨d6,h6⟩:=h.rP
 have hl:(m.gZ t k w).bz.length=m.bz.length:=by simp[MS.gZ]
 have hrow:eS L.ids (m.gZ t k w).bz=eS L.ids m.bz:=by
  unfold eS MS.gZ
  apply List.ext_getElem (by simp)
  intro i q1 q2
  simp only[List.getElem_map,List.getElem_zip,AV.sl.injEq,true_and]
  rw[List.getElem_set]
  have hi:i<m.bz.length:=by simp at q2;omega
  split
  ·rename_i e;subst e;rw[List.length_set];simp[List.getD,hi]
  ·rfl
 refine⟨⟨d1, ?_⟩,⟨d2,(hk _ (hm _ (by simp)) mR).trans h2⟩,⟨d3,by rw[hrow];exact(hk _ (hm _ (by simp)) mR).trans h3⟩,fun s hs=> ?_,⟨d4,(hk _ (hm _ (by simp)) mR).trans h4⟩,⟨d5,(hk _ (hm _ (by simp)) mR).trans h5⟩,⟨d6,(hk _ (hm _ (by simp)) mR).trans h6⟩,by rw[hl];exact h.len,h.nodup⟩
 ·rw[show(m.gZ t k w).rows u L.a L.s L.me L.ho L.pr=m.rows u L.a L.s L.me L.ho L.pr by simp[MS.rows,MS.gZ]]
  exact(hk _ (by simp) mR).trans h1
 ·rw[hl] at hs
  by_cases e:s=t
  ·subst e
   obtain⟨d,hd⟩:=hit
   refine⟨d,hd.trans ?_⟩
   rw[show(m.gZ s k w).bz.getD s []=(m.bz.getD s []).set k.toNat w from ed hs,List.map_set]
  ·obtain⟨d,hd⟩:=h.rL s hs
   refine⟨d, ?_⟩
   rw[show(m.gZ t k w).bz.getD s []=m.bz.getD s [] from getD_set_ne (Ne.symm e)]
   exact(hk _ (lF h hs) (X5 h ht hs e)).trans hd
theorem ML.At.jX (h:L.At u m H) {t:Nat} (ht:t<m.bz.length) (k w:Int) (hme:∃d,bt H' L.me=some (.row 2 1 d ((m.mem.map i64).set k.toNat (i64 w)))) (hk:∀y∈L.all,y≠L.me→bt H' y=bt H y):L.At u { m with mem:=m.mem.set k.toNat w } H':=by
 obtain⟨⟨a1,a2,a3,a4,a5,b1,b2,b3,b4,c1,c2,c3,e1,e2,f1⟩,n1,n2,n3,n4,n5,n6⟩:=apart h ht
 have hm:=h.mem
 obtain⟨d1,h1⟩:=h.rM
 obtain⟨d2,h2⟩:=h.rA
 obtain⟨d3,h3⟩:=h.rS
 obtain⟨d4,h4⟩:=hme
 obtain⟨d5,h5⟩:=h.rH
 obtain⟨d6,h6⟩:=h.rP
 refine⟨⟨d1, ?_⟩,⟨d2,(hk _ (hm _ (by simp)) mR).trans h2⟩,⟨d3,(hk _ (hm _ (by simp)) mR).trans h3⟩,fun s hs=> ?_,⟨d4,by rw[List.map_set];exact h4⟩,⟨d5,(hk _ (hm _ (by simp)) mR).trans h5⟩,⟨d6,(hk _ (hm _ (by simp)) mR).trans h6⟩,h.len,h.nodup⟩
 ·rw[show({ m with mem:=m.mem.set k.toNat w }:MS).rows u L.a L.s L.me L.ho L.pr=m.rows u L.a L.s L.me L.ho L.pr by simp[MS.rows]]
  exact(hk _ (by simp) mR).trans h1
 ·obtain⟨d,hd⟩:=h.rL s hs
  obtain⟨m1,m2,m3,m4,m5,m6⟩:=(apart h hs).it
  exact⟨d,(hk _ (lF h hs) mR).trans hd⟩
theorem ML.At.UF (h:L.At u m H) {t:Nat} (ht:t<m.bz.length) (k w:Int) (hho:∃d,bt H' L.ho=some (.row 3 1 d ((m.hold.map i64).set k.toNat (i64 w)))) (hk:∀y∈L.all,y≠L.ho→bt H' y=bt H y):L.At u { m with hold:=m.hold.set k.toNat w } H':=by
 obtain⟨⟨a1,a2,a3,a4,a5,b1,b2,b3,b4,c1,c2,c3,e1,e2,f1⟩,n1,n2,n3,n4,n5,n6⟩:=apart h ht
 have hm:=h.mem
 obtain⟨d1,h1⟩:=h.rM
 obtain⟨d2,h2⟩:=h.rA
 obtain⟨d3,h3⟩:=h.rS
 obtain⟨d4,h4⟩:=h.rE
 obtain⟨d5,h5⟩:=hho
 obtain⟨d6,h6⟩:=h.rP
 refine⟨⟨d1, ?_⟩,⟨d2,(hk _ (hm _ (by simp)) mR).trans h2⟩,⟨d3,(hk _ (hm _ (by simp)) mR).trans h3⟩,fun s hs=> ?_,⟨d4,(hk _ (hm _ (by simp)) mR).trans h4⟩,⟨d5,by rw[List.map_set];exact h5⟩,⟨d6,(hk _ (hm _ (by simp)) mR).trans h6⟩,h.len,h.nodup⟩
 ·rw[show({ m with hold:=m.hold.set k.toNat w }:MS).rows u L.a L.s L.me L.ho L.pr=m.rows u L.a L.s L.me L.ho L.pr by simp[MS.rows]]
  exact(hk _ (by simp) mR).trans h1
 ·obtain⟨d,hd⟩:=h.rL s hs
  obtain⟨m1,m2,m3,m4,m5,m6⟩:=(apart h hs).it
  exact⟨d,(hk _ (lF h hs) mR).trans hd⟩
theorem ML.At.ZM (h:L.At u m H) {t:Nat} (ht:t<m.bz.length) (k:Nat) (w:Int) (hat:∃d,bt H' L.a=some (.row 3 1 d ((m.at_.map i64).set k (i64 w)))) (hk:∀y∈L.all,y≠L.a→bt H' y=bt H y):L.At u { m with at_:=m.at_.set k w } H':=by
 obtain⟨⟨a1,a2,a3,a4,a5,b1,b2,b3,b4,c1,c2,c3,e1,e2,f1⟩,n1,n2,n3,n4,n5,n6⟩:=apart h ht
 have hm:=h.mem
 obtain⟨d1,h1⟩:=h.rM
 obtain⟨d2,h2⟩:=hat
 obtain⟨d3,h3⟩:=h.rS
 obtain⟨d4,h4⟩:=h.rE
 obtain⟨d5,h5⟩:=h.rH
 obtain⟨d6,h6⟩:=h.rP
 refine⟨⟨d1, ?_⟩,⟨d2,by rw[List.map_set];exact h2⟩,⟨d3,(hk _ (hm _ (by simp)) mR).trans h3⟩,fun s hs=> ?_,⟨d4,(hk _ (hm _ (by simp)) mR).trans h4⟩,⟨d5,(hk _ (hm _ (by simp)) mR).trans h5⟩,⟨d6,(hk _ (hm _ (by simp)) mR).trans h6⟩,h.len,h.nodup⟩
 ·rw[show({ m with at_:=m.at_.set k w }:MS).rows u L.a L.s L.me L.ho L.pr=m.rows u L.a L.s L.me L.ho L.pr by simp[MS.rows]]
  exact(hk _ (by simp) mR).trans h1
 ·obtain⟨d,hd⟩:=h.rL s hs
  obtain⟨m1,m2,m3,m4,m5,m6⟩:=(apart h hs).it
  exact⟨d,(hk _ (lF h hs) mR).trans hd⟩
theorem ML.At.V7 (h:L.At u m H) {t:Nat} (ht:t<m.bz.length) (p:dV) (hmr:∃d,bt H' L.mr=some (.row 114 8 d [({ m with cN:=m.cN++[p] }:MS).rows u L.a L.s L.me L.ho L.pr])) (hpr:∃d,bt H' L.pr=some (.row 155 2 d (m.cN.map dV.av++[p.av]))) (hk:∀y∈L.all,y≠L.pr→y≠L.mr→bt H' y=bt H y):L.At u { m with cN:=m.cN++[p] } H':=by
 obtain⟨⟨a1,a2,a3,a4,a5,b1,b2,b3,b4,c1,c2,c3,e1,e2,f1⟩,n1,n2,n3,n4,n5,n6⟩:=apart h ht
 have hm:=h.mem
 obtain⟨d2,h2⟩:=h.rA
 obtain⟨d3,h3⟩:=h.rS
 obtain⟨d4,h4⟩:=h.rE
 obtain⟨d5,h5⟩:=h.rH
 obtain⟨d6,h6⟩:=hpr
 refine⟨hmr,⟨d2,(hk _ (hm _ (by simp)) mR mR).trans h2⟩,⟨d3,(hk _ (hm _ (by simp)) mR mR).trans h3⟩,fun s hs=> ?_,⟨d4,(hk _ (hm _ (by simp)) mR mR).trans h4⟩,⟨d5,(hk _ (hm _ (by simp)) mR mR).trans h5⟩,⟨d6,by rw[List.map_append];exact h6⟩,h.len,h.nodup⟩
 obtain⟨d,hd⟩:=h.rL s hs
 obtain⟨m1,m2,m3,m4,m5,m6⟩:=(apart h hs).it
 exact⟨d,(hk _ (lF h hs) mR mR).trans hd⟩
end
end Go.Proofs.YtjopoheligmmoaaGreatDoor
end
section
/- An action at work: what a value is; a word into a slot. -/
namespace Go.Proofs.YtjopoheligmmoaaGreatDoor
open Go Go.cY Go.Proofs
set_option linter.unusedSimpArgs false
set_option linter.unusedVariables false
set_option maxRecDepth 8000
def AC (x:AV) (t:Int) (n:Node) (d:gR):List AV:=[x,i64 t,u8 n.kind,u8 n.op,i64 n.slot,i64 n.cP,bl n.a.jK,i64 n.a.slot,i64 n.a.word,bl n.b.jK,i64 n.b.slot,i64 n.b.word,i64 n.next,i64 n.sH,i64 n.origin,i64 d.db,i64 d.node,u8 d.kind,i64 d.cP,i64 d.word,i64 d.put]
abbrev nJ (u:bu) (m:MS) (t:Int) (n:Node) (d:gR):AV:= .ip 21 .any [.agg (AC (m.fz u) t n d)] 0 0
@[simp] theorem ZP (k:Nat) (u:bu) (m:MS) (t:Int) (n:Node) (d:gR):cZ k (AC (m.fz u) t n d):=by
  simp[cK,cZ,AC]
structure tw (u:bu) (m:MS) (t:Nat) (n:Node) (d:gR) (ab:Nat) (L:ML) (H:Hp):Prop where
 M:L.At u m H
 row:∃dd,bt H ab=some (.row 118 21 dd [.agg (AC (.pt L.mr 1 0 0) t n d)])
 out:ab∉L.all
theorem tw.dW {u:bu} {m:MS} {t:Nat} {n:Node} {d:gR} {ab:Nat} {L:ML} {H:Hp} (h:tw u m t n d ab L H):cY.dW H 6 (.pt ab 1 0 0)=nJ u m t n d:=by
 obtain⟨dd,hr⟩:=h.row
 rw[show cY.dW H 6 (.pt ab 1 0 0)= .ip 21 .any (([.agg (AC (.pt L.mr 1 0 0) t n d)]:List AV).map (cY.dW H 5)) 0 0 from VP hr rfl]
 simp only[List.map_cons,List.map_nil]
 rw[wA]
 simp only[AC,List.map_cons,List.map_nil]
 have:=h.M.IP 0
 rw[this]
 simp only[cY.dW]
 rfl
theorem tw.cQ {u:bu} {m:MS} {t:Nat} {n:Node} {d:gR} {ab:Nat} {L:ML} {H H':Hp} (h:tw u m t n d ab L H) (hk:∀y∈ab::L.all,bt H' y=bt H y):tw u m t n d ab L H':=by
 obtain⟨dd,hr⟩:=h.row
 exact⟨h.M.cQ fun y hy=>hk y (List.mem_cons_of_mem _ hy),⟨dd,(hk ab (by simp)).trans hr⟩,h.out⟩
def nI (m:MS) (t:Nat) (v:l3):Prop:=v.jK=true→0≤v.slot∧v.slot<(m.bz.getD t []).length
theorem ir (u:bu) (m:MS) {t:Nat} (n:Node) (d:gR) (v:l3) (ht:t<m.bz.length) (hl:m.bz.length≤8) (hv:nI m t v):Pure Tryz.prog 158 [nJ u m t n d,v.av] (fun r=>r=i64 (m.val t v)):=by
 unfold MS.val
 have e0:∀d,(m.bz.map cO).getD ((t:Int)).toNat d=cO (m.bz.getD t []):=fun d=>by rw[Int.toNat_natCast];exact dO cO m.bz t d ht
 have a0:(m.bz.map cO).length=m.bz.length:=by simp
 cases hs:v.jK with
 |true=>
  have r0:=hs
  obtain⟨v1,v2⟩:=hv hs
  have a1:((m.bz.getD t []).map i64).length=(m.bz.getD t []).length:=by simp
  have e1:=fun d=>om (l:=m.bz.getD t []) (k:=v.slot) (by omega) d
  rw[if_pos rfl]
  refine aI uw rfl ?_
  refine cV ?_
  first|exact rfl|trivial
 |false=>
  have r0:=hs
  rw[if_neg (by decide)]
  refine aI uw rfl ?_
  refine cV ?_
  first|exact rfl|trivial
abbrev tU (u:bu) (m:MS) (t:Nat) (n:Node) (d:gR) (ab:Nat) (L:ML) (H0:Hp) (nx:Nat) (H:Hp) (k:Nat):Prop:=tw u m t n d ab L H∧nx≤k∧∀y,y<nx→y≠ab→y∉L.all→bt H y=bt H0 y
theorem PO {L:ML} {m:MS} {t:Nat} (hl:L.ids.length=m.bz.length) (ht:t<m.bz.length) (d:AV):(eS L.ids m.bz).getD t d= .sl (L.it t) (m.bz.getD t []).length:=by
 have h1:t<L.ids.length:=by omega
 have h2:t<(L.ids.zip m.bz).length:=by rw[List.length_zip];omega
 simp[eS,List.getD,ht,h1,List.getElem?_eq_getElem h2]
theorem vG {L:ML} {m:MS} (hl:L.ids.length=m.bz.length):(eS L.ids m.bz).length=m.bz.length:=by
 unfold eS;rw[List.length_map,List.length_zip,hl];simp
theorem dQ {x y:Nat} {l:List Nat} (h:x∉l) (hy:y∈l):y≠x:=fun e=>h (e▸hy)
set_option maxHeartbeats 1000000 in
theorem kP {u:bu} {m:MS} {t:Nat} {n:Node} {d:gR} {ab:Nat} {L:ML} {H:Hp} {nx:Nat} (h:tw u m t n d ab L H) (hlt:∀y∈ab::L.all,y<nx) (ht:t<m.bz.length) (hl:m.bz.length≤8) (hs:0≤n.slot∧n.slot<(m.bz.getD t []).length) (w:Int):
 cJ Tryz.prog 162 [.pt ab 1 0 0,i64 w] H nx (fun _ H' k=>tU u (m.gZ t n.slot w) t n { d with word:=w } ab L H nx H' k):=by
 obtain⟨hM,⟨dd,ra⟩,hout⟩:=h
 obtain⟨⟨a1,a2,a3,a4,a5,b1,b2,b3,b4,c1,c2,c3,e1,e2,f1⟩,n1,n2,n3,n4,n5,n6⟩:=apart hM ht
 have hmem:=hM.mem
 have k0:=hlt ab (by simp)
 have km:=hlt L.mr (by simp)
 have ks:=hlt L.s (List.mem_cons_of_mem _ (hmem _ (by simp)))
 have ki:=hlt (L.it t) (List.mem_cons_of_mem _ (lF hM ht))
 have o1:=dQ hout (List.mem_cons_self (a:=L.mr))
 have o2:=dQ hout (hmem L.s (by simp))
 have o3:=dQ hout (lF hM ht)
 obtain⟨d1,r1⟩:=hM.rM
 obtain⟨d3,r3⟩:=hM.rS
 obtain⟨d7,r7⟩:=hM.rL t ht
 have e0:∀d,(eS L.ids m.bz).getD ((t:Int)).toNat d= .sl (L.it t) (m.bz.getD t []).length:=fun d=>by rw[Int.toNat_natCast];exact PO hM.len ht d
 have q0:=vG hM.len
 have q1:((m.bz.getD t []).map i64).length=(m.bz.getD t []).length:=by simp
 obtain⟨hs1,hs2⟩:=hs
 refine aL yl rfl ?_
 refine cV ?_
 exact⟨⟨hM.gZ ht _ _ ⟨_,bx⟩ fun y hy hne=>by have:=dQ hout hy;exact cA,⟨_,bx⟩,hout⟩,c8,fun y y1 y2 y3=>by have y4:=dQ y3 (lF hM ht);exact cA⟩
end Go.Proofs.YtjopoheligmmoaaGreatDoor
end
section
/- An action at work: the kinds of nodes. -/
namespace Go.Proofs.YtjopoheligmmoaaGreatDoor
open Go Go.cY Go.Proofs
set_option linter.unusedSimpArgs false
set_option linter.unusedVariables false
set_option maxRecDepth 8000
set_option maxHeartbeats 2000000
theorem JV {u:bu} {m:MS} {t:Nat} {n:Node} {d:gR} {ab:Nat} {L:ML} {H:Hp} {nx:Nat} (h:tw u m t n d ab L H) (hlt:∀y∈ab::L.all,y<nx) (ht:t<m.bz.length) (hl:m.bz.length≤8) (hth:0≤n.cP∧n.cP<m.hold.length):
 cJ Tryz.prog 110 [.pt ab 1 0 0] H nx (fun r H' k=>r=i64 n.next∧tU u { m with hold:=m.hold.set n.cP.toNat t } t n { d with cP:=n.cP } ab L H nx H' k):=by
 have hfr:∀(v:l3) (H1:Hp),(∀y∈ab::L.all,bt H1 y=bt H y)→[.pt ab 1 0 0,v.av].map (cY.dW H1 6)=[nJ u m t n d,v.av]:=fun v H1 h1=>by
  rw[List.map_cons,List.map_cons,List.map_nil,(h.cQ h1).dW,dv _ (show cK 0 v.av by simp[cK])]
 have h0:=h
 obtain⟨hM,⟨dd,ra⟩,hout⟩:=h
 obtain⟨⟨a1,a2,a3,a4,a5,b1,b2,b3,b4,c1,c2,c3,e1',e2',f1⟩,n1,n2,n3,n4,n5,n6⟩:=apart hM ht
 have hmem:=hM.mem
 have k0:=hlt ab (by simp)
 have km:=hlt L.mr (by simp)
 have ke:=hlt L.me (List.mem_cons_of_mem _ (hmem _ (by simp)))
 have kh:=hlt L.ho (List.mem_cons_of_mem _ (hmem _ (by simp)))
 have kp:=hlt L.pr (List.mem_cons_of_mem _ (hmem _ (by simp)))
 have o1:=dQ hout (List.mem_cons_self (a:=L.mr))
 have o2:=dQ hout (hmem L.me (by simp))
 have o3:=dQ hout (hmem L.ho (by simp))
 have o4:=dQ hout (hmem L.pr (by simp))
 clear a1 a2 a4 b1 b2 b3 b4 c1 c2 c3 e1' e2' f1 n1 n2 n3 n4 n5 n6
 obtain⟨d1,r1⟩:=hM.rM
 obtain⟨d3,r4⟩:=hM.rE
 obtain⟨d5,r5⟩:=hM.rH
 obtain⟨d6,r6⟩:=hM.rP
 have q1:(m.mem.map i64).length=m.mem.length:=by simp
 have q2:(m.hold.map i64).length=m.hold.length:=by simp
 have q3:(m.cN.map dV.av).length=m.cN.length:=by simp
 refine aL yS rfl ?_
 refine cV ?_
 exact⟨⟨rfl,⟨hM.UF ht _ _ ⟨_,bx⟩ fun y hy hne=>by have:=dQ hout hy;exact cA,⟨_,bx⟩,hout⟩,c8,fun y y1 y2 y3=>by have y4:=dQ y3 (hmem L.ho (by simp));exact cA⟩⟩
theorem AR {u:bu} {m:MS} {t:Nat} {n:Node} {d:gR} {ab:Nat} {L:ML} {H:Hp} {nx:Nat} (h:tw u m t n d ab L H) (hlt:∀y∈ab::L.all,y<nx) (ht:t<m.bz.length) (hl:m.bz.length≤8) (hth:0≤n.cP∧n.cP<m.hold.length):
 cJ Tryz.prog 111 [.pt ab 1 0 0] H nx (fun r H' k=>r=i64 n.next∧tU u { m with hold:=m.hold.set n.cP.toNat (-1) } t n { d with cP:=n.cP } ab L H nx H' k):=by
 have hfr:∀(v:l3) (H1:Hp),(∀y∈ab::L.all,bt H1 y=bt H y)→[.pt ab 1 0 0,v.av].map (cY.dW H1 6)=[nJ u m t n d,v.av]:=fun v H1 h1=>by
  rw[List.map_cons,List.map_cons,List.map_nil,(h.cQ h1).dW,dv _ (show cK 0 v.av by simp[cK])]
 have h0:=h
 obtain⟨hM,⟨dd,ra⟩,hout⟩:=h
 obtain⟨⟨a1,a2,a3,a4,a5,b1,b2,b3,b4,c1,c2,c3,e1',e2',f1⟩,n1,n2,n3,n4,n5,n6⟩:=apart hM ht
 have hmem:=hM.mem
 have k0:=hlt ab (by simp)
 have km:=hlt L.mr (by simp)
 have ke:=hlt L.me (List.mem_cons_of_mem _ (hmem _ (by simp)))
 have kh:=hlt L.ho (List.mem_cons_of_mem _ (hmem _ (by simp)))
 have kp:=hlt L.pr (List.mem_cons_of_mem _ (hmem _ (by simp)))
 have o1:=dQ hout (List.mem_cons_self (a:=L.mr))
 have o2:=dQ hout (hmem L.me (by simp))
 have o3:=dQ hout (hmem L.ho (by simp))
 have o4:=dQ hout (hmem L.pr (by simp))
 clear a1 a2 a4 b1 b2 b3 b4 c1 c2 c3 e1' e2' f1 n1 n2 n3 n4 n5 n6
 obtain⟨d1,r1⟩:=hM.rM
 obtain⟨d3,r4⟩:=hM.rE
 obtain⟨d5,r5⟩:=hM.rH
 obtain⟨d6,r6⟩:=hM.rP
 have q1:(m.mem.map i64).length=m.mem.length:=by simp
 have q2:(m.hold.map i64).length=m.hold.length:=by simp
 have q3:(m.cN.map dV.av).length=m.cN.length:=by simp
 refine aL yT rfl ?_
 refine cV ?_
 exact⟨⟨rfl,⟨hM.UF ht _ _ ⟨_,bx⟩ fun y hy hne=>by have:=dQ hout hy;exact cA,⟨_,bx⟩,hout⟩,c8,fun y y1 y2 y3=>by have y4:=dQ y3 (hmem L.ho (by simp));exact cA⟩⟩
theorem xT {u:bu} {m:MS} {t:Nat} {n:Node} {d:gR} {ab:Nat} {L:ML} {H:Hp} {nx:Nat} (h:tw u m t n d ab L H) (hlt:∀y∈ab::L.all,y<nx) (ht:t<m.bz.length) (hl:m.bz.length≤8) (hva:nI m t n.a):
 cJ Tryz.prog 113 [.pt ab 1 0 0] H nx (fun r H' k=>r=i64 (if m.val t n.a=0 then n.sH else n.next)∧tU u m t n { d with word:=m.val t n.a } ab L H nx H' k):=by
 have hfr:∀(v:l3) (H1:Hp),(∀y∈ab::L.all,bt H1 y=bt H y)→[.pt ab 1 0 0,v.av].map (cY.dW H1 6)=[nJ u m t n d,v.av]:=fun v H1 h1=>by
  rw[List.map_cons,List.map_cons,List.map_nil,(h.cQ h1).dW,dv _ (show cK 0 v.av by simp[cK])]
 have h0:=h
 obtain⟨hM,⟨dd,ra⟩,hout⟩:=h
 obtain⟨⟨a1,a2,a3,a4,a5,b1,b2,b3,b4,c1,c2,c3,e1',e2',f1⟩,n1,n2,n3,n4,n5,n6⟩:=apart hM ht
 have hmem:=hM.mem
 have k0:=hlt ab (by simp)
 have km:=hlt L.mr (by simp)
 have ke:=hlt L.me (List.mem_cons_of_mem _ (hmem _ (by simp)))
 have kh:=hlt L.ho (List.mem_cons_of_mem _ (hmem _ (by simp)))
 have kp:=hlt L.pr (List.mem_cons_of_mem _ (hmem _ (by simp)))
 have o1:=dQ hout (List.mem_cons_self (a:=L.mr))
 have o2:=dQ hout (hmem L.me (by simp))
 have o3:=dQ hout (hmem L.ho (by simp))
 have o4:=dQ hout (hmem L.pr (by simp))
 clear a1 a2 a4 b1 b2 b3 b4 c1 c2 c3 e1' e2' f1 n1 n2 n3 n4 n5 n6
 obtain⟨d1,r1⟩:=hM.rM
 obtain⟨d3,r4⟩:=hM.rE
 obtain⟨d5,r5⟩:=hM.rH
 obtain⟨d6,r6⟩:=hM.rP
 have q1:(m.mem.map i64).length=m.mem.length:=by simp
 have q2:(m.hold.map i64).length=m.hold.length:=by simp
 have q3:(m.cN.map dV.av).length=m.cN.length:=by simp
 by_cases hz:m.val t n.a=0
 ·rw[if_pos hz]
  refine aL uu rfl ?_
  refine cV ?_
  refine aS (ir u m n d n.a ht hl hva) (hfr n.a _ ?_) (by simp[cZ,cK]) trivial ?_
  ·exact fun y hy=>rfl
  refine cV ?_
  exact⟨⟨rfl,⟨hM.cQ fun y hy=>by have:=dQ hout hy;exact cA,⟨_,bx⟩,hout⟩,c8,fun y y1 y2 y3=>cA⟩⟩
 ·rw[if_neg hz]
  refine aL uu rfl ?_
  refine cV ?_
  refine aS (ir u m n d n.a ht hl hva) (hfr n.a _ ?_) (by simp[cZ,cK]) trivial ?_
  ·exact fun y hy=>rfl
  refine cV ?_
  exact⟨⟨rfl,⟨hM.cQ fun y hy=>by have:=dQ hout hy;exact cA,⟨_,bx⟩,hout⟩,c8,fun y y1 y2 y3=>cA⟩⟩
theorem JU {u:bu} {m:MS} {t:Nat} {n:Node} {d:gR} {ab:Nat} {L:ML} {H:Hp} {nx:Nat} (h:tw u m t n d ab L H) (hlt:∀y∈ab::L.all,y<nx) (ht:t<m.bz.length) (hl:m.bz.length≤8) (hs:0≤n.slot∧n.slot<(m.bz.getD t []).length) (hth:0≤n.cP∧n.cP<m.mem.length):
 cJ Tryz.prog 107 [.pt ab 1 0 0] H nx (fun r H' k=>r=i64 n.next∧tU u (m.gZ t n.slot (m.mem.getD n.cP.toNat 0)) t n { d with cP:=n.cP,word:=m.mem.getD n.cP.toNat 0 } ab L H nx H' k):=by
 have hfr:∀(v:l3) (H1:Hp),(∀y∈ab::L.all,bt H1 y=bt H y)→[.pt ab 1 0 0,v.av].map (cY.dW H1 6)=[nJ u m t n d,v.av]:=fun v H1 h1=>by
  rw[List.map_cons,List.map_cons,List.map_nil,(h.cQ h1).dW,dv _ (show cK 0 v.av by simp[cK])]
 have h0:=h
 obtain⟨hM,⟨dd,ra⟩,hout⟩:=h
 obtain⟨⟨a1,a2,a3,a4,a5,b1,b2,b3,b4,c1,c2,c3,e1',e2',f1⟩,n1,n2,n3,n4,n5,n6⟩:=apart hM ht
 have hmem:=hM.mem
 have k0:=hlt ab (by simp)
 have km:=hlt L.mr (by simp)
 have ke:=hlt L.me (List.mem_cons_of_mem _ (hmem _ (by simp)))
 have kh:=hlt L.ho (List.mem_cons_of_mem _ (hmem _ (by simp)))
 have kp:=hlt L.pr (List.mem_cons_of_mem _ (hmem _ (by simp)))
 have o1:=dQ hout (List.mem_cons_self (a:=L.mr))
 have o2:=dQ hout (hmem L.me (by simp))
 have o3:=dQ hout (hmem L.ho (by simp))
 have o4:=dQ hout (hmem L.pr (by simp))
 clear a1 a2 a4 b1 b2 b3 b4 c1 c2 c3 e1' e2' f1 n1 n2 n3 n4 n5 n6
 obtain⟨d1,r1⟩:=hM.rM
 obtain⟨d3,r4⟩:=hM.rE
 obtain⟨d5,r5⟩:=hM.rH
 obtain⟨d6,r6⟩:=hM.rP
 have q1:(m.mem.map i64).length=m.mem.length:=by simp
 have q2:(m.hold.map i64).length=m.hold.length:=by simp
 have q3:(m.cN.map dV.av).length=m.cN.length:=by simp
 have e0:=fun d=>om (l:=m.mem) (k:=n.cP) (by omega) d
 refine aL yP rfl ?_
 refine cV ?_
 refine aJ (kP (u:=u) (t:=t) (n:=n) (d:={ d with cP:=n.cP }) (L:=L) (m:=m) (ab:=ab) ?_ ?_ ht hl hs _) ?_
 ·exact⟨hM.cQ fun y hy=>by have:=dQ hout hy;exact cA,⟨_,bx⟩,hout⟩
 ·exact fun y hy=>Nat.lt_of_lt_of_le (hlt y hy) c8
 rintro _ H2 n2 ⟨hA,hn2,hk2⟩
 obtain⟨dd2,ra2⟩:=hA.row
 refine cV ?_
 exact⟨⟨rfl,hA.cQ fun y hy=>cA,c8,fun y y1 y2 y3=>Eq.trans cA ((hk2 y (Nat.lt_of_lt_of_le y1 c8) y2 y3).trans cA)⟩⟩
theorem D6 {u:bu} {m:MS} {t:Nat} {n:Node} {d:gR} {ab:Nat} {L:ML} {H:Hp} {nx:Nat} (h:tw u m t n d ab L H) (hlt:∀y∈ab::L.all,y<nx) (ht:t<m.bz.length) (hl:m.bz.length≤8) (hva:nI m t n.a) (hth:0≤n.cP∧n.cP<m.mem.length):
 cJ Tryz.prog 108 [.pt ab 1 0 0] H nx (fun r H' k=>r=i64 n.next∧tU u { m with mem:=m.mem.set n.cP.toNat (m.val t n.a) } t n { d with cP:=n.cP,word:=m.val t n.a } ab L H nx H' k):=by
 have hfr:∀(v:l3) (H1:Hp),(∀y∈ab::L.all,bt H1 y=bt H y)→[.pt ab 1 0 0,v.av].map (cY.dW H1 6)=[nJ u m t n d,v.av]:=fun v H1 h1=>by
  rw[List.map_cons,List.map_cons,List.map_nil,(h.cQ h1).dW,dv _ (show cK 0 v.av by simp[cK])]
 have h0:=h
 obtain⟨hM,⟨dd,ra⟩,hout⟩:=h
 obtain⟨⟨a1,a2,a3,a4,a5,b1,b2,b3,b4,c1,c2,c3,e1',e2',f1⟩,n1,n2,n3,n4,n5,n6⟩:=apart hM ht
 have hmem:=hM.mem
 have k0:=hlt ab (by simp)
 have km:=hlt L.mr (by simp)
 have ke:=hlt L.me (List.mem_cons_of_mem _ (hmem _ (by simp)))
 have kh:=hlt L.ho (List.mem_cons_of_mem _ (hmem _ (by simp)))
 have kp:=hlt L.pr (List.mem_cons_of_mem _ (hmem _ (by simp)))
 have o1:=dQ hout (List.mem_cons_self (a:=L.mr))
 have o2:=dQ hout (hmem L.me (by simp))
 have o3:=dQ hout (hmem L.ho (by simp))
 have o4:=dQ hout (hmem L.pr (by simp))
 clear a1 a2 a4 b1 b2 b3 b4 c1 c2 c3 e1' e2' f1 n1 n2 n3 n4 n5 n6
 obtain⟨d1,r1⟩:=hM.rM
 obtain⟨d3,r4⟩:=hM.rE
 obtain⟨d5,r5⟩:=hM.rH
 obtain⟨d6,r6⟩:=hM.rP
 have q1:(m.mem.map i64).length=m.mem.length:=by simp
 have q2:(m.hold.map i64).length=m.hold.length:=by simp
 have q3:(m.cN.map dV.av).length=m.cN.length:=by simp
 refine aL yQ rfl ?_
 refine cV ?_
 refine aZ (ab::L.all) (ir u m n d n.a ht hl hva) (fun H1 h1=>hfr n.a H1 h1) (by simp[cZ,cK]) trivial ?_
 refine Eq.mpr (sr (ab::L.all) _) (tM ?_)
 refine cV ?_
 exact⟨⟨rfl,⟨hM.jX ht _ _ ⟨_,bx⟩ fun y hy hne=>by have:=dQ hout hy;exact cA,⟨_,bx⟩,hout⟩,c8,fun y y1 y2 y3=>by have y4:=dQ y3 (hmem L.me (by simp));exact cA⟩⟩
theorem DB {u:bu} {m:MS} {t:Nat} {n:Node} {d:gR} {ab:Nat} {L:ML} {H:Hp} {nx:Nat} (h:tw u m t n d ab L H) (hlt:∀y∈ab::L.all,y<nx) (ht:t<m.bz.length) (hl:m.bz.length≤8) (hva:nI m t n.a) (hpl:m.cN.length≤1048576):
 cJ Tryz.prog 112 [.pt ab 1 0 0] H nx (fun r H' k=>r=i64 n.next∧tU u { m with cN:=m.cN++[⟨t,m.val t n.a⟩] } t n { d with word:=m.val t n.a } ab L H nx H' k):=by
 have hfr:∀(v:l3) (H1:Hp),(∀y∈ab::L.all,bt H1 y=bt H y)→[.pt ab 1 0 0,v.av].map (cY.dW H1 6)=[nJ u m t n d,v.av]:=fun v H1 h1=>by
  rw[List.map_cons,List.map_cons,List.map_nil,(h.cQ h1).dW,dv _ (show cK 0 v.av by simp[cK])]
 have h0:=h
 obtain⟨hM,⟨dd,ra⟩,hout⟩:=h
 obtain⟨⟨a1,a2,a3,a4,a5,b1,b2,b3,b4,c1,c2,c3,e1',e2',f1⟩,n1,n2,n3,n4,n5,n6⟩:=apart hM ht
 have hmem:=hM.mem
 have k0:=hlt ab (by simp)
 have km:=hlt L.mr (by simp)
 have ke:=hlt L.me (List.mem_cons_of_mem _ (hmem _ (by simp)))
 have kh:=hlt L.ho (List.mem_cons_of_mem _ (hmem _ (by simp)))
 have kp:=hlt L.pr (List.mem_cons_of_mem _ (hmem _ (by simp)))
 have o1:=dQ hout (List.mem_cons_self (a:=L.mr))
 have o2:=dQ hout (hmem L.me (by simp))
 have o3:=dQ hout (hmem L.ho (by simp))
 have o4:=dQ hout (hmem L.pr (by simp))
 clear a1 a2 a4 b1 b2 b3 b4 c1 c2 c3 e1' e2' f1 n1 n2 n3 n4 n5 n6
 obtain⟨d1,r1⟩:=hM.rM
 obtain⟨d3,r4⟩:=hM.rE
 obtain⟨d5,r5⟩:=hM.rH
 obtain⟨d6,r6⟩:=hM.rP
 have q1:(m.mem.map i64).length=m.mem.length:=by simp
 have q2:(m.hold.map i64).length=m.hold.length:=by simp
 have q3:(m.cN.map dV.av).length=m.cN.length:=by simp
 refine aL yU rfl ?_
 refine cV ?_
 refine aS (ir u m n d n.a ht hl hva) (hfr n.a _ ?_) (by simp[cZ,cK]) trivial ?_
 ·exact fun y hy=>rfl
 refine cV ?_
 exact⟨⟨rfl,⟨hM.V7 ht _ ⟨_,by simp only[MS.rows,List.length_append,List.length_cons,List.length_nil];exact bx⟩ ⟨_,bx⟩ fun y hy hne hn2=>by have:=dQ hout hy;have:=hlt y (List.mem_cons_of_mem _ hy);exact cA,⟨_,bx⟩,hout⟩,c8,fun y y1 y2 y3=>by have y4:=dQ y3 (List.mem_cons_self (a:=L.mr));have y5:=dQ y3 (hmem L.pr (by simp));exact cA⟩⟩
theorem KS {u:bu} {m:MS} {t:Nat} {n:Node} {d:gR} {ab:Nat} {L:ML} {H:Hp} {nx:Nat} (h:tw u m t n d ab L H) (hlt:∀y∈ab::L.all,y<nx) (ht:t<m.bz.length) (hl:m.bz.length≤8) (hva:nI m t n.a) (hs:0≤n.slot∧n.slot<(m.bz.getD t []).length) (hth:0≤n.cP∧n.cP<m.mem.length):
 cJ Tryz.prog 109 [.pt ab 1 0 0] H nx (fun r H' k=>r=i64 n.next∧tU u { m.gZ t n.slot (m.mem.getD n.cP.toNat 0) with mem:=m.mem.set n.cP.toNat (m.val t n.a) } t n { d with cP:=n.cP,word:=m.mem.getD n.cP.toNat 0,put:=m.val t n.a } ab L H nx H' k):=by
 have hfr:∀(v:l3) (H1:Hp),(∀y∈ab::L.all,bt H1 y=bt H y)→[.pt ab 1 0 0,v.av].map (cY.dW H1 6)=[nJ u m t n d,v.av]:=fun v H1 h1=>by
  rw[List.map_cons,List.map_cons,List.map_nil,(h.cQ h1).dW,dv _ (show cK 0 v.av by simp[cK])]
 have h0:=h
 obtain⟨hM,⟨dd,ra⟩,hout⟩:=h
 obtain⟨⟨a1,a2,a3,a4,a5,b1,b2,b3,b4,c1,c2,c3,e1',e2',f1⟩,n1,n2,n3,n4,n5,n6⟩:=apart hM ht
 have hmem:=hM.mem
 have k0:=hlt ab (by simp)
 have km:=hlt L.mr (by simp)
 have ke:=hlt L.me (List.mem_cons_of_mem _ (hmem _ (by simp)))
 have kh:=hlt L.ho (List.mem_cons_of_mem _ (hmem _ (by simp)))
 have kp:=hlt L.pr (List.mem_cons_of_mem _ (hmem _ (by simp)))
 have o1:=dQ hout (List.mem_cons_self (a:=L.mr))
 have o2:=dQ hout (hmem L.me (by simp))
 have o3:=dQ hout (hmem L.ho (by simp))
 have o4:=dQ hout (hmem L.pr (by simp))
 clear a1 a2 a4 b1 b2 b3 b4 c1 c2 c3 e1' e2' f1 n1 n2 n3 n4 n5 n6
 obtain⟨d1,r1⟩:=hM.rM
 obtain⟨d3,r4⟩:=hM.rE
 obtain⟨d5,r5⟩:=hM.rH
 obtain⟨d6,r6⟩:=hM.rP
 have q1:(m.mem.map i64).length=m.mem.length:=by simp
 have q2:(m.hold.map i64).length=m.hold.length:=by simp
 have q3:(m.cN.map dV.av).length=m.cN.length:=by simp
 have e0:=fun d=>om (l:=m.mem) (k:=n.cP) (by omega) d
 refine aL yR rfl ?_
 refine cV ?_
 refine aZ (ab::L.all) (ir u m n d n.a ht hl hva) (fun H1 h1=>hfr n.a H1 h1) (by simp[cZ,cK]) trivial ?_
 refine Eq.mpr (sr (ab::L.all) _) (tM ?_)
 refine cV ?_
 refine aJ (kP (u:=u) (t:=t) (n:=n) (d:={ d with cP:=n.cP,put:=m.val t n.a }) (L:=L) (m:=m) (ab:=ab) ?_ ?_ ht hl hs _) ?_
 ·exact⟨hM.cQ fun y hy=>by have:=dQ hout hy;exact cA,⟨_,bx⟩,hout⟩
 ·exact fun y hy=>Nat.lt_of_lt_of_le (hlt y hy) c8
 rintro _ H2 n2 ⟨hA,hn2,hk2⟩
 obtain⟨dd2,ra2⟩:=hA.row
 obtain⟨d8,r8⟩:=hA.M.rM
 obtain⟨d9,r9⟩:=hA.M.rE
 refine cV ?_
 have ht2:t<(m.gZ t n.slot (m.mem.getD n.cP.toNat 0)).bz.length:=by simp only[MS.gZ,List.length_set];exact ht
 exact⟨⟨rfl,⟨hA.M.jX ht2 _ _ ⟨_,bx⟩ fun y hy hne=>by have:=dQ hout hy;exact cA,⟨_,bx⟩,hout⟩,c8,fun y y1 y2 y3=>by have y4:=dQ y3 (hmem L.me (by simp));exact Eq.trans cA ((hk2 y (Nat.lt_of_lt_of_le y1 c8) y2 y3).trans cA)⟩⟩
theorem PN {u:bu} {m:MS} {t:Nat} {n:Node} {d:gR} {ab:Nat} {L:ML} {H:Hp} {nx:Nat} (h:tw u m t n d ab L H) (hlt:∀y∈ab::L.all,y<nx) (ht:t<m.bz.length) (hl:m.bz.length≤8) (hs:0≤n.slot∧n.slot<(m.bz.getD t []).length) (hva:nI m t n.a) (hvb:eA n.op=true→nI m t n.b) (hop:0≤n.op∧n.op<19):
 cJ Tryz.prog 106 [.pt ab 1 0 0] H nx (fun r H' k=>r=i64 n.next∧tU u (m.gZ t n.slot (m.DS t n)) t n { d with word:=m.DS t n } ab L H nx H' k):=by
 have hfr:∀(v:l3) (H1:Hp),(∀y∈ab::L.all,bt H1 y=bt H y)→[.pt ab 1 0 0,v.av].map (cY.dW H1 6)=[nJ u m t n d,v.av]:=fun v H1 h1=>by
  rw[List.map_cons,List.map_cons,List.map_nil,(h.cQ h1).dW,dv _ (show cK 0 v.av by simp[cK])]
 have h0:=h
 obtain⟨hM,⟨dd,ra⟩,hout⟩:=h
 obtain⟨⟨a1,a2,a3,a4,a5,b1,b2,b3,b4,c1,c2,c3,e1',e2',f1⟩,n1,n2,n3,n4,n5,n6⟩:=apart hM ht
 have hmem:=hM.mem
 have k0:=hlt ab (by simp)
 have km:=hlt L.mr (by simp)
 have ke:=hlt L.me (List.mem_cons_of_mem _ (hmem _ (by simp)))
 have kh:=hlt L.ho (List.mem_cons_of_mem _ (hmem _ (by simp)))
 have kp:=hlt L.pr (List.mem_cons_of_mem _ (hmem _ (by simp)))
 have o1:=dQ hout (List.mem_cons_self (a:=L.mr))
 have o2:=dQ hout (hmem L.me (by simp))
 have o3:=dQ hout (hmem L.ho (by simp))
 have o4:=dQ hout (hmem L.pr (by simp))
 clear a1 a2 a4 b1 b2 b3 b4 c1 c2 c3 e1' e2' f1 n1 n2 n3 n4 n5 n6
 obtain⟨d1,r1⟩:=hM.rM
 obtain⟨d3,r4⟩:=hM.rE
 obtain⟨d5,r5⟩:=hM.rH
 obtain⟨d6,r6⟩:=hM.rP
 have q1:(m.mem.map i64).length=m.mem.length:=by simp
 have q2:(m.hold.map i64).length=m.hold.length:=by simp
 have q3:(m.cN.map dV.av).length=m.cN.length:=by simp
 have c0:=fP n.op hop.1
 unfold MS.DS
 cases h2:eA n.op with
 |true=>
  rw[h2] at c0
  have c1:=UR n.op (m.val t n.a) (m.val t n.b) h2
  have hvb:=hvb h2
  rw[if_pos rfl]
  refine aL sa rfl ?_
  refine cV ?_
  refine aS (ir u m n d n.a ht hl hva) (hfr n.a _ ?_) (by simp[cZ,cK]) trivial ?_
  ·exact fun y hy=>rfl
  refine cV ?_
  refine aZ (ab::L.all) (ir u m n d n.b ht hl hvb) (fun H1 h1=>hfr n.b H1 h1) (by simp[cZ,cK]) trivial ?_
  refine Eq.mpr (sr (ab::L.all) _) (tM ?_)
  refine cV ?_
  refine aJ (kP (u:=u) (t:=t) (n:=n) (d:=d) (L:=L) (m:=m) (ab:=ab) ?_ ?_ ht hl hs _) ?_
  ·exact⟨hM.cQ fun y hy=>by have:=dQ hout hy;exact cA,⟨_,bx⟩,hout⟩
  ·exact fun y hy=>Nat.lt_of_lt_of_le (hlt y hy) c8
  rintro _ H2 n2 ⟨hA,hn2,hk2⟩
  obtain⟨dd2,ra2⟩:=hA.row
  refine cV ?_
  exact⟨⟨rfl,hA.cQ fun y hy=>cA,c8,fun y y1 y2 y3=>Eq.trans cA ((hk2 y (Nat.lt_of_lt_of_le y1 c8) y2 y3).trans cA)⟩⟩
 |false=>
  rw[h2] at c0
  rw[if_neg (by decide)]
  by_cases h0':n.op=0
  ·rw[if_neg (fun e=>e h0')]
   refine aL sa rfl ?_
   refine cV ?_
   refine aS (ir u m n d n.a ht hl hva) (hfr n.a _ ?_) (by simp[cZ,cK]) trivial ?_
   ·exact fun y hy=>rfl
   refine cV ?_
   refine aJ (kP (u:=u) (t:=t) (n:=n) (d:=d) (L:=L) (m:=m) (ab:=ab) ?_ ?_ ht hl hs _) ?_
   ·exact⟨hM.cQ fun y hy=>by have:=dQ hout hy;exact cA,⟨_,bx⟩,hout⟩
   ·exact fun y hy=>Nat.lt_of_lt_of_le (hlt y hy) c8
   rintro _ H2 n2 ⟨hA,hn2,hk2⟩
   obtain⟨dd2,ra2⟩:=hA.row
   refine cV ?_
   exact⟨⟨rfl,hA.cQ fun y hy=>cA,c8,fun y y1 y2 y3=>Eq.trans cA ((hk2 y (Nat.lt_of_lt_of_le y1 c8) y2 y3).trans cA)⟩⟩
  ·rw[if_pos h0']
   have c1:=QF n.op (m.val t n.a) (by unfold eA at h2;simp only[Bool.and_eq_false_iff,decide_eq_false_iff_not] at h2;omega)
   refine aL sa rfl ?_
   refine cV ?_
   refine aS (ir u m n d n.a ht hl hva) (hfr n.a _ ?_) (by simp[cZ,cK]) trivial ?_
   ·exact fun y hy=>rfl
   refine cV ?_
   refine aJ (kP (u:=u) (t:=t) (n:=n) (d:=d) (L:=L) (m:=m) (ab:=ab) ?_ ?_ ht hl hs _) ?_
   ·exact⟨hM.cQ fun y hy=>by have:=dQ hout hy;exact cA,⟨_,bx⟩,hout⟩
   ·exact fun y hy=>Nat.lt_of_lt_of_le (hlt y hy) c8
   rintro _ H2 n2 ⟨hA,hn2,hk2⟩
   obtain⟨dd2,ra2⟩:=hA.row
   refine cV ?_
   exact⟨⟨rfl,hA.cQ fun y hy=>cA,c8,fun y y1 y2 y3=>Eq.trans cA ((hk2 y (Nat.lt_of_lt_of_le y1 c8) y2 y3).trans cA)⟩⟩
end Go.Proofs.YtjopoheligmmoaaGreatDoor
end
