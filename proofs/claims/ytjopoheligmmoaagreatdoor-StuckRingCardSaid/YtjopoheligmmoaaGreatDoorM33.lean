import Derived.Test.YtjopoheligmmoaaGreatDoorM32
section
/- A step keeps a situation right. -/
namespace Go.Proofs.YtjopoheligmmoaaGreatDoor
open Go Go.cX Go.Proofs
set_option linter.unusedSimpArgs false
set_option linter.unusedVariables false
theorem sq (n:Int):eL (wX n):=by unfold eL wX;rw[IntKind.wrap_i64];omega
theorem U7 {p:Prop} [Decidable p] {a b:Int} (h1:eL a) (h2:eL b):eL (if p then a else b):=by
 split
 ·exact h1
 ·exact h2
theorem TZ (t:Bool):eL (tr t):=by unfold tr eL;split<;>omega
theorem SQ {a:Int} (h:eL a) (b:Int):eL (SP a b):=by
 unfold SP
 have hd:(1:Int)≤2^(min (K7 b).toNat 64):=Int.le_of_lt_add_one (by have:(0:Int)<2^(min (K7 b).toNat 64):=Int.pow_pos (by omega);omega)
 generalize (2:Int)^(min (K7 b).toNat 64)=d at *
 rw[Int.fdiv_eq_ediv_of_nonneg _ (by omega)]
 have h1:=Int.mul_ediv_add_emod a d
 have h2:=Int.emod_nonneg a (b:=d) (by omega)
 have h3:=Int.emod_lt_of_pos a (b:=d) (by omega)
 obtain⟨h4,h5⟩:=h
 generalize a /d=q at *
 generalize a%d=r at *
 constructor
 ·apply Int.not_lt.1
  intro hq
  have:d * (q+1)≤1 * (q+1):=Int.mul_le_mul_of_nonpos_right hd (by omega)
  rw[Int.mul_add] at this
  omega
 ·apply Int.not_le.1
  intro hq
  have:1 * q≤d * q:=Int.mul_le_mul_of_nonneg_right hd (by omega)
  omega
theorem S8 {a b:Int} (ha:eL a) (op:Int):eL (S7 op a b):=by
 have hq:eL (JJ a b):=by
  unfold JJ
  split
  ·exact⟨by omega,by omega⟩
  ·split
   ·exact sq _
   ·exact sq _
 have hm:eL (OK a b):=by
  unfold OK
  split
  ·exact ha
  ·exact sq _
 unfold S7
 repeat' (with_reducible refine U7 ?_ ?_)
 all_goals first
  |exact TZ _
  |exact SQ ha _
  |exact hq
  |exact hm
  |exact sq _
theorem SD (op a:Int):eL (SC op a):=by
 unfold SC
 split
 ·exact sq _
 ·exact TZ _
theorem getD_none {α:Type} {l:List α} {k:Nat} {d:α} (h:l.length≤k):l.getD k d=d:=by simp[List.getD,List.getElem?_eq_none h]
section
variable {u:bt} {m:MS} {t:Nat}
theorem SS (h:eM u m) (ht:t<u.bw.length) (k:Nat):eL ((m.bx.getD t []).getD k 0):=by
 by_cases hk:k<(m.bx.getD t []).length
 ·exact h.C7 t ht _ (cQ 0 hk)
 ·rw[getD_none (Nat.le_of_not_lt hk)]
  exact⟨by omega,by omega⟩
theorem DJ (h:eM u m) (ht:t<u.bw.length) {v:lL} (hv:v.Wf):eL (m.val t v):=by
 unfold MS.val
 split
 ·exact SS h ht _
 ·exact hv.word
theorem SO (h:eM u m) (ht:t<u.bw.length) {n:Node} (hn:n.Wf):eL (m.C1 t n):=by
 unfold MS.C1
 split
 ·exact S8 (DJ h ht hn.a) _
 ·split
  ·exact SD _ _
  ·exact DJ h ht hn.a
theorem nh {α:Type} {l:List α} {i:Nat} {a x:α} (h:x∈l.set i a):x∈l∨x=a:=by
 rcases List.mem_or_eq_of_mem_set h with h|h
 ·exact .inl h
 ·exact .inr h
theorem getD_set_ne {α:Type} {l:List α} {i j:Nat} {v d:α} (h:i≠j):(l.set i v).getD j d=l.getD j d:=by simp[List.getD,List.getElem?_set_ne h]
theorem eM.gW (h:eM u m) (k w:Int) (hw:eL w):eM u (m.gW t k w) where
 pV:=h.pV
 gQ:=h.gQ
 sl:=by simp only[MS.gW,List.length_set];exact h.sl
 C6:=fun s hs=>by
  simp only[MS.gW]
  by_cases e:t=s
  ·subst e
   rw[eY (by rw[h.sl];exact hs),List.length_set]
   exact h.C6 t hs
  ·rw[getD_set_ne e];exact h.C6 s hs
 C7:=fun s hs x hx=>by
  simp only[MS.gW] at hx
  by_cases e:t=s
  ·subst e
   rw[eY (by rw[h.sl];exact hs)] at hx
   rcases nh hx with hx|rfl
   ·exact h.C7 t hs x hx
   ·exact hw
  ·rw[getD_set_ne e] at hx;exact h.C7 s hs x hx
 ml:=h.ml
 mw:=h.mw
 hl:=h.hl
 hw:=h.hw
 pw:=h.pw
theorem eM.mem (h:eM u m) (k:Nat) (w:Int) (hw:eL w):eM u { m with mem:=m.mem.set k w } where
 pV:=h.pV
 gQ:=h.gQ
 sl:=h.sl
 C6:=h.C6
 C7:=h.C7
 ml:=by simp only[List.length_set];exact h.ml
 mw:=fun x hx=>by
  rcases nh hx with hx|rfl
  ·exact h.mw x hx
  ·exact hw
 hl:=h.hl
 hw:=h.hw
 pw:=h.pw
theorem eM.hold (h:eM u m) (k:Nat) (w:Int) (hw:-1≤w∧w<u.bw.length):eM u { m with hold:=m.hold.set k w } where
 pV:=h.pV
 gQ:=h.gQ
 sl:=h.sl
 C6:=h.C6
 C7:=h.C7
 ml:=h.ml
 mw:=h.mw
 hl:=by simp only[List.length_set];exact h.hl
 hw:=fun x hx=>by
  rcases nh hx with hx|rfl
  ·exact h.hw x hx
  ·exact hw
 pw:=h.pw
theorem eM.print (h:eM u m) (p:dR) (hp:0≤p.dZ∧p.dZ<u.bw.length∧eL p.word):eM u { m with cM:=m.cM++[p] } where
 pV:=h.pV
 gQ:=h.gQ
 sl:=h.sl
 C6:=h.C6
 C7:=h.C7
 ml:=h.ml
 mw:=h.mw
 hl:=h.hl
 hw:=h.hw
 pw:=fun x hx=>by
  rcases List.mem_append.1 hx with hx|hx
  ·exact h.pw x hx
  ·simp only[List.mem_cons,List.not_mem_nil,or_false] at hx
   subst hx;exact hp
theorem eM.YX (h:eM u m) (k:Int) (hk:t<u.bw.length→0≤k∧k<(u.gr t).nodes.length):eM u { m with at_:=m.at_.set t k } where
 pV:=by simp only[List.length_set];exact h.pV
 gQ:=fun s hs=>by
  by_cases e:t=s
  ·subst e
   dsimp only
   rw[eY (by rw[h.pV];exact hs)]
   exact hk hs
  ·dsimp only
   rw[getD_set_ne e];exact h.gQ s hs
 sl:=h.sl
 C6:=h.C6
 C7:=h.C7
 ml:=h.ml
 mw:=h.mw
 hl:=h.hl
 hw:=h.hw
 pw:=h.pw
theorem jv (h:eM u m) (ht:t<u.bw.length) (hb:m.mI u t=0):(m.node u t).kind≠9∧¬((m.node u t).kind=5∧0≤m.hold.getD (m.node u t).cO.toNat 0):=by
 unfold MS.mI at hb
 rw[if_neg (by have:=h.pV;omega),Int.toNat_natCast] at hb
 refine⟨fun e=> ?_,fun e=> ?_⟩
 ·rw[if_pos e] at hb;cases hb
 ·rw[if_neg (by omega)] at hb
  rw[if_pos e] at hb
  cases hb
theorem GC (hu:u.Wf) (h:eM u m) (ht:t<u.bw.length):(m.node u t).Wf:=by
 have h1:=h.gQ t ht
 exact(hu.bw _ (cQ default ht)).nodes _ (cQ default (show(m.at_.getD t 0).toNat<(u.gr t).nodes.length by omega))
theorem UB (hu:u.Wf) (hr:cY u) (h:eM u m) (ht:t<u.bw.length):eM u (m.act t (m.node u t)).1:=by
 have hn:=h.node hr ht
 have hw:=GC hu h ht
 have hst:=SO h ht hw
 have hva:=DJ h ht hw.a
 have hmw:eL (m.mem.getD (m.node u t).cO.toNat 0):=by
  by_cases hk:(m.node u t).cO.toNat<m.mem.length
  ·exact h.mw _ (cQ 0 hk)
  ·rw[getD_none (Nat.le_of_not_lt hk)];exact⟨by omega,by omega⟩
 generalize m.node u t=n at *
 unfold MS.act
 split
 ·exact h.gW _ _ hst
 split
 ·exact h.gW _ _ hmw
 split
 ·exact h.mem _ _ hva
 split
 ·exact(h.gW (t:=t) n.slot _ hmw).mem _ _ hva
 split
 ·exact h.hold _ _ ⟨by omega,by omega⟩
 split
 ·exact h.hold _ _ ⟨by omega,by omega⟩
 split
 ·exact h.print _ ⟨by dsimp only;omega,by dsimp only;omega,hva⟩
 ·exact h
theorem KN (hr:cY u) (h:eM u m) (ht:t<u.bw.length) (hk:(m.node u t).kind≠9):0≤(m.act t (m.node u t)).2.1∧(m.act t (m.node u t)).2.1<(u.gr t).nodes.length:=by
 have hn:=h.node hr ht
 generalize m.node u t=n at *
 have hkd:=hn.kind
 have hnx:=hn.next.1 (by unfold jP;exact decide_eq_true (by omega))
 unfold MS.act
 repeat' split
 all_goals first
  |exact hnx
  |exact hn.rh.1 (by omega)
theorem wQ (hu:u.Wf) (hr:cY u) (h:eM u m) (ht:t<u.bw.length) (hk:(m.node u t).kind≠9):eM u (m.step u t).1:=by
 have h1:=UB hu hr h ht
 have h2:=KN hr h ht hk
 have h3:(m.step u t).1={ (m.act t (m.node u t)).1 with at_:=m.at_.set t (m.act t (m.node u t)).2.1 }:=rfl
 have h4:(m.act t (m.node u t)).1.at_=m.at_:=by
  unfold MS.act
  repeat' split
  all_goals rfl
 rw[h3,←h4]
 exact h1.YX _ fun _=>h2
end
end Go.Proofs.YtjopoheligmmoaaGreatDoor
end
section
/- The machine in rows: what a store makes of it. -/
namespace Go.Proofs.YtjopoheligmmoaaGreatDoor
open Go Go.cX Go.Proofs
set_option linter.unusedSimpArgs false
set_option linter.unusedVariables false
structure ML where
 mr:Nat
 a:Nat
 s:Nat
 me:Nat
 ho:Nat
 pr:Nat
 ids:List Nat
abbrev ML.all (L:ML):List Nat:=L.mr::L.a::L.s::L.me::L.ho::L.pr::L.ids
abbrev ML.it (L:ML) (t:Nat):Nat:=L.ids.getD t 0
abbrev ML.At (L:ML) (u:bt) (m:MS) (H:Hp):Prop:=V6 u m L.mr L.a L.s L.me L.ho L.pr L.ids H
theorem V6.HL {u:bt} {m:MS} {mr a s me ho pr:Nat} {ids:List Nat} {H:Hp} (h:V6 u m mr a s me ho pr ids H) (k:Nat):cX.dU H (k+4) (.pt mr 1 0 0)=m.fz u:=by
 obtain⟨d1,h1⟩:=h.rM
 obtain⟨d2,h2⟩:=h.rA
 obtain⟨d3,h3⟩:=h.rS
 obtain⟨d4,h4⟩:=h.rE
 obtain⟨d5,h5⟩:=h.rH
 obtain⟨d6,h6⟩:=h.rP
 have hsl:(eP ids m.bx).length=m.bx.length:=by unfold eP;rw[List.length_map,List.length_zip,h.len];simp
 have hs:(eP ids m.bx).map (cX.dU H (k+1))=m.bx.map cR:=by
  apply List.ext_getElem (by simp[hsl])
  intro t q1 q2
  have ht:t<m.bx.length:=by simpa using q2
  have hti:t<ids.length:=by rw[h.len];exact ht
  obtain⟨d,hd⟩:=h.rL t ht
  rw[show ids.getD t 0=ids[t] by simp[List.getD,hti],show m.bx.getD t []=m.bx[t] by simp[List.getD,ht]] at hd
  rw[List.getElem_map,List.getElem_map]
  simp only[eP,List.getElem_map,List.getElem_zip]
  rw[de hd (by simp),cx _ ((cB _ _).2 fun _ _=>by simp[cK])]
 simp only[cX.dU,h1]
 simp only[List.length_cons,List.length_nil,if_true,List.map_cons,List.map_nil,MS.rows]
 rw[vg]
 simp only[List.map_cons,List.map_nil]
 rw[de h2 (by simp),de h3 hsl,de h4 (by simp),de h5 (by simp),de h6 (by simp),hs]
 rw[cx _ ((cB _ _).2 fun _ _=>by simp[cK]),cx _ ((cB _ _).2 fun _ _=>by simp[cK]),cx _ ((cB _ _).2 fun _ _=>by simp[cK]),cx _ ((cB _ _).2 fun _ _=>by simp[cK])]
 rw[du _ (show cK 0 (cq u.shared) by simp[cK,cB]),du _ (show cK 0 (cq u.cC) by simp[cK,cB]),du _ (show cK 0 (db u.bw) by simp[cK,cB])]
 rfl
section
variable {u:bt} {m:MS} {L:ML} {H H':Hp}
theorem mF {p:Prop} (h:p:=by first|assumption|(refine Ne.symm ?_;assumption)):p:=h
theorem ML.At.mem (h:L.At u m H):(∀x∈[L.a,L.s,L.me,L.ho,L.pr],x∈L.all):=by
 intro x hx
 simp only[List.mem_cons,List.not_mem_nil,or_false] at hx
 simp only[ML.all,List.mem_cons]
 omega
theorem ko (h:L.At u m H) {t:Nat} (ht:t<m.bx.length):L.it t∈L.all:=by
 have:L.it t∈L.ids:=fE (by rw[h.len];exact ht)
 simp only[ML.all,List.mem_cons]
 exact .inr (.inr (.inr (.inr (.inr (.inr this)))))
theorem XI (h:L.At u m H) {t s:Nat} (ht:t<m.bx.length) (hs:s<m.bx.length) (e:s≠t):L.it s≠L.it t:=by
 have h1:=(List.nodup_cons.1 (List.nodup_cons.1 (List.nodup_cons.1 (List.nodup_cons.1 (List.nodup_cons.1 (List.nodup_cons.1 h.nodup).2).2).2).2).2).2
 have hl:=h.len
 intro he
 have ht':t<L.ids.length:=by omega
 have hs':s<L.ids.length:=by omega
 have:L.ids[s]=L.ids[t]:=by simpa[ML.it,List.getD,ht',hs'] using he
 exact e ((List.getElem_inj h1).1 this)
structure ML.WN (L:ML) (t:Nat):Prop where
 ne:L.mr≠L.a∧L.mr≠L.s∧L.mr≠L.me∧L.mr≠L.ho∧L.mr≠L.pr∧L.a≠L.s∧L.a≠L.me∧L.a≠L.ho∧L.a≠L.pr∧L.s≠L.me∧L.s≠L.ho∧L.s≠L.pr∧L.me≠L.ho∧L.me≠L.pr∧L.ho≠L.pr
 it:L.it t≠L.mr∧L.it t≠L.a∧L.it t≠L.s∧L.it t≠L.me∧L.it t≠L.ho∧L.it t≠L.pr
theorem apart (h:L.At u m H) {t:Nat} (ht:t<m.bx.length):L.WN t:=by
 have hn:=h.nodup
 have hi:L.it t∈L.ids:=fE (by rw[h.len];exact ht)
 have hne:∀x,x∉L.ids→L.it t≠x:=fun x hx e=>hx (e▸hi)
 simp only[List.nodup_cons,List.mem_cons,not_or] at hn
 obtain⟨⟨a1,a2,a3,a4,a5,a6⟩,⟨b1,b2,b3,b4,b5⟩,⟨c1,c2,c3,c4⟩,⟨d1,d2,d3⟩,⟨e1,e2⟩,f1,_⟩:=hn
 exact⟨⟨a1,a2,a3,a4,a5,b1,b2,b3,b4,c1,c2,c3,d1,d2,e1⟩,hne _ a6,hne _ b5,hne _ c4,hne _ d3,hne _ e2,hne _ f1⟩
theorem ML.At.cP (h:L.At u m H) (hk:∀y∈L.all,br H' y=br H y):L.At u m H':=by
 have hm:=h.mem
 obtain⟨d1,h1⟩:=h.rM
 obtain⟨d2,h2⟩:=h.rA
 obtain⟨d3,h3⟩:=h.rS
 obtain⟨d4,h4⟩:=h.rE
 obtain⟨d5,h5⟩:=h.rH
 obtain⟨d6,h6⟩:=h.rP
 refine⟨⟨d1,(hk _ (by simp)).trans h1⟩,⟨d2,(hk _ (hm _ (by simp))).trans h2⟩,⟨d3,(hk _ (hm _ (by simp))).trans h3⟩,fun t ht=> ?_,⟨d4,(hk _ (hm _ (by simp))).trans h4⟩,⟨d5,(hk _ (hm _ (by simp))).trans h5⟩,⟨d6,(hk _ (hm _ (by simp))).trans h6⟩,h.len,h.nodup⟩
 obtain⟨d,hd⟩:=h.rL t ht
 exact⟨d,(hk _ (ko h ht)).trans hd⟩
theorem ML.At.gW (h:L.At u m H) {t:Nat} (ht:t<m.bx.length) (k w:Int) (hit:∃d,br H' (L.it t)=some (.row 2 1 d (((m.bx.getD t []).map i64).set k.toNat (i64 w)))) (hk:∀y∈L.all,y≠L.it t→br H' y=br H y):L.At u (m.gW t k w) H':=by
 obtain⟨-,n1,n2,n3,n4,n5,n6⟩:=apart h ht
 have hm:=h.mem
 obtain⟨d1,h1⟩:=h.rM
 obtain⟨d2,h2⟩:=h.rA
 obtain⟨d3,h3⟩:=h.rS
 obtain⟨d4,h4⟩:=h.rE
 obtain⟨d5,h5⟩:=h.rH
 obtain⟨d6,h6⟩:=h.rP
 have hl:(m.gW t k w).bx.length=m.bx.length:=by simp[MS.gW]
 have hrow:eP L.ids (m.gW t k w).bx=eP L.ids m.bx:=by
  unfold eP MS.gW
  apply List.ext_getElem (by simp)
  intro i q1 q2
  simp only[List.getElem_map,List.getElem_zip,AV.sl.injEq,true_and]
  rw[List.getElem_set]
  have hi:i<m.bx.length:=by simp at q2;omega
  split
  ·rename_i e;subst e;rw[List.length_set];simp[List.getD,hi]
  ·rfl
 refine⟨⟨d1, ?_⟩,⟨d2,(hk _ (hm _ (by simp)) mF).trans h2⟩,⟨d3,by rw[hrow];exact(hk _ (hm _ (by simp)) mF).trans h3⟩,fun s hs=> ?_,⟨d4,(hk _ (hm _ (by simp)) mF).trans h4⟩,⟨d5,(hk _ (hm _ (by simp)) mF).trans h5⟩,⟨d6,(hk _ (hm _ (by simp)) mF).trans h6⟩,by rw[hl];exact h.len,h.nodup⟩
 ·rw[show(m.gW t k w).rows u L.a L.s L.me L.ho L.pr=m.rows u L.a L.s L.me L.ho L.pr by simp[MS.rows,MS.gW]]
  exact(hk _ (by simp) mF).trans h1
 ·rw[hl] at hs
  by_cases e:s=t
  ·subst e
   obtain⟨d,hd⟩:=hit
   refine⟨d,hd.trans ?_⟩
   rw[show(m.gW s k w).bx.getD s []=(m.bx.getD s []).set k.toNat w from eY hs,List.map_set]
  ·obtain⟨d,hd⟩:=h.rL s hs
   refine⟨d, ?_⟩
   rw[show(m.gW t k w).bx.getD s []=m.bx.getD s [] from getD_set_ne (Ne.symm e)]
   exact(hk _ (ko h hs) (XI h ht hs e)).trans hd
theorem ML.At.jR (h:L.At u m H) {t:Nat} (ht:t<m.bx.length) (k w:Int) (hme:∃d,br H' L.me=some (.row 2 1 d ((m.mem.map i64).set k.toNat (i64 w)))) (hk:∀y∈L.all,y≠L.me→br H' y=br H y):L.At u { m with mem:=m.mem.set k.toNat w } H':=by
 obtain⟨⟨a1,a2,a3,a4,a5,b1,b2,b3,b4,c1,c2,c3,e1,e2,f1⟩,n1,n2,n3,n4,n5,n6⟩:=apart h ht
 have hm:=h.mem
 obtain⟨d1,h1⟩:=h.rM
 obtain⟨d2,h2⟩:=h.rA
 obtain⟨d3,h3⟩:=h.rS
 obtain⟨d4,h4⟩:=hme
 obtain⟨d5,h5⟩:=h.rH
 obtain⟨d6,h6⟩:=h.rP
 refine⟨⟨d1, ?_⟩,⟨d2,(hk _ (hm _ (by simp)) mF).trans h2⟩,⟨d3,(hk _ (hm _ (by simp)) mF).trans h3⟩,fun s hs=> ?_,⟨d4,by rw[List.map_set];exact h4⟩,⟨d5,(hk _ (hm _ (by simp)) mF).trans h5⟩,⟨d6,(hk _ (hm _ (by simp)) mF).trans h6⟩,h.len,h.nodup⟩
 ·rw[show({ m with mem:=m.mem.set k.toNat w }:MS).rows u L.a L.s L.me L.ho L.pr=m.rows u L.a L.s L.me L.ho L.pr by simp[MS.rows]]
  exact(hk _ (by simp) mF).trans h1
 ·obtain⟨d,hd⟩:=h.rL s hs
  obtain⟨m1,m2,m3,m4,m5,m6⟩:=(apart h hs).it
  exact⟨d,(hk _ (ko h hs) mF).trans hd⟩
theorem ML.At.TP (h:L.At u m H) {t:Nat} (ht:t<m.bx.length) (k w:Int) (hho:∃d,br H' L.ho=some (.row 3 1 d ((m.hold.map i64).set k.toNat (i64 w)))) (hk:∀y∈L.all,y≠L.ho→br H' y=br H y):L.At u { m with hold:=m.hold.set k.toNat w } H':=by
 obtain⟨⟨a1,a2,a3,a4,a5,b1,b2,b3,b4,c1,c2,c3,e1,e2,f1⟩,n1,n2,n3,n4,n5,n6⟩:=apart h ht
 have hm:=h.mem
 obtain⟨d1,h1⟩:=h.rM
 obtain⟨d2,h2⟩:=h.rA
 obtain⟨d3,h3⟩:=h.rS
 obtain⟨d4,h4⟩:=h.rE
 obtain⟨d5,h5⟩:=hho
 obtain⟨d6,h6⟩:=h.rP
 refine⟨⟨d1, ?_⟩,⟨d2,(hk _ (hm _ (by simp)) mF).trans h2⟩,⟨d3,(hk _ (hm _ (by simp)) mF).trans h3⟩,fun s hs=> ?_,⟨d4,(hk _ (hm _ (by simp)) mF).trans h4⟩,⟨d5,by rw[List.map_set];exact h5⟩,⟨d6,(hk _ (hm _ (by simp)) mF).trans h6⟩,h.len,h.nodup⟩
 ·rw[show({ m with hold:=m.hold.set k.toNat w }:MS).rows u L.a L.s L.me L.ho L.pr=m.rows u L.a L.s L.me L.ho L.pr by simp[MS.rows]]
  exact(hk _ (by simp) mF).trans h1
 ·obtain⟨d,hd⟩:=h.rL s hs
  obtain⟨m1,m2,m3,m4,m5,m6⟩:=(apart h hs).it
  exact⟨d,(hk _ (ko h hs) mF).trans hd⟩
theorem ML.At.YX (h:L.At u m H) {t:Nat} (ht:t<m.bx.length) (k:Nat) (w:Int) (hat:∃d,br H' L.a=some (.row 3 1 d ((m.at_.map i64).set k (i64 w)))) (hk:∀y∈L.all,y≠L.a→br H' y=br H y):L.At u { m with at_:=m.at_.set k w } H':=by
 obtain⟨⟨a1,a2,a3,a4,a5,b1,b2,b3,b4,c1,c2,c3,e1,e2,f1⟩,n1,n2,n3,n4,n5,n6⟩:=apart h ht
 have hm:=h.mem
 obtain⟨d1,h1⟩:=h.rM
 obtain⟨d2,h2⟩:=hat
 obtain⟨d3,h3⟩:=h.rS
 obtain⟨d4,h4⟩:=h.rE
 obtain⟨d5,h5⟩:=h.rH
 obtain⟨d6,h6⟩:=h.rP
 refine⟨⟨d1, ?_⟩,⟨d2,by rw[List.map_set];exact h2⟩,⟨d3,(hk _ (hm _ (by simp)) mF).trans h3⟩,fun s hs=> ?_,⟨d4,(hk _ (hm _ (by simp)) mF).trans h4⟩,⟨d5,(hk _ (hm _ (by simp)) mF).trans h5⟩,⟨d6,(hk _ (hm _ (by simp)) mF).trans h6⟩,h.len,h.nodup⟩
 ·rw[show({ m with at_:=m.at_.set k w }:MS).rows u L.a L.s L.me L.ho L.pr=m.rows u L.a L.s L.me L.ho L.pr by simp[MS.rows]]
  exact(hk _ (by simp) mF).trans h1
 ·obtain⟨d,hd⟩:=h.rL s hs
  obtain⟨m1,m2,m3,m4,m5,m6⟩:=(apart h hs).it
  exact⟨d,(hk _ (ko h hs) mF).trans hd⟩
theorem ML.At.VK (h:L.At u m H) {t:Nat} (ht:t<m.bx.length) (p:dR) (hmr:∃d,br H' L.mr=some (.row 114 8 d [({ m with cM:=m.cM++[p] }:MS).rows u L.a L.s L.me L.ho L.pr])) (hpr:∃d,br H' L.pr=some (.row 155 2 d (m.cM.map dR.av++[p.av]))) (hk:∀y∈L.all,y≠L.pr→y≠L.mr→br H' y=br H y):L.At u { m with cM:=m.cM++[p] } H':=by
 obtain⟨⟨a1,a2,a3,a4,a5,b1,b2,b3,b4,c1,c2,c3,e1,e2,f1⟩,n1,n2,n3,n4,n5,n6⟩:=apart h ht
 have hm:=h.mem
 obtain⟨d2,h2⟩:=h.rA
 obtain⟨d3,h3⟩:=h.rS
 obtain⟨d4,h4⟩:=h.rE
 obtain⟨d5,h5⟩:=h.rH
 obtain⟨d6,h6⟩:=hpr
 refine⟨hmr,⟨d2,(hk _ (hm _ (by simp)) mF mF).trans h2⟩,⟨d3,(hk _ (hm _ (by simp)) mF mF).trans h3⟩,fun s hs=> ?_,⟨d4,(hk _ (hm _ (by simp)) mF mF).trans h4⟩,⟨d5,(hk _ (hm _ (by simp)) mF mF).trans h5⟩,⟨d6,by rw[List.map_append];exact h6⟩,h.len,h.nodup⟩
 obtain⟨d,hd⟩:=h.rL s hs
 obtain⟨m1,m2,m3,m4,m5,m6⟩:=(apart h hs).it
 exact⟨d,(hk _ (ko h hs) mF mF).trans hd⟩
end
end Go.Proofs.YtjopoheligmmoaaGreatDoor
end
section
/- An action at work: what a value is; a word into a slot. -/
namespace Go.Proofs.YtjopoheligmmoaaGreatDoor
open Go Go.cX Go.Proofs
set_option linter.unusedSimpArgs false
set_option linter.unusedVariables false
set_option maxRecDepth 8000
def AC (x:AV) (t:Int) (n:Node) (d:gN):List AV:=[x,i64 t,u8 n.kind,u8 n.op,i64 n.slot,i64 n.cO,bl n.a.jF,i64 n.a.slot,i64 n.a.word,bl n.b.jF,i64 n.b.slot,i64 n.b.word,i64 n.next,i64 n.rh,i64 n.origin,i64 d.dZ,i64 d.node,u8 d.kind,i64 d.cO,i64 d.word,i64 d.put]
abbrev mz (u:bt) (m:MS) (t:Int) (n:Node) (d:gN):AV:= .ip 21 .any [.agg (AC (m.fz u) t n d)] 0 0
@[simp] theorem Y0 (k:Nat) (u:bt) (m:MS) (t:Int) (n:Node) (d:gN):cW k (AC (m.fz u) t n d):=by
  simp[cK,cW,AC]
structure tR (u:bt) (m:MS) (t:Nat) (n:Node) (d:gN) (ab:Nat) (L:ML) (H:Hp):Prop where
 M:L.At u m H
 row:∃dd,br H ab=some (.row 118 21 dd [.agg (AC (.pt L.mr 1 0 0) t n d)])
 out:ab∉L.all
theorem tR.dU {u:bt} {m:MS} {t:Nat} {n:Node} {d:gN} {ab:Nat} {L:ML} {H:Hp} (h:tR u m t n d ab L H):cX.dU H 6 (.pt ab 1 0 0)=mz u m t n d:=by
 obtain⟨dd,hr⟩:=h.row
 rw[show cX.dU H 6 (.pt ab 1 0 0)= .ip 21 .any (([.agg (AC (.pt L.mr 1 0 0) t n d)]:List AV).map (cX.dU H 5)) 0 0 from UZ hr rfl]
 simp only[List.map_cons,List.map_nil]
 rw[vg]
 simp only[AC,List.map_cons,List.map_nil]
 have:=h.M.HL 0
 rw[this]
 simp only[cX.dU]
 rfl
theorem tR.cP {u:bt} {m:MS} {t:Nat} {n:Node} {d:gN} {ab:Nat} {L:ML} {H H':Hp} (h:tR u m t n d ab L H) (hk:∀y∈ab::L.all,br H' y=br H y):tR u m t n d ab L H':=by
 obtain⟨dd,hr⟩:=h.row
 exact⟨h.M.cP fun y hy=>hk y (List.mem_cons_of_mem _ hy),⟨dd,(hk ab (by simp)).trans hr⟩,h.out⟩
def my (m:MS) (t:Nat) (v:lL):Prop:=v.jF=true→0≤v.slot∧v.slot<(m.bx.getD t []).length
theorem iZ (u:bt) (m:MS) {t:Nat} (n:Node) (d:gN) (v:lL) (ht:t<m.bx.length) (hl:m.bx.length≤8) (hv:my m t v):Pure Tryz.prog 158 [mz u m t n d,v.av] (fun r=>r=i64 (m.val t v)):=by
 unfold MS.val
 have e0:∀d,(m.bx.map cR).getD ((t:Int)).toNat d=cR (m.bx.getD t []):=fun d=>by rw[Int.toNat_natCast];exact cy cR m.bx t d ht
 have a0:(m.bx.map cR).length=m.bx.length:=by simp
 cases hs:v.jF with
 |true=>
  have r0:=hs
  obtain⟨v1,v2⟩:=hv hs
  have a1:((m.bx.getD t []).map i64).length=(m.bx.getD t []).length:=by simp
  have e1:=fun d=>oW (l:=m.bx.getD t []) (k:=v.slot) (by omega) d
  rw[if_pos rfl]
  refine aI u0 rfl ?_
  refine cT ?_
  first|exact rfl|trivial
 |false=>
  have r0:=hs
  rw[if_neg (by decide)]
  refine aI u0 rfl ?_
  refine cT ?_
  first|exact rfl|trivial
abbrev tA (u:bt) (m:MS) (t:Nat) (n:Node) (d:gN) (ab:Nat) (L:ML) (H0:Hp) (nx:Nat) (H:Hp) (k:Nat):Prop:=tR u m t n d ab L H∧nx≤k∧∀y,y<nx→y≠ab→y∉L.all→br H y=br H0 y
theorem OW {L:ML} {m:MS} {t:Nat} (hl:L.ids.length=m.bx.length) (ht:t<m.bx.length) (d:AV):(eP L.ids m.bx).getD t d= .sl (L.it t) (m.bx.getD t []).length:=by
 have h1:t<L.ids.length:=by omega
 have h2:t<(L.ids.zip m.bx).length:=by rw[List.length_zip];omega
 simp[eP,List.getD,ht,h1,List.getElem?_eq_getElem h2]
theorem uh {L:ML} {m:MS} (hl:L.ids.length=m.bx.length):(eP L.ids m.bx).length=m.bx.length:=by
 unfold eP;rw[List.length_map,List.length_zip,hl];simp
theorem dM {x y:Nat} {l:List Nat} (h:x∉l) (hy:y∈l):y≠x:=fun e=>h (e▸hy)
set_option maxHeartbeats 1000000 in
theorem kE {u:bt} {m:MS} {t:Nat} {n:Node} {d:gN} {ab:Nat} {L:ML} {H:Hp} {nx:Nat} (h:tR u m t n d ab L H) (hlt:∀y∈ab::L.all,y<nx) (ht:t<m.bx.length) (hl:m.bx.length≤8) (hs:0≤n.slot∧n.slot<(m.bx.getD t []).length) (w:Int):
 cI Tryz.prog 162 [.pt ab 1 0 0,i64 w] H nx (fun _ H' k=>tA u (m.gW t n.slot w) t n { d with word:=w } ab L H nx H' k):=by
 obtain⟨hM,⟨dd,ra⟩,hout⟩:=h
 obtain⟨⟨a1,a2,a3,a4,a5,b1,b2,b3,b4,c1,c2,c3,e1,e2,f1⟩,n1,n2,n3,n4,n5,n6⟩:=apart hM ht
 have hmem:=hM.mem
 have k0:=hlt ab (by simp)
 have km:=hlt L.mr (by simp)
 have ks:=hlt L.s (List.mem_cons_of_mem _ (hmem _ (by simp)))
 have ki:=hlt (L.it t) (List.mem_cons_of_mem _ (ko hM ht))
 have o1:=dM hout (List.mem_cons_self (a:=L.mr))
 have o2:=dM hout (hmem L.s (by simp))
 have o3:=dM hout (ko hM ht)
 obtain⟨d1,r1⟩:=hM.rM
 obtain⟨d3,r3⟩:=hM.rS
 obtain⟨d7,r7⟩:=hM.rL t ht
 have e0:∀d,(eP L.ids m.bx).getD ((t:Int)).toNat d= .sl (L.it t) (m.bx.getD t []).length:=fun d=>by rw[Int.toNat_natCast];exact OW hM.len ht d
 have q0:=uh hM.len
 have q1:((m.bx.getD t []).map i64).length=(m.bx.getD t []).length:=by simp
 obtain⟨hs1,hs2⟩:=hs
 refine aM yV rfl ?_
 refine cT ?_
 exact⟨⟨hM.gW ht _ _ ⟨_,bu⟩ fun y hy hne=>by have:=dM hout hy;exact cA,⟨_,bu⟩,hout⟩,cZ,fun y y1 y2 y3=>by have y4:=dM y3 (ko hM ht);exact cA⟩
end Go.Proofs.YtjopoheligmmoaaGreatDoor
end
section
/- An action at work: the kinds of nodes. -/
namespace Go.Proofs.YtjopoheligmmoaaGreatDoor
open Go Go.cX Go.Proofs
set_option linter.unusedSimpArgs false
set_option linter.unusedVariables false
set_option maxRecDepth 8000
set_option maxHeartbeats 2000000
theorem I1 {u:bt} {m:MS} {t:Nat} {n:Node} {d:gN} {ab:Nat} {L:ML} {H:Hp} {nx:Nat} (h:tR u m t n d ab L H) (hlt:∀y∈ab::L.all,y<nx) (ht:t<m.bx.length) (hl:m.bx.length≤8) (hth:0≤n.cO∧n.cO<m.hold.length):
 cI Tryz.prog 110 [.pt ab 1 0 0] H nx (fun r H' k=>r=i64 n.next∧tA u { m with hold:=m.hold.set n.cO.toNat t } t n { d with cO:=n.cO } ab L H nx H' k):=by
 have hfr:∀(v:lL) (H1:Hp),(∀y∈ab::L.all,br H1 y=br H y)→[.pt ab 1 0 0,v.av].map (cX.dU H1 6)=[mz u m t n d,v.av]:=fun v H1 h1=>by
  rw[List.map_cons,List.map_cons,List.map_nil,(h.cP h1).dU,du _ (show cK 0 v.av by simp[cK])]
 have h0:=h
 obtain⟨hM,⟨dd,ra⟩,hout⟩:=h
 obtain⟨⟨a1,a2,a3,a4,a5,b1,b2,b3,b4,c1,c2,c3,e1',e2',f1⟩,n1,n2,n3,n4,n5,n6⟩:=apart hM ht
 have hmem:=hM.mem
 have k0:=hlt ab (by simp)
 have km:=hlt L.mr (by simp)
 have ke:=hlt L.me (List.mem_cons_of_mem _ (hmem _ (by simp)))
 have kh:=hlt L.ho (List.mem_cons_of_mem _ (hmem _ (by simp)))
 have kp:=hlt L.pr (List.mem_cons_of_mem _ (hmem _ (by simp)))
 have o1:=dM hout (List.mem_cons_self (a:=L.mr))
 have o2:=dM hout (hmem L.me (by simp))
 have o3:=dM hout (hmem L.ho (by simp))
 have o4:=dM hout (hmem L.pr (by simp))
 clear a1 a2 a4 b1 b2 b3 b4 c1 c2 c3 e1' e2' f1 n1 n2 n3 n4 n5 n6
 obtain⟨d1,r1⟩:=hM.rM
 obtain⟨d3,r4⟩:=hM.rE
 obtain⟨d5,r5⟩:=hM.rH
 obtain⟨d6,r6⟩:=hM.rP
 have q1:(m.mem.map i64).length=m.mem.length:=by simp
 have q2:(m.hold.map i64).length=m.hold.length:=by simp
 have q3:(m.cM.map dR.av).length=m.cM.length:=by simp
 refine aM xz rfl ?_
 refine cT ?_
 exact⟨⟨rfl,⟨hM.TP ht _ _ ⟨_,bu⟩ fun y hy hne=>by have:=dM hout hy;exact cA,⟨_,bu⟩,hout⟩,cZ,fun y y1 y2 y3=>by have y4:=dM y3 (hmem L.ho (by simp));exact cA⟩⟩
theorem zt {u:bt} {m:MS} {t:Nat} {n:Node} {d:gN} {ab:Nat} {L:ML} {H:Hp} {nx:Nat} (h:tR u m t n d ab L H) (hlt:∀y∈ab::L.all,y<nx) (ht:t<m.bx.length) (hl:m.bx.length≤8) (hth:0≤n.cO∧n.cO<m.hold.length):
 cI Tryz.prog 111 [.pt ab 1 0 0] H nx (fun r H' k=>r=i64 n.next∧tA u { m with hold:=m.hold.set n.cO.toNat (-1) } t n { d with cO:=n.cO } ab L H nx H' k):=by
 have hfr:∀(v:lL) (H1:Hp),(∀y∈ab::L.all,br H1 y=br H y)→[.pt ab 1 0 0,v.av].map (cX.dU H1 6)=[mz u m t n d,v.av]:=fun v H1 h1=>by
  rw[List.map_cons,List.map_cons,List.map_nil,(h.cP h1).dU,du _ (show cK 0 v.av by simp[cK])]
 have h0:=h
 obtain⟨hM,⟨dd,ra⟩,hout⟩:=h
 obtain⟨⟨a1,a2,a3,a4,a5,b1,b2,b3,b4,c1,c2,c3,e1',e2',f1⟩,n1,n2,n3,n4,n5,n6⟩:=apart hM ht
 have hmem:=hM.mem
 have k0:=hlt ab (by simp)
 have km:=hlt L.mr (by simp)
 have ke:=hlt L.me (List.mem_cons_of_mem _ (hmem _ (by simp)))
 have kh:=hlt L.ho (List.mem_cons_of_mem _ (hmem _ (by simp)))
 have kp:=hlt L.pr (List.mem_cons_of_mem _ (hmem _ (by simp)))
 have o1:=dM hout (List.mem_cons_self (a:=L.mr))
 have o2:=dM hout (hmem L.me (by simp))
 have o3:=dM hout (hmem L.ho (by simp))
 have o4:=dM hout (hmem L.pr (by simp))
 clear a1 a2 a4 b1 b2 b3 b4 c1 c2 c3 e1' e2' f1 n1 n2 n3 n4 n5 n6
 obtain⟨d1,r1⟩:=hM.rM
 obtain⟨d3,r4⟩:=hM.rE
 obtain⟨d5,r5⟩:=hM.rH
 obtain⟨d6,r6⟩:=hM.rP
 have q1:(m.mem.map i64).length=m.mem.length:=by simp
 have q2:(m.hold.map i64).length=m.hold.length:=by simp
 have q3:(m.cM.map dR.av).length=m.cM.length:=by simp
 refine aM yA rfl ?_
 refine cT ?_
 exact⟨⟨rfl,⟨hM.TP ht _ _ ⟨_,bu⟩ fun y hy hne=>by have:=dM hout hy;exact cA,⟨_,bu⟩,hout⟩,cZ,fun y y1 y2 y3=>by have y4:=dM y3 (hmem L.ho (by simp));exact cA⟩⟩
theorem xC {u:bt} {m:MS} {t:Nat} {n:Node} {d:gN} {ab:Nat} {L:ML} {H:Hp} {nx:Nat} (h:tR u m t n d ab L H) (hlt:∀y∈ab::L.all,y<nx) (ht:t<m.bx.length) (hl:m.bx.length≤8) (hva:my m t n.a):
 cI Tryz.prog 113 [.pt ab 1 0 0] H nx (fun r H' k=>r=i64 (if m.val t n.a=0 then n.rh else n.next)∧tA u m t n { d with word:=m.val t n.a } ab L H nx H' k):=by
 have hfr:∀(v:lL) (H1:Hp),(∀y∈ab::L.all,br H1 y=br H y)→[.pt ab 1 0 0,v.av].map (cX.dU H1 6)=[mz u m t n d,v.av]:=fun v H1 h1=>by
  rw[List.map_cons,List.map_cons,List.map_nil,(h.cP h1).dU,du _ (show cK 0 v.av by simp[cK])]
 have h0:=h
 obtain⟨hM,⟨dd,ra⟩,hout⟩:=h
 obtain⟨⟨a1,a2,a3,a4,a5,b1,b2,b3,b4,c1,c2,c3,e1',e2',f1⟩,n1,n2,n3,n4,n5,n6⟩:=apart hM ht
 have hmem:=hM.mem
 have k0:=hlt ab (by simp)
 have km:=hlt L.mr (by simp)
 have ke:=hlt L.me (List.mem_cons_of_mem _ (hmem _ (by simp)))
 have kh:=hlt L.ho (List.mem_cons_of_mem _ (hmem _ (by simp)))
 have kp:=hlt L.pr (List.mem_cons_of_mem _ (hmem _ (by simp)))
 have o1:=dM hout (List.mem_cons_self (a:=L.mr))
 have o2:=dM hout (hmem L.me (by simp))
 have o3:=dM hout (hmem L.ho (by simp))
 have o4:=dM hout (hmem L.pr (by simp))
 clear a1 a2 a4 b1 b2 b3 b4 c1 c2 c3 e1' e2' f1 n1 n2 n3 n4 n5 n6
 obtain⟨d1,r1⟩:=hM.rM
 obtain⟨d3,r4⟩:=hM.rE
 obtain⟨d5,r5⟩:=hM.rH
 obtain⟨d6,r6⟩:=hM.rP
 have q1:(m.mem.map i64).length=m.mem.length:=by simp
 have q2:(m.hold.map i64).length=m.hold.length:=by simp
 have q3:(m.cM.map dR.av).length=m.cM.length:=by simp
 by_cases hz:m.val t n.a=0
 ·rw[if_pos hz]
  refine aM uZ rfl ?_
  refine cT ?_
  refine aS (iZ u m n d n.a ht hl hva) (hfr n.a _ ?_) (by simp[cW,cK]) trivial ?_
  ·exact fun y hy=>rfl
  refine cT ?_
  exact⟨⟨rfl,⟨hM.cP fun y hy=>by have:=dM hout hy;exact cA,⟨_,bu⟩,hout⟩,cZ,fun y y1 y2 y3=>cA⟩⟩
 ·rw[if_neg hz]
  refine aM uZ rfl ?_
  refine cT ?_
  refine aS (iZ u m n d n.a ht hl hva) (hfr n.a _ ?_) (by simp[cW,cK]) trivial ?_
  ·exact fun y hy=>rfl
  refine cT ?_
  exact⟨⟨rfl,⟨hM.cP fun y hy=>by have:=dM hout hy;exact cA,⟨_,bu⟩,hout⟩,cZ,fun y y1 y2 y3=>cA⟩⟩
theorem I0 {u:bt} {m:MS} {t:Nat} {n:Node} {d:gN} {ab:Nat} {L:ML} {H:Hp} {nx:Nat} (h:tR u m t n d ab L H) (hlt:∀y∈ab::L.all,y<nx) (ht:t<m.bx.length) (hl:m.bx.length≤8) (hs:0≤n.slot∧n.slot<(m.bx.getD t []).length) (hth:0≤n.cO∧n.cO<m.mem.length):
 cI Tryz.prog 107 [.pt ab 1 0 0] H nx (fun r H' k=>r=i64 n.next∧tA u (m.gW t n.slot (m.mem.getD n.cO.toNat 0)) t n { d with cO:=n.cO,word:=m.mem.getD n.cO.toNat 0 } ab L H nx H' k):=by
 have hfr:∀(v:lL) (H1:Hp),(∀y∈ab::L.all,br H1 y=br H y)→[.pt ab 1 0 0,v.av].map (cX.dU H1 6)=[mz u m t n d,v.av]:=fun v H1 h1=>by
  rw[List.map_cons,List.map_cons,List.map_nil,(h.cP h1).dU,du _ (show cK 0 v.av by simp[cK])]
 have h0:=h
 obtain⟨hM,⟨dd,ra⟩,hout⟩:=h
 obtain⟨⟨a1,a2,a3,a4,a5,b1,b2,b3,b4,c1,c2,c3,e1',e2',f1⟩,n1,n2,n3,n4,n5,n6⟩:=apart hM ht
 have hmem:=hM.mem
 have k0:=hlt ab (by simp)
 have km:=hlt L.mr (by simp)
 have ke:=hlt L.me (List.mem_cons_of_mem _ (hmem _ (by simp)))
 have kh:=hlt L.ho (List.mem_cons_of_mem _ (hmem _ (by simp)))
 have kp:=hlt L.pr (List.mem_cons_of_mem _ (hmem _ (by simp)))
 have o1:=dM hout (List.mem_cons_self (a:=L.mr))
 have o2:=dM hout (hmem L.me (by simp))
 have o3:=dM hout (hmem L.ho (by simp))
 have o4:=dM hout (hmem L.pr (by simp))
 clear a1 a2 a4 b1 b2 b3 b4 c1 c2 c3 e1' e2' f1 n1 n2 n3 n4 n5 n6
 obtain⟨d1,r1⟩:=hM.rM
 obtain⟨d3,r4⟩:=hM.rE
 obtain⟨d5,r5⟩:=hM.rH
 obtain⟨d6,r6⟩:=hM.rP
 have q1:(m.mem.map i64).length=m.mem.length:=by simp
 have q2:(m.hold.map i64).length=m.hold.length:=by simp
 have q3:(m.cM.map dR.av).length=m.cM.length:=by simp
 have e0:=fun d=>oW (l:=m.mem) (k:=n.cO) (by omega) d
 refine aM xw rfl ?_
 refine cT ?_
 refine aJ (kE (u:=u) (t:=t) (n:=n) (d:={ d with cO:=n.cO }) (L:=L) (m:=m) (ab:=ab) ?_ ?_ ht hl hs _) ?_
 ·exact⟨hM.cP fun y hy=>by have:=dM hout hy;exact cA,⟨_,bu⟩,hout⟩
 ·exact fun y hy=>Nat.lt_of_lt_of_le (hlt y hy) cZ
 rintro _ H2 n2 ⟨hA,hn2,hk2⟩
 obtain⟨dd2,ra2⟩:=hA.row
 refine cT ?_
 exact⟨⟨rfl,hA.cP fun y hy=>cA,cZ,fun y y1 y2 y3=>Eq.trans cA ((hk2 y (Nat.lt_of_lt_of_le y1 cZ) y2 y3).trans cA)⟩⟩
theorem DE {u:bt} {m:MS} {t:Nat} {n:Node} {d:gN} {ab:Nat} {L:ML} {H:Hp} {nx:Nat} (h:tR u m t n d ab L H) (hlt:∀y∈ab::L.all,y<nx) (ht:t<m.bx.length) (hl:m.bx.length≤8) (hva:my m t n.a) (hth:0≤n.cO∧n.cO<m.mem.length):
 cI Tryz.prog 108 [.pt ab 1 0 0] H nx (fun r H' k=>r=i64 n.next∧tA u { m with mem:=m.mem.set n.cO.toNat (m.val t n.a) } t n { d with cO:=n.cO,word:=m.val t n.a } ab L H nx H' k):=by
 have hfr:∀(v:lL) (H1:Hp),(∀y∈ab::L.all,br H1 y=br H y)→[.pt ab 1 0 0,v.av].map (cX.dU H1 6)=[mz u m t n d,v.av]:=fun v H1 h1=>by
  rw[List.map_cons,List.map_cons,List.map_nil,(h.cP h1).dU,du _ (show cK 0 v.av by simp[cK])]
 have h0:=h
 obtain⟨hM,⟨dd,ra⟩,hout⟩:=h
 obtain⟨⟨a1,a2,a3,a4,a5,b1,b2,b3,b4,c1,c2,c3,e1',e2',f1⟩,n1,n2,n3,n4,n5,n6⟩:=apart hM ht
 have hmem:=hM.mem
 have k0:=hlt ab (by simp)
 have km:=hlt L.mr (by simp)
 have ke:=hlt L.me (List.mem_cons_of_mem _ (hmem _ (by simp)))
 have kh:=hlt L.ho (List.mem_cons_of_mem _ (hmem _ (by simp)))
 have kp:=hlt L.pr (List.mem_cons_of_mem _ (hmem _ (by simp)))
 have o1:=dM hout (List.mem_cons_self (a:=L.mr))
 have o2:=dM hout (hmem L.me (by simp))
 have o3:=dM hout (hmem L.ho (by simp))
 have o4:=dM hout (hmem L.pr (by simp))
 clear a1 a2 a4 b1 b2 b3 b4 c1 c2 c3 e1' e2' f1 n1 n2 n3 n4 n5 n6
 obtain⟨d1,r1⟩:=hM.rM
 obtain⟨d3,r4⟩:=hM.rE
 obtain⟨d5,r5⟩:=hM.rH
 obtain⟨d6,r6⟩:=hM.rP
 have q1:(m.mem.map i64).length=m.mem.length:=by simp
 have q2:(m.hold.map i64).length=m.hold.length:=by simp
 have q3:(m.cM.map dR.av).length=m.cM.length:=by simp
 refine aM xx rfl ?_
 refine cT ?_
 refine aY (ab::L.all) (iZ u m n d n.a ht hl hva) (fun H1 h1=>hfr n.a H1 h1) (by simp[cW,cK]) trivial ?_
 refine Eq.mpr (sW (ab::L.all) _) (sk ?_)
 refine cT ?_
 exact⟨⟨rfl,⟨hM.jR ht _ _ ⟨_,bu⟩ fun y hy hne=>by have:=dM hout hy;exact cA,⟨_,bu⟩,hout⟩,cZ,fun y y1 y2 y3=>by have y4:=dM y3 (hmem L.me (by simp));exact cA⟩⟩
theorem CK {u:bt} {m:MS} {t:Nat} {n:Node} {d:gN} {ab:Nat} {L:ML} {H:Hp} {nx:Nat} (h:tR u m t n d ab L H) (hlt:∀y∈ab::L.all,y<nx) (ht:t<m.bx.length) (hl:m.bx.length≤8) (hva:my m t n.a) (hpl:m.cM.length≤1048576):
 cI Tryz.prog 112 [.pt ab 1 0 0] H nx (fun r H' k=>r=i64 n.next∧tA u { m with cM:=m.cM++[⟨t,m.val t n.a⟩] } t n { d with word:=m.val t n.a } ab L H nx H' k):=by
 have hfr:∀(v:lL) (H1:Hp),(∀y∈ab::L.all,br H1 y=br H y)→[.pt ab 1 0 0,v.av].map (cX.dU H1 6)=[mz u m t n d,v.av]:=fun v H1 h1=>by
  rw[List.map_cons,List.map_cons,List.map_nil,(h.cP h1).dU,du _ (show cK 0 v.av by simp[cK])]
 have h0:=h
 obtain⟨hM,⟨dd,ra⟩,hout⟩:=h
 obtain⟨⟨a1,a2,a3,a4,a5,b1,b2,b3,b4,c1,c2,c3,e1',e2',f1⟩,n1,n2,n3,n4,n5,n6⟩:=apart hM ht
 have hmem:=hM.mem
 have k0:=hlt ab (by simp)
 have km:=hlt L.mr (by simp)
 have ke:=hlt L.me (List.mem_cons_of_mem _ (hmem _ (by simp)))
 have kh:=hlt L.ho (List.mem_cons_of_mem _ (hmem _ (by simp)))
 have kp:=hlt L.pr (List.mem_cons_of_mem _ (hmem _ (by simp)))
 have o1:=dM hout (List.mem_cons_self (a:=L.mr))
 have o2:=dM hout (hmem L.me (by simp))
 have o3:=dM hout (hmem L.ho (by simp))
 have o4:=dM hout (hmem L.pr (by simp))
 clear a1 a2 a4 b1 b2 b3 b4 c1 c2 c3 e1' e2' f1 n1 n2 n3 n4 n5 n6
 obtain⟨d1,r1⟩:=hM.rM
 obtain⟨d3,r4⟩:=hM.rE
 obtain⟨d5,r5⟩:=hM.rH
 obtain⟨d6,r6⟩:=hM.rP
 have q1:(m.mem.map i64).length=m.mem.length:=by simp
 have q2:(m.hold.map i64).length=m.hold.length:=by simp
 have q3:(m.cM.map dR.av).length=m.cM.length:=by simp
 refine aM yB rfl ?_
 refine cT ?_
 refine aS (iZ u m n d n.a ht hl hva) (hfr n.a _ ?_) (by simp[cW,cK]) trivial ?_
 ·exact fun y hy=>rfl
 refine cT ?_
 exact⟨⟨rfl,⟨hM.VK ht _ ⟨_,by simp only[MS.rows,List.length_append,List.length_cons,List.length_nil];exact bu⟩ ⟨_,bu⟩ fun y hy hne hn2=>by have:=dM hout hy;have:=hlt y (List.mem_cons_of_mem _ hy);exact cA,⟨_,bu⟩,hout⟩,cZ,fun y y1 y2 y3=>by have y4:=dM y3 (List.mem_cons_self (a:=L.mr));have y5:=dM y3 (hmem L.pr (by simp));exact cA⟩⟩
theorem JZ {u:bt} {m:MS} {t:Nat} {n:Node} {d:gN} {ab:Nat} {L:ML} {H:Hp} {nx:Nat} (h:tR u m t n d ab L H) (hlt:∀y∈ab::L.all,y<nx) (ht:t<m.bx.length) (hl:m.bx.length≤8) (hva:my m t n.a) (hs:0≤n.slot∧n.slot<(m.bx.getD t []).length) (hth:0≤n.cO∧n.cO<m.mem.length):
 cI Tryz.prog 109 [.pt ab 1 0 0] H nx (fun r H' k=>r=i64 n.next∧tA u { m.gW t n.slot (m.mem.getD n.cO.toNat 0) with mem:=m.mem.set n.cO.toNat (m.val t n.a) } t n { d with cO:=n.cO,word:=m.mem.getD n.cO.toNat 0,put:=m.val t n.a } ab L H nx H' k):=by
 have hfr:∀(v:lL) (H1:Hp),(∀y∈ab::L.all,br H1 y=br H y)→[.pt ab 1 0 0,v.av].map (cX.dU H1 6)=[mz u m t n d,v.av]:=fun v H1 h1=>by
  rw[List.map_cons,List.map_cons,List.map_nil,(h.cP h1).dU,du _ (show cK 0 v.av by simp[cK])]
 have h0:=h
 obtain⟨hM,⟨dd,ra⟩,hout⟩:=h
 obtain⟨⟨a1,a2,a3,a4,a5,b1,b2,b3,b4,c1,c2,c3,e1',e2',f1⟩,n1,n2,n3,n4,n5,n6⟩:=apart hM ht
 have hmem:=hM.mem
 have k0:=hlt ab (by simp)
 have km:=hlt L.mr (by simp)
 have ke:=hlt L.me (List.mem_cons_of_mem _ (hmem _ (by simp)))
 have kh:=hlt L.ho (List.mem_cons_of_mem _ (hmem _ (by simp)))
 have kp:=hlt L.pr (List.mem_cons_of_mem _ (hmem _ (by simp)))
 have o1:=dM hout (List.mem_cons_self (a:=L.mr))
 have o2:=dM hout (hmem L.me (by simp))
 have o3:=dM hout (hmem L.ho (by simp))
 have o4:=dM hout (hmem L.pr (by simp))
 clear a1 a2 a4 b1 b2 b3 b4 c1 c2 c3 e1' e2' f1 n1 n2 n3 n4 n5 n6
 obtain⟨d1,r1⟩:=hM.rM
 obtain⟨d3,r4⟩:=hM.rE
 obtain⟨d5,r5⟩:=hM.rH
 obtain⟨d6,r6⟩:=hM.rP
 have q1:(m.mem.map i64).length=m.mem.length:=by simp
 have q2:(m.hold.map i64).length=m.hold.length:=by simp
 have q3:(m.cM.map dR.av).length=m.cM.length:=by simp
 have e0:=fun d=>oW (l:=m.mem) (k:=n.cO) (by omega) d
 refine aM xy rfl ?_
 refine cT ?_
 refine aY (ab::L.all) (iZ u m n d n.a ht hl hva) (fun H1 h1=>hfr n.a H1 h1) (by simp[cW,cK]) trivial ?_
 refine Eq.mpr (sW (ab::L.all) _) (sk ?_)
 refine cT ?_
 refine aJ (kE (u:=u) (t:=t) (n:=n) (d:={ d with cO:=n.cO,put:=m.val t n.a }) (L:=L) (m:=m) (ab:=ab) ?_ ?_ ht hl hs _) ?_
 ·exact⟨hM.cP fun y hy=>by have:=dM hout hy;exact cA,⟨_,bu⟩,hout⟩
 ·exact fun y hy=>Nat.lt_of_lt_of_le (hlt y hy) cZ
 rintro _ H2 n2 ⟨hA,hn2,hk2⟩
 obtain⟨dd2,ra2⟩:=hA.row
 obtain⟨d8,r8⟩:=hA.M.rM
 obtain⟨d9,r9⟩:=hA.M.rE
 refine cT ?_
 have ht2:t<(m.gW t n.slot (m.mem.getD n.cO.toNat 0)).bx.length:=by simp only[MS.gW,List.length_set];exact ht
 exact⟨⟨rfl,⟨hA.M.jR ht2 _ _ ⟨_,bu⟩ fun y hy hne=>by have:=dM hout hy;exact cA,⟨_,bu⟩,hout⟩,cZ,fun y y1 y2 y3=>by have y4:=dM y3 (hmem L.me (by simp));exact Eq.trans cA ((hk2 y (Nat.lt_of_lt_of_le y1 cZ) y2 y3).trans cA)⟩⟩
theorem OV {u:bt} {m:MS} {t:Nat} {n:Node} {d:gN} {ab:Nat} {L:ML} {H:Hp} {nx:Nat} (h:tR u m t n d ab L H) (hlt:∀y∈ab::L.all,y<nx) (ht:t<m.bx.length) (hl:m.bx.length≤8) (hs:0≤n.slot∧n.slot<(m.bx.getD t []).length) (hva:my m t n.a) (hvb:dy n.op=true→my m t n.b) (hop:0≤n.op∧n.op<19):
 cI Tryz.prog 106 [.pt ab 1 0 0] H nx (fun r H' k=>r=i64 n.next∧tA u (m.gW t n.slot (m.C1 t n)) t n { d with word:=m.C1 t n } ab L H nx H' k):=by
 have hfr:∀(v:lL) (H1:Hp),(∀y∈ab::L.all,br H1 y=br H y)→[.pt ab 1 0 0,v.av].map (cX.dU H1 6)=[mz u m t n d,v.av]:=fun v H1 h1=>by
  rw[List.map_cons,List.map_cons,List.map_nil,(h.cP h1).dU,du _ (show cK 0 v.av by simp[cK])]
 have h0:=h
 obtain⟨hM,⟨dd,ra⟩,hout⟩:=h
 obtain⟨⟨a1,a2,a3,a4,a5,b1,b2,b3,b4,c1,c2,c3,e1',e2',f1⟩,n1,n2,n3,n4,n5,n6⟩:=apart hM ht
 have hmem:=hM.mem
 have k0:=hlt ab (by simp)
 have km:=hlt L.mr (by simp)
 have ke:=hlt L.me (List.mem_cons_of_mem _ (hmem _ (by simp)))
 have kh:=hlt L.ho (List.mem_cons_of_mem _ (hmem _ (by simp)))
 have kp:=hlt L.pr (List.mem_cons_of_mem _ (hmem _ (by simp)))
 have o1:=dM hout (List.mem_cons_self (a:=L.mr))
 have o2:=dM hout (hmem L.me (by simp))
 have o3:=dM hout (hmem L.ho (by simp))
 have o4:=dM hout (hmem L.pr (by simp))
 clear a1 a2 a4 b1 b2 b3 b4 c1 c2 c3 e1' e2' f1 n1 n2 n3 n4 n5 n6
 obtain⟨d1,r1⟩:=hM.rM
 obtain⟨d3,r4⟩:=hM.rE
 obtain⟨d5,r5⟩:=hM.rH
 obtain⟨d6,r6⟩:=hM.rP
 have q1:(m.mem.map i64).length=m.mem.length:=by simp
 have q2:(m.hold.map i64).length=m.hold.length:=by simp
 have q3:(m.cM.map dR.av).length=m.cM.length:=by simp
 have c0:=fJ n.op hop.1
 unfold MS.C1
 cases h2:dy n.op with
 |true=>
  rw[h2] at c0
  have c1:=T2 n.op (m.val t n.a) (m.val t n.b) h2
  have hvb:=hvb h2
  rw[if_pos rfl]
  refine aM sL rfl ?_
  refine cT ?_
  refine aS (iZ u m n d n.a ht hl hva) (hfr n.a _ ?_) (by simp[cW,cK]) trivial ?_
  ·exact fun y hy=>rfl
  refine cT ?_
  refine aY (ab::L.all) (iZ u m n d n.b ht hl hvb) (fun H1 h1=>hfr n.b H1 h1) (by simp[cW,cK]) trivial ?_
  refine Eq.mpr (sW (ab::L.all) _) (sk ?_)
  refine cT ?_
  refine aJ (kE (u:=u) (t:=t) (n:=n) (d:=d) (L:=L) (m:=m) (ab:=ab) ?_ ?_ ht hl hs _) ?_
  ·exact⟨hM.cP fun y hy=>by have:=dM hout hy;exact cA,⟨_,bu⟩,hout⟩
  ·exact fun y hy=>Nat.lt_of_lt_of_le (hlt y hy) cZ
  rintro _ H2 n2 ⟨hA,hn2,hk2⟩
  obtain⟨dd2,ra2⟩:=hA.row
  refine cT ?_
  exact⟨⟨rfl,hA.cP fun y hy=>cA,cZ,fun y y1 y2 y3=>Eq.trans cA ((hk2 y (Nat.lt_of_lt_of_le y1 cZ) y2 y3).trans cA)⟩⟩
 |false=>
  rw[h2] at c0
  rw[if_neg (by decide)]
  by_cases h0':n.op=0
  ·rw[if_neg (fun e=>e h0')]
   refine aM sL rfl ?_
   refine cT ?_
   refine aS (iZ u m n d n.a ht hl hva) (hfr n.a _ ?_) (by simp[cW,cK]) trivial ?_
   ·exact fun y hy=>rfl
   refine cT ?_
   refine aJ (kE (u:=u) (t:=t) (n:=n) (d:=d) (L:=L) (m:=m) (ab:=ab) ?_ ?_ ht hl hs _) ?_
   ·exact⟨hM.cP fun y hy=>by have:=dM hout hy;exact cA,⟨_,bu⟩,hout⟩
   ·exact fun y hy=>Nat.lt_of_lt_of_le (hlt y hy) cZ
   rintro _ H2 n2 ⟨hA,hn2,hk2⟩
   obtain⟨dd2,ra2⟩:=hA.row
   refine cT ?_
   exact⟨⟨rfl,hA.cP fun y hy=>cA,cZ,fun y y1 y2 y3=>Eq.trans cA ((hk2 y (Nat.lt_of_lt_of_le y1 cZ) y2 y3).trans cA)⟩⟩
  ·rw[if_pos h0']
   have c1:=PM n.op (m.val t n.a) (by unfold dy at h2;simp only[Bool.and_eq_false_iff,decide_eq_false_iff_not] at h2;omega)
   refine aM sL rfl ?_
   refine cT ?_
   refine aS (iZ u m n d n.a ht hl hva) (hfr n.a _ ?_) (by simp[cW,cK]) trivial ?_
   ·exact fun y hy=>rfl
   refine cT ?_
   refine aJ (kE (u:=u) (t:=t) (n:=n) (d:=d) (L:=L) (m:=m) (ab:=ab) ?_ ?_ ht hl hs _) ?_
   ·exact⟨hM.cP fun y hy=>by have:=dM hout hy;exact cA,⟨_,bu⟩,hout⟩
   ·exact fun y hy=>Nat.lt_of_lt_of_le (hlt y hy) cZ
   rintro _ H2 n2 ⟨hA,hn2,hk2⟩
   obtain⟨dd2,ra2⟩:=hA.row
   refine cT ?_
   exact⟨⟨rfl,hA.cP fun y hy=>cA,cZ,fun y y1 y2 y3=>Eq.trans cA ((hk2 y (Nat.lt_of_lt_of_le y1 cZ) y2 y3).trans cA)⟩⟩
end Go.Proofs.YtjopoheligmmoaaGreatDoor
end
