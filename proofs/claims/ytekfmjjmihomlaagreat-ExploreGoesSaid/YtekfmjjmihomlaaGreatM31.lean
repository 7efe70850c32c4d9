import Derived.Test.YtekfmjjmihomlaaGreatM30
section
/- A step keeps a situation right. -/
namespace Go.Proofs.YtekfmjjmihomlaaGreat
open Go Go.cO Go.Proofs
set_option linter.unusedSimpArgs false
set_option linter.unusedVariables false
theorem pd (n:Int):di (s7 n):=by unfold di s7;rw[IntKind.wrap_i64];omega
theorem JI {p:Prop} [Decidable p] {a b:Int} (h1:di a) (h2:di b):di (if p then a else b):=by
 split
 ·exact h1
 ·exact h2
theorem IN (t:Bool):di (tr t):=by unfold tr di;split<;>omega
theorem HB {a:Int} (h:di a) (b:Int):di (HA a b):=by
 unfold HA
 have hd:(1:Int)≤2^(min (BG b).toNat 64):=Int.le_of_lt_add_one (by have:(0:Int)<2^(min (BG b).toNat 64):=Int.pow_pos (by omega);omega)
 generalize (2:Int)^(min (BG b).toNat 64)=d at *
 rw[Int.fdiv_eq_ediv_of_nonneg _ (by omega)]
 have h1:=Int.mul_ediv_add_emod a d
 have h2:=Int.emod_nonneg a (b:=d) (by omega)
 have h3:=Int.emod_lt_of_pos a (b:=d) (by omega)
 obtain⟨h4,h5⟩:=h
 generalize a /d=q at *
 generalize a%d=r at *
 constructor
 ·apply Int.not_lt.1
  intro hq
  have:d * (q+1)≤1 * (q+1):=Int.mul_le_mul_of_nonpos_right hd (by omega)
  rw[Int.mul_add] at this
  omega
 ·apply Int.not_le.1
  intro hq
  have:1 * q≤d * q:=Int.mul_le_mul_of_nonneg_right hd (by omega)
  omega
theorem HX {a b:Int} (ha:di a) (op:Int):di (HW op a b):=by
 have hq:di (zu a b):=by
  unfold zu
  split
  ·exact⟨by omega,by omega⟩
  ·split
   ·exact pd _
   ·exact pd _
 have hm:di (D1 a b):=by
  unfold D1
  split
  ·exact ha
  ·exact pd _
 unfold HW
 repeat' (with_reducible refine JI ?_ ?_)
 all_goals first
  |exact IN _
  |exact HB ha _
  |exact hq
  |exact hm
  |exact pd _
theorem G0 (op a:Int):di (GZ op a):=by
 unfold GZ
 split
 ·exact pd _
 ·exact IN _
theorem getD_none {α:Type} {l:List α} {k:Nat} {d:α} (h:l.length≤k):l.getD k d=d:=by simp[List.getD,List.getElem?_eq_none h]
section
variable {u:bf} {m:MS} {t:Nat}
theorem HC (h:eG u m) (ht:t<u.bk.length) (k:Nat):di ((m.bj.getD t []).getD k 0):=by
 by_cases hk:k<(m.bj.getD t []).length
 ·exact h.xD t ht _ (cU 0 hk)
 ·rw[getD_none (Nat.le_of_not_lt hk)]
  exact⟨by omega,by omega⟩
theorem xL (h:eG u m) (ht:t<u.bk.length) {v:jd} (hv:v.Wf):di (m.val t v):=by
 unfold MS.val
 split
 ·exact HC h ht _
 ·exact hv.word
theorem G9 (h:eG u m) (ht:t<u.bk.length) {n:Node} (hn:n.Wf):di (m.wz t n):=by
 unfold MS.wz
 split
 ·exact HX (xL h ht hn.a) _
 ·split
  ·exact G0 _ _
  ·exact xL h ht hn.a
theorem lO {α:Type} {l:List α} {i:Nat} {a x:α} (h:x∈l.set i a):x∈l∨x=a:=by
 rcases List.mem_or_eq_of_mem_set h with h|h
 ·exact .inl h
 ·exact .inr h
theorem getD_set_ne {α:Type} {l:List α} {i j:Nat} {v d:α} (h:i≠j):(l.set i v).getD j d=l.getD j d:=by simp[List.getD,List.getElem?_set_ne h]
theorem eG.fS (h:eG u m) (k w:Int) (hw:di w):eG u (m.fS t k w) where
 nz:=h.nz
 gE:=h.gE
 sl:=by simp only[MS.fS,List.length_set];exact h.sl
 xC:=fun s hs=>by
  simp only[MS.fS]
  by_cases e:t=s
  ·subst e
   rw[e8 (by rw[h.sl];exact hs),List.length_set]
   exact h.xC t hs
  ·rw[getD_set_ne e];exact h.xC s hs
 xD:=fun s hs x hx=>by
  simp only[MS.fS] at hx
  by_cases e:t=s
  ·subst e
   rw[e8 (by rw[h.sl];exact hs)] at hx
   rcases lO hx with hx|rfl
   ·exact h.xD t hs x hx
   ·exact hw
  ·rw[getD_set_ne e] at hx;exact h.xD s hs x hx
 ml:=h.ml
 mw:=h.mw
 hl:=h.hl
 hw:=h.hw
 pw:=h.pw
theorem eG.mem (h:eG u m) (k:Nat) (w:Int) (hw:di w):eG u { m with mem:=m.mem.set k w } where
 nz:=h.nz
 gE:=h.gE
 sl:=h.sl
 xC:=h.xC
 xD:=h.xD
 ml:=by simp only[List.length_set];exact h.ml
 mw:=fun x hx=>by
  rcases lO hx with hx|rfl
  ·exact h.mw x hx
  ·exact hw
 hl:=h.hl
 hw:=h.hw
 pw:=h.pw
theorem eG.hold (h:eG u m) (k:Nat) (w:Int) (hw:-1≤w∧w<u.bk.length):eG u { m with hold:=m.hold.set k w } where
 nz:=h.nz
 gE:=h.gE
 sl:=h.sl
 xC:=h.xC
 xD:=h.xD
 ml:=h.ml
 mw:=h.mw
 hl:=by simp only[List.length_set];exact h.hl
 hw:=fun x hx=>by
  rcases lO hx with hx|rfl
  ·exact h.hw x hx
  ·exact hw
 pw:=h.pw
theorem eG.print (h:eG u m) (p:cL) (hp:0≤p.cR∧p.cR<u.bk.length∧di p.word):eG u { m with bh:=m.bh++[p] } where
 nz:=h.nz
 gE:=h.gE
 sl:=h.sl
 xC:=h.xC
 xD:=h.xD
 ml:=h.ml
 mw:=h.mw
 hl:=h.hl
 hw:=h.hw
 pw:=fun x hx=>by
  rcases List.mem_append.1 hx with hx|hx
  ·exact h.pw x hx
  ·simp only[List.mem_cons,List.not_mem_nil,or_false] at hx
   subst hx;exact hp
theorem eG.MT (h:eG u m) (k:Int) (hk:t<u.bk.length→0≤k∧k<(u.gr t).nodes.length):eG u { m with at_:=m.at_.set t k } where
 nz:=by simp only[List.length_set];exact h.nz
 gE:=fun s hs=>by
  by_cases e:t=s
  ·subst e
   dsimp only
   rw[e8 (by rw[h.nz];exact hs)]
   exact hk hs
  ·dsimp only
   rw[getD_set_ne e];exact h.gE s hs
 sl:=h.sl
 xC:=h.xC
 xD:=h.xD
 ml:=h.ml
 mw:=h.mw
 hl:=h.hl
 hw:=h.hw
 pw:=h.pw
theorem oZ (h:eG u m) (ht:t<u.bk.length) (hb:m.pj u t=0):(m.node u t).kind≠9∧¬((m.node u t).kind=5∧0≤m.hold.getD (m.node u t).cH.toNat 0):=by
 unfold MS.pj at hb
 rw[if_neg (by have:=h.nz;omega),Int.toNat_natCast] at hb
 refine⟨fun e=> ?_,fun e=> ?_⟩
 ·rw[if_pos e] at hb;cases hb
 ·rw[if_neg (by omega)] at hb
  rw[if_pos e] at hb
  cases hb
theorem yY (hu:u.Wf) (h:eG u m) (ht:t<u.bk.length):(m.node u t).Wf:=by
 have h1:=h.gE t ht
 exact(hu.bk _ (cU default ht)).nodes _ (cU default (show(m.at_.getD t 0).toNat<(u.gr t).nodes.length by omega))
theorem I0 (hu:u.Wf) (hr:ch u) (h:eG u m) (ht:t<u.bk.length):eG u (m.act t (m.node u t)).1:=by
 have hn:=h.node hr ht
 have hw:=yY hu h ht
 have hst:=G9 h ht hw
 have hva:=xL h ht hw.a
 have hmw:di (m.mem.getD (m.node u t).cH.toNat 0):=by
  by_cases hk:(m.node u t).cH.toNat<m.mem.length
  ·exact h.mw _ (cU 0 hk)
  ·rw[getD_none (Nat.le_of_not_lt hk)];exact⟨by omega,by omega⟩
 generalize m.node u t=n at *
 unfold MS.act
 split
 ·exact h.fS _ _ hst
 split
 ·exact h.fS _ _ hmw
 split
 ·exact h.mem _ _ hva
 split
 ·exact(h.fS (t:=t) n.slot _ hmw).mem _ _ hva
 split
 ·exact h.hold _ _ ⟨by omega,by omega⟩
 split
 ·exact h.hold _ _ ⟨by omega,by omega⟩
 split
 ·exact h.print _ ⟨by dsimp only;omega,by dsimp only;omega,hva⟩
 ·exact h
theorem A0 (hr:ch u) (h:eG u m) (ht:t<u.bk.length) (hk:(m.node u t).kind≠9):0≤(m.act t (m.node u t)).2.1∧(m.act t (m.node u t)).2.1<(u.gr t).nodes.length:=by
 have hn:=h.node hr ht
 generalize m.node u t=n at *
 have hkd:=hn.kind
 have hnx:=hn.next.1 (by unfold iB;exact decide_eq_true (by omega))
 unfold MS.act
 repeat' split
 all_goals first
  |exact hnx
  |exact hn.og.1 (by omega)
theorem yc (hu:u.Wf) (hr:ch u) (h:eG u m) (ht:t<u.bk.length) (hk:(m.node u t).kind≠9):eG u (m.step u t).1:=by
 have h1:=I0 hu hr h ht
 have h2:=A0 hr h ht hk
 have h3:(m.step u t).1={ (m.act t (m.node u t)).1 with at_:=m.at_.set t (m.act t (m.node u t)).2.1 }:=rfl
 have h4:(m.act t (m.node u t)).1.at_=m.at_:=by
  unfold MS.act
  repeat' split
  all_goals rfl
 rw[h3,←h4]
 exact h1.MT _ fun _=>h2
end
end Go.Proofs.YtekfmjjmihomlaaGreat
end
section
/- The machine in rows: what a store makes of it. -/
namespace Go.Proofs.YtekfmjjmihomlaaGreat
open Go Go.cO Go.Proofs
set_option linter.unusedSimpArgs false
set_option linter.unusedVariables false
structure ML where
 mr:Nat
 a:Nat
 s:Nat
 me:Nat
 ho:Nat
 pr:Nat
 ids:List Nat
abbrev ML.all (L:ML):List Nat:=L.mr::L.a::L.s::L.me::L.ho::L.pr::L.ids
abbrev ML.it (L:ML) (t:Nat):Nat:=L.ids.getD t 0
abbrev ML.At (L:ML) (u:bf) (m:MS) (H:Hp):Prop:=KA u m L.mr L.a L.s L.me L.ho L.pr L.ids H
theorem KA.zJ {u:bf} {m:MS} {mr a s me ho pr:Nat} {ids:List Nat} {H:Hp} (h:KA u m mr a s me ho pr ids H) (k:Nat):cO.dR H (k+4) (.pt mr 1 0 0)=m.fz u:=by
 obtain⟨d1,h1⟩:=h.rM
 obtain⟨d2,h2⟩:=h.rA
 obtain⟨d3,h3⟩:=h.rS
 obtain⟨d4,h4⟩:=h.rE
 obtain⟨d5,h5⟩:=h.rH
 obtain⟨d6,h6⟩:=h.rP
 have hsl:(dh ids m.bj).length=m.bj.length:=by unfold dh;rw[List.length_map,List.length_zip,h.len];simp
 have hs:(dh ids m.bj).map (cO.dR H (k+1))=m.bj.map cr:=by
  apply List.ext_getElem (by simp[hsl])
  intro t q1 q2
  have ht:t<m.bj.length:=by simpa using q2
  have hti:t<ids.length:=by rw[h.len];exact ht
  obtain⟨d,hd⟩:=h.rL t ht
  rw[show ids.getD t 0=ids[t] by simp[List.getD,hti],show m.bj.getD t []=m.bj[t] by simp[List.getD,ht]] at hd
  rw[List.getElem_map,List.getElem_map]
  simp only[dh,List.getElem_map,List.getElem_zip]
  rw[dz hd (by simp),dG _ ((bz _ _).2 fun _ _=>by simp[bx])]
 simp only[cO.dR,h1]
 simp only[List.length_cons,List.length_nil,if_true,List.map_cons,List.map_nil,MS.rows]
 rw[rq]
 simp only[List.map_cons,List.map_nil]
 rw[dz h2 (by simp),dz h3 hsl,dz h4 (by simp),dz h5 (by simp),dz h6 (by simp),hs]
 rw[dG _ ((bz _ _).2 fun _ _=>by simp[bx]),dG _ ((bz _ _).2 fun _ _=>by simp[bx]),dG _ ((bz _ _).2 fun _ _=>by simp[bx]),dG _ ((bz _ _).2 fun _ _=>by simp[bx])]
 rw[dB _ (show bx 0 (cY u.shared) by simp[bx,bz]),dB _ (show bx 0 (cY u.cB) by simp[bx,bz]),dB _ (show bx 0 (dV u.bk) by simp[bx,bz])]
 rfl
section
variable {u:bf} {m:MS} {L:ML} {H H':Hp}
theorem kI {p:Prop} (h:p:=by first|assumption|(refine Ne.symm ?_;assumption)):p:=h
theorem ML.At.mem (h:L.At u m H):(∀x∈[L.a,L.s,L.me,L.ho,L.pr],x∈L.all):=by
 intro x hx
 simp only[List.mem_cons,List.not_mem_nil,or_false] at hx
 simp only[ML.all,List.mem_cons]
 omega
theorem jV (h:L.At u m H) {t:Nat} (ht:t<m.bj.length):L.it t∈L.all:=by
 have:L.it t∈L.ids:=eM (by rw[h.len];exact ht)
 simp only[ML.all,List.mem_cons]
 exact .inr (.inr (.inr (.inr (.inr (.inr this)))))
theorem K8 (h:L.At u m H) {t s:Nat} (ht:t<m.bj.length) (hs:s<m.bj.length) (e:s≠t):L.it s≠L.it t:=by
 have h1:=(List.nodup_cons.1 (List.nodup_cons.1 (List.nodup_cons.1 (List.nodup_cons.1 (List.nodup_cons.1 (List.nodup_cons.1 h.nodup).2).2).2).2).2).2
 have hl:=h.len
 intro he
 have ht':t<L.ids.length:=by omega
 have hs':s<L.ids.length:=by omega
 have:L.ids[s]=L.ids[t]:=by simpa[ML.it,List.getD,ht',hs'] using he
 exact e ((List.getElem_inj h1).1 this)
structure ML.KI (L:ML) (t:Nat):Prop where
 ne:L.mr≠L.a∧L.mr≠L.s∧L.mr≠L.me∧L.mr≠L.ho∧L.mr≠L.pr∧L.a≠L.s∧L.a≠L.me∧L.a≠L.ho∧L.a≠L.pr∧L.s≠L.me∧L.s≠L.ho∧L.s≠L.pr∧L.me≠L.ho∧L.me≠L.pr∧L.ho≠L.pr
 it:L.it t≠L.mr∧L.it t≠L.a∧L.it t≠L.s∧L.it t≠L.me∧L.it t≠L.ho∧L.it t≠L.pr
theorem apart (h:L.At u m H) {t:Nat} (ht:t<m.bj.length):L.KI t:=by
 have hn:=h.nodup
 have hi:L.it t∈L.ids:=eM (by rw[h.len];exact ht)
 have hne:∀x,x∉L.ids→L.it t≠x:=fun x hx e=>hx (e▸hi)
 simp only[List.nodup_cons,List.mem_cons,not_or] at hn
 obtain⟨⟨a1,a2,a3,a4,a5,a6⟩,⟨b1,b2,b3,b4,b5⟩,⟨c1,c2,c3,c4⟩,⟨d1,d2,d3⟩,⟨e1,e2⟩,f1,_⟩:=hn
 exact⟨⟨a1,a2,a3,a4,a5,b1,b2,b3,b4,c1,c2,c3,d1,d2,e1⟩,hne _ a6,hne _ b5,hne _ c4,hne _ d3,hne _ e2,hne _ f1⟩
theorem ML.At.cE (h:L.At u m H) (hk:∀y∈L.all,bd H' y=bd H y):L.At u m H':=by
 have hm:=h.mem
 obtain⟨d1,h1⟩:=h.rM
 obtain⟨d2,h2⟩:=h.rA
 obtain⟨d3,h3⟩:=h.rS
 obtain⟨d4,h4⟩:=h.rE
 obtain⟨d5,h5⟩:=h.rH
 obtain⟨d6,h6⟩:=h.rP
 refine⟨⟨d1,(hk _ (by simp)).trans h1⟩,⟨d2,(hk _ (hm _ (by simp))).trans h2⟩,⟨d3,(hk _ (hm _ (by simp))).trans h3⟩,fun t ht=> ?_,⟨d4,(hk _ (hm _ (by simp))).trans h4⟩,⟨d5,(hk _ (hm _ (by simp))).trans h5⟩,⟨d6,(hk _ (hm _ (by simp))).trans h6⟩,h.len,h.nodup⟩
 obtain⟨d,hd⟩:=h.rL t ht
 exact⟨d,(hk _ (jV h ht)).trans hd⟩
theorem ML.At.fS (h:L.At u m H) {t:Nat} (ht:t<m.bj.length) (k w:Int) (hit:∃d,bd H' (L.it t)=some (.row 2 1 d (((m.bj.getD t []).map i64).set k.toNat (i64 w)))) (hk:∀y∈L.all,y≠L.it t→bd H' y=bd H y):L.At u (m.fS t k w) H':=by
 obtain⟨-,n1,n2,n3,n4,n5,n6⟩:=apart h ht
 have hm:=h.mem
 obtain⟨d1,h1⟩:=h.rM
 obtain⟨d2,h2⟩:=h.rA
 obtain⟨d3,h3⟩:=h.rS
 obtain⟨d4,h4⟩:=h.rE
 obtain⟨d5,h5⟩:=h.rH
 obtain⟨d6,h6⟩:=h.rP
 have hl:(m.fS t k w).bj.length=m.bj.length:=by simp[MS.fS]
 have hrow:dh L.ids (m.fS t k w).bj=dh L.ids m.bj:=by
  unfold dh MS.fS
  apply List.ext_getElem (by simp)
  intro i q1 q2
  simp only[List.getElem_map,List.getElem_zip,AV.sl.injEq,true_and]
  rw[List.getElem_set]
  have hi:i<m.bj.length:=by simp at q2;omega
  split
  ·rename_i e;subst e;rw[List.length_set];simp[List.getD,hi]
  ·rfl
 refine⟨⟨d1, ?_⟩,⟨d2,(hk _ (hm _ (by simp)) kI).trans h2⟩,⟨d3,by rw[hrow];exact(hk _ (hm _ (by simp)) kI).trans h3⟩,fun s hs=> ?_,⟨d4,(hk _ (hm _ (by simp)) kI).trans h4⟩,⟨d5,(hk _ (hm _ (by simp)) kI).trans h5⟩,⟨d6,(hk _ (hm _ (by simp)) kI).trans h6⟩,by rw[hl];exact h.len,h.nodup⟩
 ·rw[show(m.fS t k w).rows u L.a L.s L.me L.ho L.pr=m.rows u L.a L.s L.me L.ho L.pr by simp[MS.rows,MS.fS]]
  exact(hk _ (by simp) kI).trans h1
 ·rw[hl] at hs
  by_cases e:s=t
  ·subst e
   obtain⟨d,hd⟩:=hit
   refine⟨d,hd.trans ?_⟩
   rw[show(m.fS s k w).bj.getD s []=(m.bj.getD s []).set k.toNat w from e8 hs,List.map_set]
  ·obtain⟨d,hd⟩:=h.rL s hs
   refine⟨d, ?_⟩
   rw[show(m.fS t k w).bj.getD s []=m.bj.getD s [] from getD_set_ne (Ne.symm e)]
   exact(hk _ (jV h hs) (K8 h ht hs e)).trans hd
theorem ML.At.iD (h:L.At u m H) {t:Nat} (ht:t<m.bj.length) (k w:Int) (hme:∃d,bd H' L.me=some (.row 2 1 d ((m.mem.map i64).set k.toNat (i64 w)))) (hk:∀y∈L.all,y≠L.me→bd H' y=bd H y):L.At u { m with mem:=m.mem.set k.toNat w } H':=by
 obtain⟨⟨a1,a2,a3,a4,a5,b1,b2,b3,b4,c1,c2,c3,e1,e2,f1⟩,n1,n2,n3,n4,n5,n6⟩:=apart h ht
 have hm:=h.mem
 obtain⟨d1,h1⟩:=h.rM
 obtain⟨d2,h2⟩:=h.rA
 obtain⟨d3,h3⟩:=h.rS
 obtain⟨d4,h4⟩:=hme
 obtain⟨d5,h5⟩:=h.rH
 obtain⟨d6,h6⟩:=h.rP
 refine⟨⟨d1, ?_⟩,⟨d2,(hk _ (hm _ (by simp)) kI).trans h2⟩,⟨d3,(hk _ (hm _ (by simp)) kI).trans h3⟩,fun s hs=> ?_,⟨d4,by rw[List.map_set];exact h4⟩,⟨d5,(hk _ (hm _ (by simp)) kI).trans h5⟩,⟨d6,(hk _ (hm _ (by simp)) kI).trans h6⟩,h.len,h.nodup⟩
 ·rw[show({ m with mem:=m.mem.set k.toNat w }:MS).rows u L.a L.s L.me L.ho L.pr=m.rows u L.a L.s L.me L.ho L.pr by simp[MS.rows]]
  exact(hk _ (by simp) kI).trans h1
 ·obtain⟨d,hd⟩:=h.rL s hs
  obtain⟨m1,m2,m3,m4,m5,m6⟩:=(apart h hs).it
  exact⟨d,(hk _ (jV h hs) kI).trans hd⟩
theorem ML.At.IG (h:L.At u m H) {t:Nat} (ht:t<m.bj.length) (k w:Int) (hho:∃d,bd H' L.ho=some (.row 3 1 d ((m.hold.map i64).set k.toNat (i64 w)))) (hk:∀y∈L.all,y≠L.ho→bd H' y=bd H y):L.At u { m with hold:=m.hold.set k.toNat w } H':=by
 obtain⟨⟨a1,a2,a3,a4,a5,b1,b2,b3,b4,c1,c2,c3,e1,e2,f1⟩,n1,n2,n3,n4,n5,n6⟩:=apart h ht
 have hm:=h.mem
 obtain⟨d1,h1⟩:=h.rM
 obtain⟨d2,h2⟩:=h.rA
 obtain⟨d3,h3⟩:=h.rS
 obtain⟨d4,h4⟩:=h.rE
 obtain⟨d5,h5⟩:=hho
 obtain⟨d6,h6⟩:=h.rP
 refine⟨⟨d1, ?_⟩,⟨d2,(hk _ (hm _ (by simp)) kI).trans h2⟩,⟨d3,(hk _ (hm _ (by simp)) kI).trans h3⟩,fun s hs=> ?_,⟨d4,(hk _ (hm _ (by simp)) kI).trans h4⟩,⟨d5,by rw[List.map_set];exact h5⟩,⟨d6,(hk _ (hm _ (by simp)) kI).trans h6⟩,h.len,h.nodup⟩
 ·rw[show({ m with hold:=m.hold.set k.toNat w }:MS).rows u L.a L.s L.me L.ho L.pr=m.rows u L.a L.s L.me L.ho L.pr by simp[MS.rows]]
  exact(hk _ (by simp) kI).trans h1
 ·obtain⟨d,hd⟩:=h.rL s hs
  obtain⟨m1,m2,m3,m4,m5,m6⟩:=(apart h hs).it
  exact⟨d,(hk _ (jV h hs) kI).trans hd⟩
theorem ML.At.MT (h:L.At u m H) {t:Nat} (ht:t<m.bj.length) (k:Nat) (w:Int) (hat:∃d,bd H' L.a=some (.row 3 1 d ((m.at_.map i64).set k (i64 w)))) (hk:∀y∈L.all,y≠L.a→bd H' y=bd H y):L.At u { m with at_:=m.at_.set k w } H':=by
 obtain⟨⟨a1,a2,a3,a4,a5,b1,b2,b3,b4,c1,c2,c3,e1,e2,f1⟩,n1,n2,n3,n4,n5,n6⟩:=apart h ht
 have hm:=h.mem
 obtain⟨d1,h1⟩:=h.rM
 obtain⟨d2,h2⟩:=hat
 obtain⟨d3,h3⟩:=h.rS
 obtain⟨d4,h4⟩:=h.rE
 obtain⟨d5,h5⟩:=h.rH
 obtain⟨d6,h6⟩:=h.rP
 refine⟨⟨d1, ?_⟩,⟨d2,by rw[List.map_set];exact h2⟩,⟨d3,(hk _ (hm _ (by simp)) kI).trans h3⟩,fun s hs=> ?_,⟨d4,(hk _ (hm _ (by simp)) kI).trans h4⟩,⟨d5,(hk _ (hm _ (by simp)) kI).trans h5⟩,⟨d6,(hk _ (hm _ (by simp)) kI).trans h6⟩,h.len,h.nodup⟩
 ·rw[show({ m with at_:=m.at_.set k w }:MS).rows u L.a L.s L.me L.ho L.pr=m.rows u L.a L.s L.me L.ho L.pr by simp[MS.rows]]
  exact(hk _ (by simp) kI).trans h1
 ·obtain⟨d,hd⟩:=h.rL s hs
  obtain⟨m1,m2,m3,m4,m5,m6⟩:=(apart h hs).it
  exact⟨d,(hk _ (jV h hs) kI).trans hd⟩
theorem ML.At.JQ (h:L.At u m H) {t:Nat} (ht:t<m.bj.length) (p:cL) (hmr:∃d,bd H' L.mr=some (.row 100 8 d [({ m with bh:=m.bh++[p] }:MS).rows u L.a L.s L.me L.ho L.pr])) (hpr:∃d,bd H' L.pr=some (.row 89 2 d (m.bh.map cL.av++[p.av]))) (hk:∀y∈L.all,y≠L.pr→y≠L.mr→bd H' y=bd H y):L.At u { m with bh:=m.bh++[p] } H':=by
 obtain⟨⟨a1,a2,a3,a4,a5,b1,b2,b3,b4,c1,c2,c3,e1,e2,f1⟩,n1,n2,n3,n4,n5,n6⟩:=apart h ht
 have hm:=h.mem
 obtain⟨d2,h2⟩:=h.rA
 obtain⟨d3,h3⟩:=h.rS
 obtain⟨d4,h4⟩:=h.rE
 obtain⟨d5,h5⟩:=h.rH
 obtain⟨d6,h6⟩:=hpr
 refine⟨hmr,⟨d2,(hk _ (hm _ (by simp)) kI kI).trans h2⟩,⟨d3,(hk _ (hm _ (by simp)) kI kI).trans h3⟩,fun s hs=> ?_,⟨d4,(hk _ (hm _ (by simp)) kI kI).trans h4⟩,⟨d5,(hk _ (hm _ (by simp)) kI kI).trans h5⟩,⟨d6,by rw[List.map_append];exact h6⟩,h.len,h.nodup⟩
 obtain⟨d,hd⟩:=h.rL s hs
 obtain⟨m1,m2,m3,m4,m5,m6⟩:=(apart h hs).it
 exact⟨d,(hk _ (jV h hs) kI kI).trans hd⟩
end
end Go.Proofs.YtekfmjjmihomlaaGreat
end
section
/- An action at work: what a value is; a word into a slot. -/
namespace Go.Proofs.YtekfmjjmihomlaaGreat
open Go Go.cO Go.Proofs
set_option linter.unusedSimpArgs false
set_option linter.unusedVariables false
set_option maxRecDepth 8000
def AC (x:AV) (t:Int) (n:Node) (d:fY):List AV:=[x,i64 t,u8 n.kind,u8 n.op,i64 n.slot,i64 n.cH,bl n.a.gx,i64 n.a.slot,i64 n.a.word,bl n.b.gx,i64 n.b.slot,i64 n.b.word,i64 n.next,i64 n.og,i64 n.origin,i64 d.cR,i64 d.node,u8 d.kind,i64 d.cH,i64 d.word,i64 d.put]
abbrev kn (u:bf) (m:MS) (t:Int) (n:Node) (d:fY):AV:= .ip 21 .any [.agg (AC (m.fz u) t n d)] 0 0
@[simp] theorem MW (k:Nat) (u:bf) (m:MS) (t:Int) (n:Node) (d:fY):cN k (AC (m.fz u) t n d):=by
  simp[bx,cN,AC]
structure qG (u:bf) (m:MS) (t:Nat) (n:Node) (d:fY) (ab:Nat) (L:ML) (H:Hp):Prop where
 M:L.At u m H
 row:∃dd,bd H ab=some (.row 113 21 dd [.agg (AC (.pt L.mr 1 0 0) t n d)])
 out:ab∉L.all
theorem qG.dR {u:bf} {m:MS} {t:Nat} {n:Node} {d:fY} {ab:Nat} {L:ML} {H:Hp} (h:qG u m t n d ab L H):cO.dR H 6 (.pt ab 1 0 0)=kn u m t n d:=by
 obtain⟨dd,hr⟩:=h.row
 rw[show cO.dR H 6 (.pt ab 1 0 0)= .ip 21 .any (([.agg (AC (.pt L.mr 1 0 0) t n d)]:List AV).map (cO.dR H 5)) 0 0 from JF hr rfl]
 simp only[List.map_cons,List.map_nil]
 rw[rq]
 simp only[AC,List.map_cons,List.map_nil]
 have:=h.M.zJ 0
 rw[this]
 simp only[cO.dR]
 rfl
theorem qG.cE {u:bf} {m:MS} {t:Nat} {n:Node} {d:fY} {ab:Nat} {L:ML} {H H':Hp} (h:qG u m t n d ab L H) (hk:∀y∈ab::L.all,bd H' y=bd H y):qG u m t n d ab L H':=by
 obtain⟨dd,hr⟩:=h.row
 exact⟨h.M.cE fun y hy=>hk y (List.mem_cons_of_mem _ hy),⟨dd,(hk ab (by simp)).trans hr⟩,h.out⟩
def kj (m:MS) (t:Nat) (v:jd):Prop:=v.gx=true→0≤v.slot∧v.slot<(m.bj.getD t []).length
theorem gW (u:bf) (m:MS) {t:Nat} (n:Node) (d:fY) (v:jd) (ht:t<m.bj.length) (hl:m.bj.length≤8) (hv:kj m t v):Pure Tryz.prog 122 [kn u m t n d,v.av] (fun r=>r=i64 (m.val t v)):=by
 unfold MS.val
 have e0:∀d,(m.bj.map cr).getD ((t:Int)).toNat d=cr (m.bj.getD t []):=fun d=>by rw[Int.toNat_natCast];exact dJ cr m.bj t d ht
 have a0:(m.bj.map cr).length=m.bj.length:=by simp
 cases hs:v.gx with
 |true=>
  have r0:=hs
  obtain⟨v1,v2⟩:=hv hs
  have a1:((m.bj.getD t []).map i64).length=(m.bj.getD t []).length:=by simp
  have e1:=fun d=>ly (l:=m.bj.getD t []) (k:=v.slot) (by omega) d
  rw[if_pos rfl]
  refine aI qi rfl ?_
  refine cM ?_
  first|exact rfl|trivial
 |false=>
  have r0:=hs
  rw[if_neg (by decide)]
  refine aI qi rfl ?_
  refine cM ?_
  first|exact rfl|trivial
abbrev pk (u:bf) (m:MS) (t:Nat) (n:Node) (d:fY) (ab:Nat) (L:ML) (H0:Hp) (nx:Nat) (H:Hp) (k:Nat):Prop:=qG u m t n d ab L H∧nx≤k∧∀y,y<nx→y≠ab→y∉L.all→bd H y=bd H0 y
theorem EB {L:ML} {m:MS} {t:Nat} (hl:L.ids.length=m.bj.length) (ht:t<m.bj.length) (d:AV):(dh L.ids m.bj).getD t d= .sl (L.it t) (m.bj.getD t []).length:=by
 have h1:t<L.ids.length:=by omega
 have h2:t<(L.ids.zip m.bj).length:=by rw[List.length_zip];omega
 simp[dh,List.getD,ht,h1,List.getElem?_eq_getElem h2]
theorem qv {L:ML} {m:MS} (hl:L.ids.length=m.bj.length):(dh L.ids m.bj).length=m.bj.length:=by
 unfold dh;rw[List.length_map,List.length_zip,hl];simp
theorem ct {x y:Nat} {l:List Nat} (h:x∉l) (hy:y∈l):y≠x:=fun e=>h (e▸hy)
set_option maxHeartbeats 1000000 in
theorem jA {u:bf} {m:MS} {t:Nat} {n:Node} {d:fY} {ab:Nat} {L:ML} {H:Hp} {nx:Nat} (h:qG u m t n d ab L H) (hlt:∀y∈ab::L.all,y<nx) (ht:t<m.bj.length) (hl:m.bj.length≤8) (hs:0≤n.slot∧n.slot<(m.bj.getD t []).length) (w:Int):
 cD Tryz.prog 126 [.pt ab 1 0 0,i64 w] H nx (fun _ H' k=>pk u (m.fS t n.slot w) t n { d with word:=w } ab L H nx H' k):=by
 obtain⟨hM,⟨dd,ra⟩,hout⟩:=h
 obtain⟨⟨a1,a2,a3,a4,a5,b1,b2,b3,b4,c1,c2,c3,e1,e2,f1⟩,n1,n2,n3,n4,n5,n6⟩:=apart hM ht
 have hmem:=hM.mem
 have k0:=hlt ab (by simp)
 have km:=hlt L.mr (by simp)
 have ks:=hlt L.s (List.mem_cons_of_mem _ (hmem _ (by simp)))
 have ki:=hlt (L.it t) (List.mem_cons_of_mem _ (jV hM ht))
 have o1:=ct hout (List.mem_cons_self (a:=L.mr))
 have o2:=ct hout (hmem L.s (by simp))
 have o3:=ct hout (jV hM ht)
 obtain⟨d1,r1⟩:=hM.rM
 obtain⟨d3,r3⟩:=hM.rS
 obtain⟨d7,r7⟩:=hM.rL t ht
 have e0:∀d,(dh L.ids m.bj).getD ((t:Int)).toNat d= .sl (L.it t) (m.bj.getD t []).length:=fun d=>by rw[Int.toNat_natCast];exact EB hM.len ht d
 have q0:=qv hM.len
 have q1:((m.bj.getD t []).map i64).length=(m.bj.getD t []).length:=by simp
 obtain⟨hs1,hs2⟩:=hs
 refine aQ uE rfl ?_
 refine cM ?_
 exact⟨⟨hM.fS ht _ _ ⟨_,bg⟩ fun y hy hne=>by have:=ct hout hy;exact bq,⟨_,bg⟩,hout⟩,cW,fun y y1 y2 y3=>by have y4:=ct y3 (jV hM ht);exact bq⟩
end Go.Proofs.YtekfmjjmihomlaaGreat
end
section
/- An action at work: the kinds of nodes. -/
namespace Go.Proofs.YtekfmjjmihomlaaGreat
open Go Go.cO Go.Proofs
set_option linter.unusedSimpArgs false
set_option linter.unusedVariables false
set_option maxRecDepth 8000
set_option maxHeartbeats 2000000
theorem zl {u:bf} {m:MS} {t:Nat} {n:Node} {d:fY} {ab:Nat} {L:ML} {H:Hp} {nx:Nat} (h:qG u m t n d ab L H) (hlt:∀y∈ab::L.all,y<nx) (ht:t<m.bj.length) (hl:m.bj.length≤8) (hth:0≤n.cH∧n.cH<m.hold.length):
 cD Tryz.prog 86 [.pt ab 1 0 0] H nx (fun r H' k=>r=i64 n.next∧pk u { m with hold:=m.hold.set n.cH.toNat t } t n { d with cH:=n.cH } ab L H nx H' k):=by
 have hfr:∀(v:jd) (H1:Hp),(∀y∈ab::L.all,bd H1 y=bd H y)→[.pt ab 1 0 0,v.av].map (cO.dR H1 6)=[kn u m t n d,v.av]:=fun v H1 h1=>by
  rw[List.map_cons,List.map_cons,List.map_nil,(h.cE h1).dR,dB _ (show bx 0 v.av by simp[bx])]
 have h0:=h
 obtain⟨hM,⟨dd,ra⟩,hout⟩:=h
 obtain⟨⟨a1,a2,a3,a4,a5,b1,b2,b3,b4,c1,c2,c3,e1',e2',f1⟩,n1,n2,n3,n4,n5,n6⟩:=apart hM ht
 have hmem:=hM.mem
 have k0:=hlt ab (by simp)
 have km:=hlt L.mr (by simp)
 have ke:=hlt L.me (List.mem_cons_of_mem _ (hmem _ (by simp)))
 have kh:=hlt L.ho (List.mem_cons_of_mem _ (hmem _ (by simp)))
 have kp:=hlt L.pr (List.mem_cons_of_mem _ (hmem _ (by simp)))
 have o1:=ct hout (List.mem_cons_self (a:=L.mr))
 have o2:=ct hout (hmem L.me (by simp))
 have o3:=ct hout (hmem L.ho (by simp))
 have o4:=ct hout (hmem L.pr (by simp))
 clear a1 a2 a4 b1 b2 b3 b4 c1 c2 c3 e1' e2' f1 n1 n2 n3 n4 n5 n6
 obtain⟨d1,r1⟩:=hM.rM
 obtain⟨d3,r4⟩:=hM.rE
 obtain⟨d5,r5⟩:=hM.rH
 obtain⟨d6,r6⟩:=hM.rP
 have q1:(m.mem.map i64).length=m.mem.length:=by simp
 have q2:(m.hold.map i64).length=m.hold.length:=by simp
 have q3:(m.bh.map cL.av).length=m.bh.length:=by simp
 refine aQ DJ rfl ?_
 refine cM ?_
 exact⟨⟨rfl,⟨hM.IG ht _ _ ⟨_,bg⟩ fun y hy hne=>by have:=ct hout hy;exact bq,⟨_,bg⟩,hout⟩,cW,fun y y1 y2 y3=>by have y4:=ct y3 (hmem L.ho (by simp));exact bq⟩⟩
theorem vM {u:bf} {m:MS} {t:Nat} {n:Node} {d:fY} {ab:Nat} {L:ML} {H:Hp} {nx:Nat} (h:qG u m t n d ab L H) (hlt:∀y∈ab::L.all,y<nx) (ht:t<m.bj.length) (hl:m.bj.length≤8) (hth:0≤n.cH∧n.cH<m.hold.length):
 cD Tryz.prog 87 [.pt ab 1 0 0] H nx (fun r H' k=>r=i64 n.next∧pk u { m with hold:=m.hold.set n.cH.toNat (-1) } t n { d with cH:=n.cH } ab L H nx H' k):=by
 have hfr:∀(v:jd) (H1:Hp),(∀y∈ab::L.all,bd H1 y=bd H y)→[.pt ab 1 0 0,v.av].map (cO.dR H1 6)=[kn u m t n d,v.av]:=fun v H1 h1=>by
  rw[List.map_cons,List.map_cons,List.map_nil,(h.cE h1).dR,dB _ (show bx 0 v.av by simp[bx])]
 have h0:=h
 obtain⟨hM,⟨dd,ra⟩,hout⟩:=h
 obtain⟨⟨a1,a2,a3,a4,a5,b1,b2,b3,b4,c1,c2,c3,e1',e2',f1⟩,n1,n2,n3,n4,n5,n6⟩:=apart hM ht
 have hmem:=hM.mem
 have k0:=hlt ab (by simp)
 have km:=hlt L.mr (by simp)
 have ke:=hlt L.me (List.mem_cons_of_mem _ (hmem _ (by simp)))
 have kh:=hlt L.ho (List.mem_cons_of_mem _ (hmem _ (by simp)))
 have kp:=hlt L.pr (List.mem_cons_of_mem _ (hmem _ (by simp)))
 have o1:=ct hout (List.mem_cons_self (a:=L.mr))
 have o2:=ct hout (hmem L.me (by simp))
 have o3:=ct hout (hmem L.ho (by simp))
 have o4:=ct hout (hmem L.pr (by simp))
 clear a1 a2 a4 b1 b2 b3 b4 c1 c2 c3 e1' e2' f1 n1 n2 n3 n4 n5 n6
 obtain⟨d1,r1⟩:=hM.rM
 obtain⟨d3,r4⟩:=hM.rE
 obtain⟨d5,r5⟩:=hM.rH
 obtain⟨d6,r6⟩:=hM.rP
 have q1:(m.mem.map i64).length=m.mem.length:=by simp
 have q2:(m.hold.map i64).length=m.hold.length:=by simp
 have q3:(m.bh.map cL.av).length=m.bh.length:=by simp
 refine aQ DK rfl ?_
 refine cM ?_
 exact⟨⟨rfl,⟨hM.IG ht _ _ ⟨_,bg⟩ fun y hy hne=>by have:=ct hout hy;exact bq,⟨_,bg⟩,hout⟩,cW,fun y y1 y2 y3=>by have y4:=ct y3 (hmem L.ho (by simp));exact bq⟩⟩
theorem sx {u:bf} {m:MS} {t:Nat} {n:Node} {d:fY} {ab:Nat} {L:ML} {H:Hp} {nx:Nat} (h:qG u m t n d ab L H) (hlt:∀y∈ab::L.all,y<nx) (ht:t<m.bj.length) (hl:m.bj.length≤8) (hva:kj m t n.a):
 cD Tryz.prog 89 [.pt ab 1 0 0] H nx (fun r H' k=>r=i64 (if m.val t n.a=0 then n.og else n.next)∧pk u m t n { d with word:=m.val t n.a } ab L H nx H' k):=by
 have hfr:∀(v:jd) (H1:Hp),(∀y∈ab::L.all,bd H1 y=bd H y)→[.pt ab 1 0 0,v.av].map (cO.dR H1 6)=[kn u m t n d,v.av]:=fun v H1 h1=>by
  rw[List.map_cons,List.map_cons,List.map_nil,(h.cE h1).dR,dB _ (show bx 0 v.av by simp[bx])]
 have h0:=h
 obtain⟨hM,⟨dd,ra⟩,hout⟩:=h
 obtain⟨⟨a1,a2,a3,a4,a5,b1,b2,b3,b4,c1,c2,c3,e1',e2',f1⟩,n1,n2,n3,n4,n5,n6⟩:=apart hM ht
 have hmem:=hM.mem
 have k0:=hlt ab (by simp)
 have km:=hlt L.mr (by simp)
 have ke:=hlt L.me (List.mem_cons_of_mem _ (hmem _ (by simp)))
 have kh:=hlt L.ho (List.mem_cons_of_mem _ (hmem _ (by simp)))
 have kp:=hlt L.pr (List.mem_cons_of_mem _ (hmem _ (by simp)))
 have o1:=ct hout (List.mem_cons_self (a:=L.mr))
 have o2:=ct hout (hmem L.me (by simp))
 have o3:=ct hout (hmem L.ho (by simp))
 have o4:=ct hout (hmem L.pr (by simp))
 clear a1 a2 a4 b1 b2 b3 b4 c1 c2 c3 e1' e2' f1 n1 n2 n3 n4 n5 n6
 obtain⟨d1,r1⟩:=hM.rM
 obtain⟨d3,r4⟩:=hM.rE
 obtain⟨d5,r5⟩:=hM.rH
 obtain⟨d6,r6⟩:=hM.rP
 have q1:(m.mem.map i64).length=m.mem.length:=by simp
 have q2:(m.hold.map i64).length=m.hold.length:=by simp
 have q3:(m.bh.map cL.av).length=m.bh.length:=by simp
 by_cases hz:m.val t n.a=0
 ·rw[if_pos hz]
  refine aQ zh rfl ?_
  refine cM ?_
  refine aT (gW u m n d n.a ht hl hva) (hfr n.a _ ?_) (by simp[cN,bx]) trivial ?_
  ·exact fun y hy=>rfl
  refine cM ?_
  exact⟨⟨rfl,⟨hM.cE fun y hy=>by have:=ct hout hy;exact bq,⟨_,bg⟩,hout⟩,cW,fun y y1 y2 y3=>bq⟩⟩
 ·rw[if_neg hz]
  refine aQ zh rfl ?_
  refine cM ?_
  refine aT (gW u m n d n.a ht hl hva) (hfr n.a _ ?_) (by simp[cN,bx]) trivial ?_
  ·exact fun y hy=>rfl
  refine cM ?_
  exact⟨⟨rfl,⟨hM.cE fun y hy=>by have:=ct hout hy;exact bq,⟨_,bg⟩,hout⟩,cW,fun y y1 y2 y3=>bq⟩⟩
theorem zk {u:bf} {m:MS} {t:Nat} {n:Node} {d:fY} {ab:Nat} {L:ML} {H:Hp} {nx:Nat} (h:qG u m t n d ab L H) (hlt:∀y∈ab::L.all,y<nx) (ht:t<m.bj.length) (hl:m.bj.length≤8) (hs:0≤n.slot∧n.slot<(m.bj.getD t []).length) (hth:0≤n.cH∧n.cH<m.mem.length):
 cD Tryz.prog 83 [.pt ab 1 0 0] H nx (fun r H' k=>r=i64 n.next∧pk u (m.fS t n.slot (m.mem.getD n.cH.toNat 0)) t n { d with cH:=n.cH,word:=m.mem.getD n.cH.toNat 0 } ab L H nx H' k):=by
 have hfr:∀(v:jd) (H1:Hp),(∀y∈ab::L.all,bd H1 y=bd H y)→[.pt ab 1 0 0,v.av].map (cO.dR H1 6)=[kn u m t n d,v.av]:=fun v H1 h1=>by
  rw[List.map_cons,List.map_cons,List.map_nil,(h.cE h1).dR,dB _ (show bx 0 v.av by simp[bx])]
 have h0:=h
 obtain⟨hM,⟨dd,ra⟩,hout⟩:=h
 obtain⟨⟨a1,a2,a3,a4,a5,b1,b2,b3,b4,c1,c2,c3,e1',e2',f1⟩,n1,n2,n3,n4,n5,n6⟩:=apart hM ht
 have hmem:=hM.mem
 have k0:=hlt ab (by simp)
 have km:=hlt L.mr (by simp)
 have ke:=hlt L.me (List.mem_cons_of_mem _ (hmem _ (by simp)))
 have kh:=hlt L.ho (List.mem_cons_of_mem _ (hmem _ (by simp)))
 have kp:=hlt L.pr (List.mem_cons_of_mem _ (hmem _ (by simp)))
 have o1:=ct hout (List.mem_cons_self (a:=L.mr))
 have o2:=ct hout (hmem L.me (by simp))
 have o3:=ct hout (hmem L.ho (by simp))
 have o4:=ct hout (hmem L.pr (by simp))
 clear a1 a2 a4 b1 b2 b3 b4 c1 c2 c3 e1' e2' f1 n1 n2 n3 n4 n5 n6
 obtain⟨d1,r1⟩:=hM.rM
 obtain⟨d3,r4⟩:=hM.rE
 obtain⟨d5,r5⟩:=hM.rH
 obtain⟨d6,r6⟩:=hM.rP
 have q1:(m.mem.map i64).length=m.mem.length:=by simp
 have q2:(m.hold.map i64).length=m.hold.length:=by simp
 have q3:(m.bh.map cL.av).length=m.bh.length:=by simp
 have e0:=fun d=>ly (l:=m.mem) (k:=n.cH) (by omega) d
 refine aQ DG rfl ?_
 refine cM ?_
 refine aJ (jA (u:=u) (t:=t) (n:=n) (d:={ d with cH:=n.cH }) (L:=L) (m:=m) (ab:=ab) ?_ ?_ ht hl hs _) ?_
 ·exact⟨hM.cE fun y hy=>by have:=ct hout hy;exact bq,⟨_,bg⟩,hout⟩
 ·exact fun y hy=>Nat.lt_of_lt_of_le (hlt y hy) cW
 rintro _ H2 n2 ⟨hA,hn2,hk2⟩
 obtain⟨dd2,ra2⟩:=hA.row
 refine cM ?_
 exact⟨⟨rfl,hA.cE fun y hy=>bq,cW,fun y y1 y2 y3=>Eq.trans bq ((hk2 y (Nat.lt_of_lt_of_le y1 cW) y2 y3).trans bq)⟩⟩
theorem xH {u:bf} {m:MS} {t:Nat} {n:Node} {d:fY} {ab:Nat} {L:ML} {H:Hp} {nx:Nat} (h:qG u m t n d ab L H) (hlt:∀y∈ab::L.all,y<nx) (ht:t<m.bj.length) (hl:m.bj.length≤8) (hva:kj m t n.a) (hth:0≤n.cH∧n.cH<m.mem.length):
 cD Tryz.prog 84 [.pt ab 1 0 0] H nx (fun r H' k=>r=i64 n.next∧pk u { m with mem:=m.mem.set n.cH.toNat (m.val t n.a) } t n { d with cH:=n.cH,word:=m.val t n.a } ab L H nx H' k):=by
 have hfr:∀(v:jd) (H1:Hp),(∀y∈ab::L.all,bd H1 y=bd H y)→[.pt ab 1 0 0,v.av].map (cO.dR H1 6)=[kn u m t n d,v.av]:=fun v H1 h1=>by
  rw[List.map_cons,List.map_cons,List.map_nil,(h.cE h1).dR,dB _ (show bx 0 v.av by simp[bx])]
 have h0:=h
 obtain⟨hM,⟨dd,ra⟩,hout⟩:=h
 obtain⟨⟨a1,a2,a3,a4,a5,b1,b2,b3,b4,c1,c2,c3,e1',e2',f1⟩,n1,n2,n3,n4,n5,n6⟩:=apart hM ht
 have hmem:=hM.mem
 have k0:=hlt ab (by simp)
 have km:=hlt L.mr (by simp)
 have ke:=hlt L.me (List.mem_cons_of_mem _ (hmem _ (by simp)))
 have kh:=hlt L.ho (List.mem_cons_of_mem _ (hmem _ (by simp)))
 have kp:=hlt L.pr (List.mem_cons_of_mem _ (hmem _ (by simp)))
 have o1:=ct hout (List.mem_cons_self (a:=L.mr))
 have o2:=ct hout (hmem L.me (by simp))
 have o3:=ct hout (hmem L.ho (by simp))
 have o4:=ct hout (hmem L.pr (by simp))
 clear a1 a2 a4 b1 b2 b3 b4 c1 c2 c3 e1' e2' f1 n1 n2 n3 n4 n5 n6
 obtain⟨d1,r1⟩:=hM.rM
 obtain⟨d3,r4⟩:=hM.rE
 obtain⟨d5,r5⟩:=hM.rH
 obtain⟨d6,r6⟩:=hM.rP
 have q1:(m.mem.map i64).length=m.mem.length:=by simp
 have q2:(m.hold.map i64).length=m.hold.length:=by simp
 have q3:(m.bh.map cL.av).length=m.bh.length:=by simp
 refine aQ DH rfl ?_
 refine cM ?_
 refine aX (ab::L.all) (gW u m n d n.a ht hl hva) (fun H1 h1=>hfr n.a H1 h1) (by simp[cN,bx]) trivial ?_
 refine Eq.mpr (pQ (ab::L.all) _) (pb ?_)
 refine cM ?_
 exact⟨⟨rfl,⟨hM.iD ht _ _ ⟨_,bg⟩ fun y hy hne=>by have:=ct hout hy;exact bq,⟨_,bg⟩,hout⟩,cW,fun y y1 y2 y3=>by have y4:=ct y3 (hmem L.me (by simp));exact bq⟩⟩
theorem w9 {u:bf} {m:MS} {t:Nat} {n:Node} {d:fY} {ab:Nat} {L:ML} {H:Hp} {nx:Nat} (h:qG u m t n d ab L H) (hlt:∀y∈ab::L.all,y<nx) (ht:t<m.bj.length) (hl:m.bj.length≤8) (hva:kj m t n.a) (hpl:m.bh.length≤1048576):
 cD Tryz.prog 88 [.pt ab 1 0 0] H nx (fun r H' k=>r=i64 n.next∧pk u { m with bh:=m.bh++[⟨t,m.val t n.a⟩] } t n { d with word:=m.val t n.a } ab L H nx H' k):=by
 have hfr:∀(v:jd) (H1:Hp),(∀y∈ab::L.all,bd H1 y=bd H y)→[.pt ab 1 0 0,v.av].map (cO.dR H1 6)=[kn u m t n d,v.av]:=fun v H1 h1=>by
  rw[List.map_cons,List.map_cons,List.map_nil,(h.cE h1).dR,dB _ (show bx 0 v.av by simp[bx])]
 have h0:=h
 obtain⟨hM,⟨dd,ra⟩,hout⟩:=h
 obtain⟨⟨a1,a2,a3,a4,a5,b1,b2,b3,b4,c1,c2,c3,e1',e2',f1⟩,n1,n2,n3,n4,n5,n6⟩:=apart hM ht
 have hmem:=hM.mem
 have k0:=hlt ab (by simp)
 have km:=hlt L.mr (by simp)
 have ke:=hlt L.me (List.mem_cons_of_mem _ (hmem _ (by simp)))
 have kh:=hlt L.ho (List.mem_cons_of_mem _ (hmem _ (by simp)))
 have kp:=hlt L.pr (List.mem_cons_of_mem _ (hmem _ (by simp)))
 have o1:=ct hout (List.mem_cons_self (a:=L.mr))
 have o2:=ct hout (hmem L.me (by simp))
 have o3:=ct hout (hmem L.ho (by simp))
 have o4:=ct hout (hmem L.pr (by simp))
 clear a1 a2 a4 b1 b2 b3 b4 c1 c2 c3 e1' e2' f1 n1 n2 n3 n4 n5 n6
 obtain⟨d1,r1⟩:=hM.rM
 obtain⟨d3,r4⟩:=hM.rE
 obtain⟨d5,r5⟩:=hM.rH
 obtain⟨d6,r6⟩:=hM.rP
 have q1:(m.mem.map i64).length=m.mem.length:=by simp
 have q2:(m.hold.map i64).length=m.hold.length:=by simp
 have q3:(m.bh.map cL.av).length=m.bh.length:=by simp
 refine aQ DL rfl ?_
 refine cM ?_
 refine aT (gW u m n d n.a ht hl hva) (hfr n.a _ ?_) (by simp[cN,bx]) trivial ?_
 ·exact fun y hy=>rfl
 refine cM ?_
 exact⟨⟨rfl,⟨hM.JQ ht _ ⟨_,by simp only[MS.rows,List.length_append,List.length_cons,List.length_nil];exact bg⟩ ⟨_,bg⟩ fun y hy hne hn2=>by have:=ct hout hy;have:=hlt y (List.mem_cons_of_mem _ hy);exact bq,⟨_,bg⟩,hout⟩,cW,fun y y1 y2 y3=>by have y4:=ct y3 (List.mem_cons_self (a:=L.mr));have y5:=ct y3 (hmem L.pr (by simp));exact bq⟩⟩
theorem AI {u:bf} {m:MS} {t:Nat} {n:Node} {d:fY} {ab:Nat} {L:ML} {H:Hp} {nx:Nat} (h:qG u m t n d ab L H) (hlt:∀y∈ab::L.all,y<nx) (ht:t<m.bj.length) (hl:m.bj.length≤8) (hva:kj m t n.a) (hs:0≤n.slot∧n.slot<(m.bj.getD t []).length) (hth:0≤n.cH∧n.cH<m.mem.length):
 cD Tryz.prog 85 [.pt ab 1 0 0] H nx (fun r H' k=>r=i64 n.next∧pk u { m.fS t n.slot (m.mem.getD n.cH.toNat 0) with mem:=m.mem.set n.cH.toNat (m.val t n.a) } t n { d with cH:=n.cH,word:=m.mem.getD n.cH.toNat 0,put:=m.val t n.a } ab L H nx H' k):=by
 have hfr:∀(v:jd) (H1:Hp),(∀y∈ab::L.all,bd H1 y=bd H y)→[.pt ab 1 0 0,v.av].map (cO.dR H1 6)=[kn u m t n d,v.av]:=fun v H1 h1=>by
  rw[List.map_cons,List.map_cons,List.map_nil,(h.cE h1).dR,dB _ (show bx 0 v.av by simp[bx])]
 have h0:=h
 obtain⟨hM,⟨dd,ra⟩,hout⟩:=h
 obtain⟨⟨a1,a2,a3,a4,a5,b1,b2,b3,b4,c1,c2,c3,e1',e2',f1⟩,n1,n2,n3,n4,n5,n6⟩:=apart hM ht
 have hmem:=hM.mem
 have k0:=hlt ab (by simp)
 have km:=hlt L.mr (by simp)
 have ke:=hlt L.me (List.mem_cons_of_mem _ (hmem _ (by simp)))
 have kh:=hlt L.ho (List.mem_cons_of_mem _ (hmem _ (by simp)))
 have kp:=hlt L.pr (List.mem_cons_of_mem _ (hmem _ (by simp)))
 have o1:=ct hout (List.mem_cons_self (a:=L.mr))
 have o2:=ct hout (hmem L.me (by simp))
 have o3:=ct hout (hmem L.ho (by simp))
 have o4:=ct hout (hmem L.pr (by simp))
 clear a1 a2 a4 b1 b2 b3 b4 c1 c2 c3 e1' e2' f1 n1 n2 n3 n4 n5 n6
 obtain⟨d1,r1⟩:=hM.rM
 obtain⟨d3,r4⟩:=hM.rE
 obtain⟨d5,r5⟩:=hM.rH
 obtain⟨d6,r6⟩:=hM.rP
 have q1:(m.mem.map i64).length=m.mem.length:=by simp
 have q2:(m.hold.map i64).length=m.hold.length:=by simp
 have q3:(m.bh.map cL.av).length=m.bh.length:=by simp
 have e0:=fun d=>ly (l:=m.mem) (k:=n.cH) (by omega) d
 refine aQ DI rfl ?_
 refine cM ?_
 refine aX (ab::L.all) (gW u m n d n.a ht hl hva) (fun H1 h1=>hfr n.a H1 h1) (by simp[cN,bx]) trivial ?_
 refine Eq.mpr (pQ (ab::L.all) _) (pb ?_)
 refine cM ?_
 refine aJ (jA (u:=u) (t:=t) (n:=n) (d:={ d with cH:=n.cH,put:=m.val t n.a }) (L:=L) (m:=m) (ab:=ab) ?_ ?_ ht hl hs _) ?_
 ·exact⟨hM.cE fun y hy=>by have:=ct hout hy;exact bq,⟨_,bg⟩,hout⟩
 ·exact fun y hy=>Nat.lt_of_lt_of_le (hlt y hy) cW
 rintro _ H2 n2 ⟨hA,hn2,hk2⟩
 obtain⟨dd2,ra2⟩:=hA.row
 obtain⟨d8,r8⟩:=hA.M.rM
 obtain⟨d9,r9⟩:=hA.M.rE
 refine cM ?_
 have ht2:t<(m.fS t n.slot (m.mem.getD n.cH.toNat 0)).bj.length:=by simp only[MS.fS,List.length_set];exact ht
 exact⟨⟨rfl,⟨hA.M.iD ht2 _ _ ⟨_,bg⟩ fun y hy hne=>by have:=ct hout hy;exact bq,⟨_,bg⟩,hout⟩,cW,fun y y1 y2 y3=>by have y4:=ct y3 (hmem L.me (by simp));exact Eq.trans bq ((hk2 y (Nat.lt_of_lt_of_le y1 cW) y2 y3).trans bq)⟩⟩
theorem D9 {u:bf} {m:MS} {t:Nat} {n:Node} {d:fY} {ab:Nat} {L:ML} {H:Hp} {nx:Nat} (h:qG u m t n d ab L H) (hlt:∀y∈ab::L.all,y<nx) (ht:t<m.bj.length) (hl:m.bj.length≤8) (hs:0≤n.slot∧n.slot<(m.bj.getD t []).length) (hva:kj m t n.a) (hvb:dO n.op=true→kj m t n.b) (hop:0≤n.op∧n.op<19):
 cD Tryz.prog 82 [.pt ab 1 0 0] H nx (fun r H' k=>r=i64 n.next∧pk u (m.fS t n.slot (m.wz t n)) t n { d with word:=m.wz t n } ab L H nx H' k):=by
 have hfr:∀(v:jd) (H1:Hp),(∀y∈ab::L.all,bd H1 y=bd H y)→[.pt ab 1 0 0,v.av].map (cO.dR H1 6)=[kn u m t n d,v.av]:=fun v H1 h1=>by
  rw[List.map_cons,List.map_cons,List.map_nil,(h.cE h1).dR,dB _ (show bx 0 v.av by simp[bx])]
 have h0:=h
 obtain⟨hM,⟨dd,ra⟩,hout⟩:=h
 obtain⟨⟨a1,a2,a3,a4,a5,b1,b2,b3,b4,c1,c2,c3,e1',e2',f1⟩,n1,n2,n3,n4,n5,n6⟩:=apart hM ht
 have hmem:=hM.mem
 have k0:=hlt ab (by simp)
 have km:=hlt L.mr (by simp)
 have ke:=hlt L.me (List.mem_cons_of_mem _ (hmem _ (by simp)))
 have kh:=hlt L.ho (List.mem_cons_of_mem _ (hmem _ (by simp)))
 have kp:=hlt L.pr (List.mem_cons_of_mem _ (hmem _ (by simp)))
 have o1:=ct hout (List.mem_cons_self (a:=L.mr))
 have o2:=ct hout (hmem L.me (by simp))
 have o3:=ct hout (hmem L.ho (by simp))
 have o4:=ct hout (hmem L.pr (by simp))
 clear a1 a2 a4 b1 b2 b3 b4 c1 c2 c3 e1' e2' f1 n1 n2 n3 n4 n5 n6
 obtain⟨d1,r1⟩:=hM.rM
 obtain⟨d3,r4⟩:=hM.rE
 obtain⟨d5,r5⟩:=hM.rH
 obtain⟨d6,r6⟩:=hM.rP
 have q1:(m.mem.map i64).length=m.mem.length:=by simp
 have q2:(m.hold.map i64).length=m.hold.length:=by simp
 have q3:(m.bh.map cL.av).length=m.bh.length:=by simp
 have c0:=eQ n.op hop.1
 unfold MS.wz
 cases h2:dO n.op with
 |true=>
  rw[h2] at c0
  have c1:=IQ n.op (m.val t n.a) (m.val t n.b) h2
  have hvb:=hvb h2
  rw[if_pos rfl]
  refine aQ wR rfl ?_
  refine cM ?_
  refine aT (gW u m n d n.a ht hl hva) (hfr n.a _ ?_) (by simp[cN,bx]) trivial ?_
  ·exact fun y hy=>rfl
  refine cM ?_
  refine aX (ab::L.all) (gW u m n d n.b ht hl hvb) (fun H1 h1=>hfr n.b H1 h1) (by simp[cN,bx]) trivial ?_
  refine Eq.mpr (pQ (ab::L.all) _) (pb ?_)
  refine cM ?_
  refine aJ (jA (u:=u) (t:=t) (n:=n) (d:=d) (L:=L) (m:=m) (ab:=ab) ?_ ?_ ht hl hs _) ?_
  ·exact⟨hM.cE fun y hy=>by have:=ct hout hy;exact bq,⟨_,bg⟩,hout⟩
  ·exact fun y hy=>Nat.lt_of_lt_of_le (hlt y hy) cW
  rintro _ H2 n2 ⟨hA,hn2,hk2⟩
  obtain⟨dd2,ra2⟩:=hA.row
  refine cM ?_
  exact⟨⟨rfl,hA.cE fun y hy=>bq,cW,fun y y1 y2 y3=>Eq.trans bq ((hk2 y (Nat.lt_of_lt_of_le y1 cW) y2 y3).trans bq)⟩⟩
 |false=>
  rw[h2] at c0
  rw[if_neg (by decide)]
  by_cases h0':n.op=0
  ·rw[if_neg (fun e=>e h0')]
   refine aQ wR rfl ?_
   refine cM ?_
   refine aT (gW u m n d n.a ht hl hva) (hfr n.a _ ?_) (by simp[cN,bx]) trivial ?_
   ·exact fun y hy=>rfl
   refine cM ?_
   refine aJ (jA (u:=u) (t:=t) (n:=n) (d:=d) (L:=L) (m:=m) (ab:=ab) ?_ ?_ ht hl hs _) ?_
   ·exact⟨hM.cE fun y hy=>by have:=ct hout hy;exact bq,⟨_,bg⟩,hout⟩
   ·exact fun y hy=>Nat.lt_of_lt_of_le (hlt y hy) cW
   rintro _ H2 n2 ⟨hA,hn2,hk2⟩
   obtain⟨dd2,ra2⟩:=hA.row
   refine cM ?_
   exact⟨⟨rfl,hA.cE fun y hy=>bq,cW,fun y y1 y2 y3=>Eq.trans bq ((hk2 y (Nat.lt_of_lt_of_le y1 cW) y2 y3).trans bq)⟩⟩
  ·rw[if_pos h0']
   have c1:=EV n.op (m.val t n.a) (by unfold dO at h2;simp only[Bool.and_eq_false_iff,decide_eq_false_iff_not] at h2;omega)
   refine aQ wR rfl ?_
   refine cM ?_
   refine aT (gW u m n d n.a ht hl hva) (hfr n.a _ ?_) (by simp[cN,bx]) trivial ?_
   ·exact fun y hy=>rfl
   refine cM ?_
   refine aJ (jA (u:=u) (t:=t) (n:=n) (d:=d) (L:=L) (m:=m) (ab:=ab) ?_ ?_ ht hl hs _) ?_
   ·exact⟨hM.cE fun y hy=>by have:=ct hout hy;exact bq,⟨_,bg⟩,hout⟩
   ·exact fun y hy=>Nat.lt_of_lt_of_le (hlt y hy) cW
   rintro _ H2 n2 ⟨hA,hn2,hk2⟩
   obtain⟨dd2,ra2⟩:=hA.row
   refine cM ?_
   exact⟨⟨rfl,hA.cE fun y hy=>bq,cW,fun y y1 y2 y3=>Eq.trans bq ((hk2 y (Nat.lt_of_lt_of_le y1 cW) y2 y3).trans bq)⟩⟩
end Go.Proofs.YtekfmjjmihomlaaGreat
end
