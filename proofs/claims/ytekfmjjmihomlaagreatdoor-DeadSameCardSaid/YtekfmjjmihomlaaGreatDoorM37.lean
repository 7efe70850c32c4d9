import Derived.Test.YtekfmjjmihomlaaGreatDoorM36
namespace Go.Proofs.YtekfmjjmihomlaaGreatDoor
open Go Go.cw Go.Proofs
set_option linter.unusedSimpArgs false
set_option linter.unusedVariables false
set_option maxRecDepth 8000
set_option maxHeartbeats 2000000
section
theorem vD (n:Int):eW (yT n):=by unfold eW yT;rw[IntKind.wrap_i64];omega
theorem VT {p:Prop} [Decidable p] {a b:Int} (h1:eW a) (h2:eW b):eW (if p then a else b):=by
 split
 ·exact h1
 ·exact h2
theorem UQ (t:Bool):eW (tr t):=by unfold tr eW;split<;>omega
theorem TJ {a:Int} (h:eW a) (b:Int):eW (TI a b):=by
 unfold TI
 have hd:(1:Int)<=2^(min (LS b).toNat 64):=Int.le_of_lt_add_one (by have:(0:Int)<2^(min (LS b).toNat 64):=Int.pow_pos (by omega);omega)
 generalize (2:Int)^(min (LS b).toNat 64)=d at *
 rw[Int.fdiv_eq_ediv_of_nonneg _ (by omega)]
 have h1:=Int.mul_ediv_add_emod a d
 have h2:=Int.emod_nonneg a (b:=d) (by omega)
 have h3:=Int.emod_lt_of_pos a (b:=d) (by omega)
 obtain⟨h4,h5⟩:=h
 generalize a /d=q at *
 generalize a%d=r at *
 constructor
 ·apply Int.not_lt.1
  intro hq
  have:d * (q+1)<=1 * (q+1):=Int.mul_le_mul_of_nonpos_right hd (by omega)
  rw[Int.mul_add] at this
  omega
 ·apply Int.not_le.1
  intro hq
  have:1 * q<=d * q:=Int.mul_le_mul_of_nonneg_right hd (by omega)
  omega
theorem TZ {a b:Int} (ha:eW a) (op:Int):eW (TY op a b):=by
 have hq:eW (J4 a b):=by
  unfold J4
  split
  ·exact⟨by omega,by omega⟩
  ·split
   ·exact vD _
   ·exact vD _
 have hm:eW (P4 a b):=by
  unfold P4
  split
  ·exact ha
  ·exact vD _
 unfold TY
 repeat' (with_reducible refine VT ?_ ?_)
 all_goals first
  |exact UQ _
  |exact TJ ha _
  |exact hq
  |exact hm
  |exact vD _
theorem S5 (op a:Int):eW (S4 op a):=by
 unfold S4
 split
 ·exact vD _
 ·exact UQ _
theorem getD_none {α:Type} {l:List α} {k:Nat} {d:α} (h:l.length<=k):l.getD k d=d:=by simp[List.getD,List.getElem?_eq_none h]
section
variable {u:bq} {m:MS} {t:Nat}
theorem TL (h:ep u m) (ht:t<u.br.length) (k:Nat):eW ((m.bw.getD t []).getD k 0):=by
 by_cases hk:k<(m.bw.getD t []).length
 ·exact h.E9 t ht _ (cR 0 hk)
 ·rw[getD_none (Nat.le_of_not_lt hk)]
  exact⟨by omega,by omega⟩
theorem FL (h:ep u m) (ht:t<u.br.length) {v:kq} (hv:v.Wf):eW (m.val t v):=by
 unfold MS.val
 split
 ·exact TL h ht _
 ·exact hv.word
theorem TH (h:ep u m) (ht:t<u.br.length) {n:Node} (hn:n.Wf):eW (m.mS t n):=by
 unfold MS.mS
 split
 ·exact TZ (FL h ht hn.a) _
 ·split
  ·exact S5 _ _
  ·exact FL h ht hn.a
theorem oz {α:Type} {l:List α} {i:Nat} {a x:α} (h:x∈l.set i a):x∈l\/x=a:=by
 rcases List.mem_or_eq_of_mem_set h with h|h
 ·exact .inl h
 ·exact .inr h
theorem getD_set_ne {α:Type} {l:List α} {i j:Nat} {v d:α} (h:i≠j):(l.set i v).getD j d=l.getD j d:=by simp[List.getD,List.getElem?_set_ne h]
theorem ep.fS (h:ep u m) (k w:Int) (hw:eW w):ep u (m.fS t k w) where
 mK:=h.mK
 iL:=h.iL
 sl:=by simp only[MS.fS,List.length_set];exact h.sl
 yS:=fun s hs=>by
  simp only[MS.fS]
  by_cases e:t=s
  ·subst e
   rw[gC (by rw[h.sl];exact hs),List.length_set]
   exact h.yS t hs
  ·rw[getD_set_ne e];exact h.yS s hs
 E9:=fun s hs x hx=>by
  simp only[MS.fS] at hx
  by_cases e:t=s
  ·subst e
   rw[gC (by rw[h.sl];exact hs)] at hx
   rcases oz hx with hx|rfl
   ·exact h.E9 t hs x hx
   ·exact hw
  ·rw[getD_set_ne e] at hx;exact h.E9 s hs x hx
 ml:=h.ml
 mw:=h.mw
 hl:=h.hl
 hw:=h.hw
 pw:=h.pw
theorem ep.mem (h:ep u m) (k:Nat) (w:Int) (hw:eW w):ep u { m with mem:=m.mem.set k w } where
 mK:=h.mK
 iL:=h.iL
 sl:=h.sl
 yS:=h.yS
 E9:=h.E9
 ml:=by simp only[List.length_set];exact h.ml
 mw:=fun x hx=>by
  rcases oz hx with hx|rfl
  ·exact h.mw x hx
  ·exact hw
 hl:=h.hl
 hw:=h.hw
 pw:=h.pw
theorem ep.hold (h:ep u m) (k:Nat) (w:Int) (hw:-1<=w/\w<u.br.length):ep u { m with hold:=m.hold.set k w } where
 mK:=h.mK
 iL:=h.iL
 sl:=h.sl
 yS:=h.yS
 E9:=h.E9
 ml:=h.ml
 mw:=h.mw
 hl:=by simp only[List.length_set];exact h.hl
 hw:=fun x hx=>by
  rcases oz hx with hx|rfl
  ·exact h.hw x hx
  ·exact hw
 pw:=h.pw
theorem ep.print (h:ep u m) (p:cy) (hp:0<=p.cn/\p.cn<u.br.length/\eW p.word):ep u { m with cC:=m.cC++[p] } where
 mK:=h.mK
 iL:=h.iL
 sl:=h.sl
 yS:=h.yS
 E9:=h.E9
 ml:=h.ml
 mw:=h.mw
 hl:=h.hl
 hw:=h.hw
 pw:=fun x hx=>by
  rcases List.mem_append.1 hx with hx|hx
  ·exact h.pw x hx
  ·simp only[List.mem_cons,List.not_mem_nil,or_false] at hx
   subst hx;exact hp
theorem ep.Y4 (h:ep u m) (k:Int) (hk:t<u.br.length->0<=k/\k<(u.gr t).nodes.length):ep u { m with at_:=m.at_.set t k } where
 mK:=by simp only[List.length_set];exact h.mK
 iL:=fun s hs=>by
  by_cases e:t=s
  ·subst e
   dsimp only
   rw[gC (by rw[h.mK];exact hs)]
   exact hk hs
  ·dsimp only
   rw[getD_set_ne e];exact h.iL s hs
 sl:=h.sl
 yS:=h.yS
 E9:=h.E9
 ml:=h.ml
 mw:=h.mw
 hl:=h.hl
 hw:=h.hw
 pw:=h.pw
theorem jH (h:ep u m) (ht:t<u.br.length) (hb:m.l3 u t=0):(m.node u t).kind≠9/\¬((m.node u t).kind=5/\0<=m.hold.getD (m.node u t).cB.toNat 0):=by
 unfold MS.l3 at hb
 rw[if_neg (by have:=h.mK;omega),Int.toNat_natCast] at hb
 refine⟨fun e=> ?_,fun e=> ?_⟩
 ·rw[if_pos e] at hb;cases hb
 ·rw[if_neg (by omega)] at hb
  rw[if_pos e] at hb
  cases hb
theorem GV (hu:u.Wf) (h:ep u m) (ht:t<u.br.length):(m.node u t).Wf:=by
 have h1:=h.iL t ht
 exact(hu.br _ (cR default ht)).nodes _ (cR default (show(m.at_.getD t 0).toNat<(u.gr t).nodes.length by omega))
theorem U8 (hu:u.Wf) (hr:cN u) (h:ep u m) (ht:t<u.br.length):ep u (m.act t (m.node u t)).1:=by
 have hn:=h.node hr ht
 have hw:=GV hu h ht
 have hst:=TH h ht hw
 have hva:=FL h ht hw.a
 have hmw:eW (m.mem.getD (m.node u t).cB.toNat 0):=by
  by_cases hk:(m.node u t).cB.toNat<m.mem.length
  ·exact h.mw _ (cR 0 hk)
  ·rw[getD_none (Nat.le_of_not_lt hk)];exact⟨by omega,by omega⟩
 generalize m.node u t=n at *
 unfold MS.act
 split
 ·exact h.fS _ _ hst
 split
 ·exact h.fS _ _ hmw
 split
 ·exact h.mem _ _ hva
 split
 ·exact(h.fS (t:=t) n.slot _ hmw).mem _ _ hva
 split
 ·exact h.hold _ _ ⟨by omega,by omega⟩
 split
 ·exact h.hold _ _ ⟨by omega,by omega⟩
 split
 ·exact h.print _ ⟨by dsimp only;omega,by dsimp only;omega,hva⟩
 ·exact h
theorem K2 (hr:cN u) (h:ep u m) (ht:t<u.br.length) (hk:(m.node u t).kind≠9):0<=(m.act t (m.node u t)).2.1/\(m.act t (m.node u t)).2.1<(u.gr t).nodes.length:=by
 have hn:=h.node hr ht
 generalize m.node u t=n at *
 have hkd:=hn.kind
 have hnx:=hn.next.1 (by unfold fK;exact decide_eq_true (by omega))
 unfold MS.act
 repeat' split
 all_goals first
  |exact hnx
  |exact hn.iu.1 (by omega)
theorem nz (hu:u.Wf) (hr:cN u) (h:ep u m) (ht:t<u.br.length) (hk:(m.node u t).kind≠9):ep u (m.step u t).1:=by
 have h1:=U8 hu hr h ht
 have h2:=K2 hr h ht hk
 have h3:(m.step u t).1={ (m.act t (m.node u t)).1 with at_:=m.at_.set t (m.act t (m.node u t)).2.1 }:=rfl
 have h4:(m.act t (m.node u t)).1.at_=m.at_:=by
  unfold MS.act
  repeat' split
  all_goals rfl
 rw[h3,<-h4]
 exact h1.Y4 _ fun _=>h2
end
end
section
structure ML where
 mr:Nat
 a:Nat
 s:Nat
 me:Nat
 ho:Nat
 pr:Nat
 ids:List Nat
abbrev ML.all (L:ML):List Nat:=L.mr::L.a::L.s::L.me::L.ho::L.pr::L.ids
abbrev ML.it (L:ML) (t:Nat):Nat:=L.ids.getD t 0
abbrev ML.At (L:ML) (u:bq) (m:MS) (H:Hp):Prop:=WW u m L.mr L.a L.s L.me L.ho L.pr L.ids H
theorem WW.IQ {u:bq} {m:MS} {mr a s me ho pr:Nat} {ids:List Nat} {H:Hp} (h:WW u m mr a s me ho pr ids H) (k:Nat):cw.dj H (k+4) (.pt mr 1 0 0)=m.fz u:=by
 obtain⟨d1,h1⟩:=h.rM
 obtain⟨d2,h2⟩:=h.rA
 obtain⟨d3,h3⟩:=h.rS
 obtain⟨d4,h4⟩:=h.rE
 obtain⟨d5,h5⟩:=h.rH
 obtain⟨d6,h6⟩:=h.rP
 have hsl:(ef ids m.bw).length=m.bw.length:=by unfold ef;rw[List.length_map,List.length_zip,h.len];simp
 have hs:(ef ids m.bw).map (cw.dj H (k+1))=m.bw.map de:=by
  apply List.ext_getElem (by simp[hsl])
  intro t q1 q2
  have ht:t<m.bw.length:=by simpa using q2
  have hti:t<ids.length:=by rw[h.len];exact ht
  obtain⟨d,hd⟩:=h.rL t ht
  rw[show ids.getD t 0=ids[t] by simp[List.getD,hti],show m.bw.getD t []=m.bw[t] by simp[List.getD,ht]] at hd
  rw[List.getElem_map,List.getElem_map]
  simp only[ef,List.getElem_map,List.getElem_zip]
  rw[dv hd (by simp),cu _ ((cI _ _).2 fun _ _=>by simp[cF])]
 simp only[cw.dj,h1]
 simp only[List.length_cons,List.length_nil,if_true,List.map_cons,List.map_nil,MS.rows]
 rw[pc]
 simp only[List.map_cons,List.map_nil]
 rw[dv h2 (by simp),dv h3 hsl,dv h4 (by simp),dv h5 (by simp),dv h6 (by simp),hs]
 rw[cu _ ((cI _ _).2 fun _ _=>by simp[cF]),cu _ ((cI _ _).2 fun _ _=>by simp[cF]),cu _ ((cI _ _).2 fun _ _=>by simp[cF]),cu _ ((cI _ _).2 fun _ _=>by simp[cF])]
 rw[dG _ (show cF 0 (cg u.shared) by simp[cF,cI]),dG _ (show cF 0 (cg u.cE) by simp[cF,cI]),dG _ (show cF 0 (dS u.br) by simp[cF,cI])]
 rfl
section
variable {u:bq} {m:MS} {L:ML} {H H':Hp}
theorem nU {p:Prop} (h:p:=by first|assumption|(refine Ne.symm ?_;assumption)):p:=h
theorem ML.At.mem (h:L.At u m H):(∀x∈[L.a,L.s,L.me,L.ho,L.pr],x∈L.all):=by
 intro x hx
 simp only[List.mem_cons,List.not_mem_nil,or_false] at hx
 simp only[ML.all,List.mem_cons]
 omega
theorem lp (h:L.At u m H) {t:Nat} (ht:t<m.bw.length):L.it t∈L.all:=by
 have:L.it t∈L.ids:=e9 (by rw[h.len];exact ht)
 simp only[ML.all,List.mem_cons]
 exact .inr (.inr (.inr (.inr (.inr (.inr this)))))
theorem XW (h:L.At u m H) {t s:Nat} (ht:t<m.bw.length) (hs:s<m.bw.length) (e:s≠t):L.it s≠L.it t:=by
 have h1:=(List.nodup_cons.1 (List.nodup_cons.1 (List.nodup_cons.1 (List.nodup_cons.1 (List.nodup_cons.1 (List.nodup_cons.1 h.nodup).2).2).2).2).2).2
 have hl:=h.len
 intro he
 have ht':t<L.ids.length:=by omega
 have hs':s<L.ids.length:=by omega
 have:L.ids[s]=L.ids[t]:=by simpa[ML.it,List.getD,ht',hs'] using he
 exact e ((List.getElem_inj h1).1 this)
structure ML.W6 (L:ML) (t:Nat):Prop where
 ne:L.mr≠L.a/\L.mr≠L.s/\L.mr≠L.me/\L.mr≠L.ho/\L.mr≠L.pr/\L.a≠L.s/\L.a≠L.me/\L.a≠L.ho/\L.a≠L.pr/\L.s≠L.me/\L.s≠L.ho/\L.s≠L.pr/\L.me≠L.ho/\L.me≠L.pr/\L.ho≠L.pr
 it:L.it t≠L.mr/\L.it t≠L.a/\L.it t≠L.s/\L.it t≠L.me/\L.it t≠L.ho/\L.it t≠L.pr
theorem apart (h:L.At u m H) {t:Nat} (ht:t<m.bw.length):L.W6 t:=by
 have hn:=h.nodup
 have hi:L.it t∈L.ids:=e9 (by rw[h.len];exact ht)
 have hne:∀x,x∉L.ids->L.it t≠x:=fun x hx e=>hx (e▸hi)
 simp only[List.nodup_cons,List.mem_cons,not_or] at hn
 obtain⟨⟨a1,a2,a3,a4,a5,a6⟩,⟨b1,b2,b3,b4,b5⟩,⟨c1,c2,c3,c4⟩,⟨d1,d2,d3⟩,⟨e1,e2⟩,f1,_⟩:=hn
 exact⟨⟨a1,a2,a3,a4,a5,b1,b2,b3,b4,c1,c2,c3,d1,d2,e1⟩,hne _ a6,hne _ b5,hne _ c4,hne _ d3,hne _ e2,hne _ f1⟩
theorem ML.At.keep (h:L.At u m H) (hk:∀y∈L.all,bo H' y=bo H y):L.At u m H':=by
 have hm:=h.mem
 obtain⟨d1,h1⟩:=h.rM
 obtain⟨d2,h2⟩:=h.rA
 obtain⟨d3,h3⟩:=h.rS
 obtain⟨d4,h4⟩:=h.rE
 obtain⟨d5,h5⟩:=h.rH
 obtain⟨d6,h6⟩:=h.rP
 refine⟨⟨d1,(hk _ (by simp)).trans h1⟩,⟨d2,(hk _ (hm _ (by simp))).trans h2⟩,⟨d3,(hk _ (hm _ (by simp))).trans h3⟩,fun t ht=> ?_,⟨d4,(hk _ (hm _ (by simp))).trans h4⟩,⟨d5,(hk _ (hm _ (by simp))).trans h5⟩,⟨d6,(hk _ (hm _ (by simp))).trans h6⟩,h.len,h.nodup⟩
 obtain⟨d,hd⟩:=h.rL t ht
 exact⟨d,(hk _ (lp h ht)).trans hd⟩
theorem ML.At.fS (h:L.At u m H) {t:Nat} (ht:t<m.bw.length) (k w:Int) (hit:∃d,bo H' (L.it t)=some (.row 2 1 d (((m.bw.getD t []).map i64).set k.toNat (i64 w)))) (hk:∀y∈L.all,y≠L.it t->bo H' y=bo H y):L.At u (m.fS t k w) H':=by
 obtain⟨-,n1,n2,n3,n4,n5,n6⟩:=apart h ht
 have hm:=h.mem
 obtain⟨d1,h1⟩:=h.rM
 obtain⟨d2,h2⟩:=h.rA
 obtain⟨d3,h3⟩:=h.rS
 obtain⟨d4,h4⟩:=h.rE
 obtain⟨d5,h5⟩:=h.rH
 obtain⟨d6,h6⟩:=h.rP
 have hl:(m.fS t k w).bw.length=m.bw.length:=by simp[MS.fS]
 have hrow:ef L.ids (m.fS t k w).bw=ef L.ids m.bw:=by
  unfold ef MS.fS
  apply List.ext_getElem (by simp)
  intro i q1 q2
  simp only[List.getElem_map,List.getElem_zip,AV.sl.injEq,true_and]
  rw[List.getElem_set]
  have hi:i<m.bw.length:=by simp at q2;omega
  split
  ·rename_i e;subst e;rw[List.length_set];simp[List.getD,hi]
  ·rfl
 refine⟨⟨d1, ?_⟩,⟨d2,(hk _ (hm _ (by simp)) nU).trans h2⟩,⟨d3,by rw[hrow];exact(hk _ (hm _ (by simp)) nU).trans h3⟩,fun s hs=> ?_,⟨d4,(hk _ (hm _ (by simp)) nU).trans h4⟩,⟨d5,(hk _ (hm _ (by simp)) nU).trans h5⟩,⟨d6,(hk _ (hm _ (by simp)) nU).trans h6⟩,by rw[hl];exact h.len,h.nodup⟩
 ·rw[show(m.fS t k w).rows u L.a L.s L.me L.ho L.pr=m.rows u L.a L.s L.me L.ho L.pr by simp[MS.rows,MS.fS]]
  exact(hk _ (by simp) nU).trans h1
 ·rw[hl] at hs
  by_cases e:s=t
  ·subst e
   obtain⟨d,hd⟩:=hit
   refine⟨d,hd.trans ?_⟩
   rw[show(m.fS s k w).bw.getD s []=(m.bw.getD s []).set k.toNat w from gC hs,List.map_set]
  ·obtain⟨d,hd⟩:=h.rL s hs
   refine⟨d, ?_⟩
   rw[show(m.fS t k w).bw.getD s []=m.bw.getD s [] from getD_set_ne (Ne.symm e)]
   exact(hk _ (lp h hs) (XW h ht hs e)).trans hd
theorem ML.At.jx (h:L.At u m H) {t:Nat} (ht:t<m.bw.length) (k w:Int) (hme:∃d,bo H' L.me=some (.row 2 1 d ((m.mem.map i64).set k.toNat (i64 w)))) (hk:∀y∈L.all,y≠L.me->bo H' y=bo H y):L.At u { m with mem:=m.mem.set k.toNat w } H':=by
 obtain⟨⟨a1,a2,a3,a4,a5,b1,b2,b3,b4,c1,c2,c3,e1,e2,f1⟩,n1,n2,n3,n4,n5,n6⟩:=apart h ht
 have hm:=h.mem
 obtain⟨d1,h1⟩:=h.rM
 obtain⟨d2,h2⟩:=h.rA
 obtain⟨d3,h3⟩:=h.rS
 obtain⟨d4,h4⟩:=hme
 obtain⟨d5,h5⟩:=h.rH
 obtain⟨d6,h6⟩:=h.rP
 refine⟨⟨d1, ?_⟩,⟨d2,(hk _ (hm _ (by simp)) nU).trans h2⟩,⟨d3,(hk _ (hm _ (by simp)) nU).trans h3⟩,fun s hs=> ?_,⟨d4,by rw[List.map_set];exact h4⟩,⟨d5,(hk _ (hm _ (by simp)) nU).trans h5⟩,⟨d6,(hk _ (hm _ (by simp)) nU).trans h6⟩,h.len,h.nodup⟩
 ·rw[show({ m with mem:=m.mem.set k.toNat w }:MS).rows u L.a L.s L.me L.ho L.pr=m.rows u L.a L.s L.me L.ho L.pr by simp[MS.rows]]
  exact(hk _ (by simp) nU).trans h1
 ·obtain⟨d,hd⟩:=h.rL s hs
  obtain⟨m1,m2,m3,m4,m5,m6⟩:=(apart h hs).it
  exact⟨d,(hk _ (lp h hs) nU).trans hd⟩
theorem ML.At.UH (h:L.At u m H) {t:Nat} (ht:t<m.bw.length) (k w:Int) (hho:∃d,bo H' L.ho=some (.row 3 1 d ((m.hold.map i64).set k.toNat (i64 w)))) (hk:∀y∈L.all,y≠L.ho->bo H' y=bo H y):L.At u { m with hold:=m.hold.set k.toNat w } H':=by
 obtain⟨⟨a1,a2,a3,a4,a5,b1,b2,b3,b4,c1,c2,c3,e1,e2,f1⟩,n1,n2,n3,n4,n5,n6⟩:=apart h ht
 have hm:=h.mem
 obtain⟨d1,h1⟩:=h.rM
 obtain⟨d2,h2⟩:=h.rA
 obtain⟨d3,h3⟩:=h.rS
 obtain⟨d4,h4⟩:=h.rE
 obtain⟨d5,h5⟩:=hho
 obtain⟨d6,h6⟩:=h.rP
 refine⟨⟨d1, ?_⟩,⟨d2,(hk _ (hm _ (by simp)) nU).trans h2⟩,⟨d3,(hk _ (hm _ (by simp)) nU).trans h3⟩,fun s hs=> ?_,⟨d4,(hk _ (hm _ (by simp)) nU).trans h4⟩,⟨d5,by rw[List.map_set];exact h5⟩,⟨d6,(hk _ (hm _ (by simp)) nU).trans h6⟩,h.len,h.nodup⟩
 ·rw[show({ m with hold:=m.hold.set k.toNat w }:MS).rows u L.a L.s L.me L.ho L.pr=m.rows u L.a L.s L.me L.ho L.pr by simp[MS.rows]]
  exact(hk _ (by simp) nU).trans h1
 ·obtain⟨d,hd⟩:=h.rL s hs
  obtain⟨m1,m2,m3,m4,m5,m6⟩:=(apart h hs).it
  exact⟨d,(hk _ (lp h hs) nU).trans hd⟩
theorem ML.At.Y4 (h:L.At u m H) {t:Nat} (ht:t<m.bw.length) (k:Nat) (w:Int) (hat:∃d,bo H' L.a=some (.row 3 1 d ((m.at_.map i64).set k (i64 w)))) (hk:∀y∈L.all,y≠L.a->bo H' y=bo H y):L.At u { m with at_:=m.at_.set k w } H':=by
 obtain⟨⟨a1,a2,a3,a4,a5,b1,b2,b3,b4,c1,c2,c3,e1,e2,f1⟩,n1,n2,n3,n4,n5,n6⟩:=apart h ht
 have hm:=h.mem
 obtain⟨d1,h1⟩:=h.rM
 obtain⟨d2,h2⟩:=hat
 obtain⟨d3,h3⟩:=h.rS
 obtain⟨d4,h4⟩:=h.rE
 obtain⟨d5,h5⟩:=h.rH
 obtain⟨d6,h6⟩:=h.rP
 refine⟨⟨d1, ?_⟩,⟨d2,by rw[List.map_set];exact h2⟩,⟨d3,(hk _ (hm _ (by simp)) nU).trans h3⟩,fun s hs=> ?_,⟨d4,(hk _ (hm _ (by simp)) nU).trans h4⟩,⟨d5,(hk _ (hm _ (by simp)) nU).trans h5⟩,⟨d6,(hk _ (hm _ (by simp)) nU).trans h6⟩,h.len,h.nodup⟩
 ·rw[show({ m with at_:=m.at_.set k w }:MS).rows u L.a L.s L.me L.ho L.pr=m.rows u L.a L.s L.me L.ho L.pr by simp[MS.rows]]
  exact(hk _ (by simp) nU).trans h1
 ·obtain⟨d,hd⟩:=h.rL s hs
  obtain⟨m1,m2,m3,m4,m5,m6⟩:=(apart h hs).it
  exact⟨d,(hk _ (lp h hs) nU).trans hd⟩
theorem ML.At.V5 (h:L.At u m H) {t:Nat} (ht:t<m.bw.length) (p:cy) (hmr:∃d,bo H' L.mr=some (.row 135 8 d [({ m with cC:=m.cC++[p] }:MS).rows u L.a L.s L.me L.ho L.pr])) (hpr:∃d,bo H' L.pr=some (.row 102 2 d (m.cC.map cy.av++[p.av]))) (hk:∀y∈L.all,y≠L.pr->y≠L.mr->bo H' y=bo H y):L.At u { m with cC:=m.cC++[p] } H':=by
 obtain⟨⟨a1,a2,a3,a4,a5,b1,b2,b3,b4,c1,c2,c3,e1,e2,f1⟩,n1,n2,n3,n4,n5,n6⟩:=apart h ht
 have hm:=h.mem
 obtain⟨d2,h2⟩:=h.rA
 obtain⟨d3,h3⟩:=h.rS
 obtain⟨d4,h4⟩:=h.rE
 obtain⟨d5,h5⟩:=h.rH
 obtain⟨d6,h6⟩:=hpr
 refine⟨hmr,⟨d2,(hk _ (hm _ (by simp)) nU nU).trans h2⟩,⟨d3,(hk _ (hm _ (by simp)) nU nU).trans h3⟩,fun s hs=> ?_,⟨d4,(hk _ (hm _ (by simp)) nU nU).trans h4⟩,⟨d5,(hk _ (hm _ (by simp)) nU nU).trans h5⟩,⟨d6,by rw[List.map_append];exact h6⟩,h.len,h.nodup⟩
 obtain⟨d,hd⟩:=h.rL s hs
 obtain⟨m1,m2,m3,m4,m5,m6⟩:=(apart h hs).it
 exact⟨d,(hk _ (lp h hs) nU nU).trans hd⟩
end
end
def AC (x:AV) (t:Int) (n:Node) (d:iU):List AV:=[x,i64 t,u8 n.kind,u8 n.op,i64 n.slot,i64 n.cB,bl n.a.ee,i64 n.a.slot,i64 n.a.word,bl n.b.ee,i64 n.b.slot,i64 n.b.word,i64 n.next,i64 n.iu,i64 n.origin,i64 d.cn,i64 d.node,u8 d.kind,i64 d.cB,i64 d.word,i64 d.put]
abbrev oH (u:bq) (m:MS) (t:Int) (n:Node) (d:iU):AV:= .ip 21 .any [.agg (AC (m.fz u) t n d)] 0 0
@[simp] theorem Y9 (k:Nat) (u:bq) (m:MS) (t:Int) (n:Node) (d:iU):cT k (AC (m.fz u) t n d):=by
  simp[cF,cT,AC]
structure vd (u:bq) (m:MS) (t:Nat) (n:Node) (d:iU) (ab:Nat) (L:ML) (H:Hp):Prop where
 M:L.At u m H
 row:∃dd,bo H ab=some (.row 151 21 dd [.agg (AC (.pt L.mr 1 0 0) t n d)])
 out:ab∉L.all
theorem vd.dj {u:bq} {m:MS} {t:Nat} {n:Node} {d:iU} {ab:Nat} {L:ML} {H:Hp} (h:vd u m t n d ab L H):cw.dj H 6 (.pt ab 1 0 0)=oH u m t n d:=by
 obtain⟨dd,hr⟩:=h.row
 rw[show cw.dj H 6 (.pt ab 1 0 0)= .ip 21 .any (([.agg (AC (.pt L.mr 1 0 0) t n d)]:List AV).map (cw.dj H 5)) 0 0 from MJ hr rfl]
 simp only[List.map_cons,List.map_nil]
 rw[pc]
 simp only[AC,List.map_cons,List.map_nil]
 have:=h.M.IQ 0
 rw[this]
 simp only[cw.dj]
 rfl
theorem vd.keep {u:bq} {m:MS} {t:Nat} {n:Node} {d:iU} {ab:Nat} {L:ML} {H H':Hp} (h:vd u m t n d ab L H) (hk:∀y∈ab::L.all,bo H' y=bo H y):vd u m t n d ab L H':=by
 obtain⟨dd,hr⟩:=h.row
 exact⟨h.M.keep fun y hy=>hk y (List.mem_cons_of_mem _ hy),⟨dd,(hk ab (by simp)).trans hr⟩,h.out⟩
def oG (m:MS) (t:Nat) (v:kq):Prop:=v.ee=true->0<=v.slot/\v.slot<(m.bw.getD t []).length
theorem j4 (u:bq) (m:MS) {t:Nat} (n:Node) (d:iU) (v:kq) (ht:t<m.bw.length) (hl:m.bw.length<=8) (hv:oG m t v):Pure Tryz.prog 127 [oH u m t n d,v.av] (fun r=>r=i64 (m.val t v)):=by
 unfold MS.val
 have e0:∀d,(m.bw.map de).getD ((t:Int)).toNat d=de (m.bw.getD t []):=fun d=>by rw[Int.toNat_natCast];exact dN de m.bw t d ht
 have a0:(m.bw.map de).length=m.bw.length:=by simp
 cases hs:v.ee with
 |true=>
  have r0:=hs
  obtain⟨v1,v2⟩:=hv hs
  have a1:((m.bw.getD t []).map i64).length=(m.bw.getD t []).length:=by simp
  have e1:=fun d=>po (l:=m.bw.getD t []) (k:=v.slot) (by omega) d
  rw[if_pos rfl]
  refine aD w6 rfl ?_
  refine cz ?_
  first|exact rfl|trivial
 |false=>
  have r0:=hs
  rw[if_neg (by decide)]
  refine aD w6 rfl ?_
  refine cz ?_
  first|exact rfl|trivial
abbrev vK (u:bq) (m:MS) (t:Nat) (n:Node) (d:iU) (ab:Nat) (L:ML) (H0:Hp) (nx:Nat) (H:Hp) (k:Nat):Prop:=vd u m t n d ab L H/\nx<=k/\∀y,y<nx->y≠ab->y∉L.all->bo H y=bo H0 y
theorem QC {L:ML} {m:MS} {t:Nat} (hl:L.ids.length=m.bw.length) (ht:t<m.bw.length) (d:AV):(ef L.ids m.bw).getD t d= .sl (L.it t) (m.bw.getD t []).length:=by
 have h1:t<L.ids.length:=by omega
 have h2:t<(L.ids.zip m.bw).length:=by rw[List.length_zip];omega
 simp[ef,List.getD,ht,h1,List.getElem?_eq_getElem h2]
theorem wv {L:ML} {m:MS} (hl:L.ids.length=m.bw.length):(ef L.ids m.bw).length=m.bw.length:=by
 unfold ef;rw[List.length_map,List.length_zip,hl];simp
theorem dP {x y:Nat} {l:List Nat} (h:x∉l) (hy:y∈l):y≠x:=fun e=>h (e▸hy)
set_option maxHeartbeats 1000000 in
theorem lF {u:bq} {m:MS} {t:Nat} {n:Node} {d:iU} {ab:Nat} {L:ML} {H:Hp} {nx:Nat} (h:vd u m t n d ab L H) (hlt:∀y∈ab::L.all,y<nx) (ht:t<m.bw.length) (hl:m.bw.length<=8) (hs:0<=n.slot/\n.slot<(m.bw.getD t []).length) (w:Int):
 cQ Tryz.prog 130 [.pt ab 1 0 0,i64 w] H nx (fun _ H' k=>vK u (m.fS t n.slot w) t n { d with word:=w } ab L H nx H' k):=by
 obtain⟨hM,⟨dd,ra⟩,hout⟩:=h
 obtain⟨⟨a1,a2,a3,a4,a5,b1,b2,b3,b4,c1,c2,c3,e1,e2,f1⟩,n1,n2,n3,n4,n5,n6⟩:=apart hM ht
 have hmem:=hM.mem
 have k0:=hlt ab (by simp)
 have km:=hlt L.mr (by simp)
 have ks:=hlt L.s (List.mem_cons_of_mem _ (hmem _ (by simp)))
 have ki:=hlt (L.it t) (List.mem_cons_of_mem _ (lp hM ht))
 have o1:=dP hout (List.mem_cons_self (a:=L.mr))
 have o2:=dP hout (hmem L.s (by simp))
 have o3:=dP hout (lp hM ht)
 obtain⟨d1,r1⟩:=hM.rM
 obtain⟨d3,r3⟩:=hM.rS
 obtain⟨d7,r7⟩:=hM.rL t ht
 have e0:∀d,(ef L.ids m.bw).getD ((t:Int)).toNat d= .sl (L.it t) (m.bw.getD t []).length:=fun d=>by rw[Int.toNat_natCast];exact QC hM.len ht d
 have q0:=wv hM.len
 have q1:((m.bw.getD t []).map i64).length=(m.bw.getD t []).length:=by simp
 obtain⟨hs1,hs2⟩:=hs
 refine aJ AE rfl ?_
 refine cz ?_
 exact⟨⟨hM.fS ht _ _ ⟨_,bt⟩ fun y hy hne=>by have:=dP hout hy;exact bx,⟨_,bt⟩,hout⟩,cU,fun y y1 y2 y3=>by have y4:=dP y3 (lp hM ht);exact bx⟩
theorem JO {u:bq} {m:MS} {t:Nat} {n:Node} {d:iU} {ab:Nat} {L:ML} {H:Hp} {nx:Nat} (h:vd u m t n d ab L H) (hlt:∀y∈ab::L.all,y<nx) (ht:t<m.bw.length) (hl:m.bw.length<=8) (hth:0<=n.cB/\n.cB<m.hold.length):
 cQ Tryz.prog 110 [.pt ab 1 0 0] H nx (fun r H' k=>r=i64 n.next/\vK u { m with hold:=m.hold.set n.cB.toNat t } t n { d with cB:=n.cB } ab L H nx H' k):=by
 have hfr:∀(v:kq) (H1:Hp),(∀y∈ab::L.all,bo H1 y=bo H y)->[.pt ab 1 0 0,v.av].map (cw.dj H1 6)=[oH u m t n d,v.av]:=fun v H1 h1=>by
  rw[List.map_cons,List.map_cons,List.map_nil,(h.keep h1).dj,dG _ (show cF 0 v.av by simp[cF])]
 have h0:=h
 obtain⟨hM,⟨dd,ra⟩,hout⟩:=h
 obtain⟨⟨a1,a2,a3,a4,a5,b1,b2,b3,b4,c1,c2,c3,e1',e2',f1⟩,n1,n2,n3,n4,n5,n6⟩:=apart hM ht
 have hmem:=hM.mem
 have k0:=hlt ab (by simp)
 have km:=hlt L.mr (by simp)
 have ke:=hlt L.me (List.mem_cons_of_mem _ (hmem _ (by simp)))
 have kh:=hlt L.ho (List.mem_cons_of_mem _ (hmem _ (by simp)))
 have kp:=hlt L.pr (List.mem_cons_of_mem _ (hmem _ (by simp)))
 have o1:=dP hout (List.mem_cons_self (a:=L.mr))
 have o2:=dP hout (hmem L.me (by simp))
 have o3:=dP hout (hmem L.ho (by simp))
 have o4:=dP hout (hmem L.pr (by simp))
 clear a1 a2 a4 b1 b2 b3 b4 c1 c2 c3 e1' e2' f1 n1 n2 n3 n4 n5 n6
 obtain⟨d1,r1⟩:=hM.rM
 obtain⟨d3,r4⟩:=hM.rE
 obtain⟨d5,r5⟩:=hM.rH
 obtain⟨d6,r6⟩:=hM.rP
 have q1:(m.mem.map i64).length=m.mem.length:=by simp
 have q2:(m.hold.map i64).length=m.hold.length:=by simp
 have q3:(m.cC.map cy.av).length=m.cC.length:=by simp
 refine aJ zp rfl ?_
 refine cz ?_
 exact⟨⟨rfl,⟨hM.UH ht _ _ ⟨_,bt⟩ fun y hy hne=>by have:=dP hout hy;exact bx,⟨_,bt⟩,hout⟩,cU,fun y y1 y2 y3=>by have y4:=dP y3 (hmem L.ho (by simp));exact bx⟩⟩
theorem CG {u:bq} {m:MS} {t:Nat} {n:Node} {d:iU} {ab:Nat} {L:ML} {H:Hp} {nx:Nat} (h:vd u m t n d ab L H) (hlt:∀y∈ab::L.all,y<nx) (ht:t<m.bw.length) (hl:m.bw.length<=8) (hth:0<=n.cB/\n.cB<m.hold.length):
 cQ Tryz.prog 111 [.pt ab 1 0 0] H nx (fun r H' k=>r=i64 n.next/\vK u { m with hold:=m.hold.set n.cB.toNat (-1) } t n { d with cB:=n.cB } ab L H nx H' k):=by
 have hfr:∀(v:kq) (H1:Hp),(∀y∈ab::L.all,bo H1 y=bo H y)->[.pt ab 1 0 0,v.av].map (cw.dj H1 6)=[oH u m t n d,v.av]:=fun v H1 h1=>by
  rw[List.map_cons,List.map_cons,List.map_nil,(h.keep h1).dj,dG _ (show cF 0 v.av by simp[cF])]
 have h0:=h
 obtain⟨hM,⟨dd,ra⟩,hout⟩:=h
 obtain⟨⟨a1,a2,a3,a4,a5,b1,b2,b3,b4,c1,c2,c3,e1',e2',f1⟩,n1,n2,n3,n4,n5,n6⟩:=apart hM ht
 have hmem:=hM.mem
 have k0:=hlt ab (by simp)
 have km:=hlt L.mr (by simp)
 have ke:=hlt L.me (List.mem_cons_of_mem _ (hmem _ (by simp)))
 have kh:=hlt L.ho (List.mem_cons_of_mem _ (hmem _ (by simp)))
 have kp:=hlt L.pr (List.mem_cons_of_mem _ (hmem _ (by simp)))
 have o1:=dP hout (List.mem_cons_self (a:=L.mr))
 have o2:=dP hout (hmem L.me (by simp))
 have o3:=dP hout (hmem L.ho (by simp))
 have o4:=dP hout (hmem L.pr (by simp))
 clear a1 a2 a4 b1 b2 b3 b4 c1 c2 c3 e1' e2' f1 n1 n2 n3 n4 n5 n6
 obtain⟨d1,r1⟩:=hM.rM
 obtain⟨d3,r4⟩:=hM.rE
 obtain⟨d5,r5⟩:=hM.rH
 obtain⟨d6,r6⟩:=hM.rP
 have q1:(m.mem.map i64).length=m.mem.length:=by simp
 have q2:(m.hold.map i64).length=m.hold.length:=by simp
 have q3:(m.cC.map cy.av).length=m.cC.length:=by simp
 refine aJ zq rfl ?_
 refine cz ?_
 exact⟨⟨rfl,⟨hM.UH ht _ _ ⟨_,bt⟩ fun y hy hne=>by have:=dP hout hy;exact bx,⟨_,bt⟩,hout⟩,cU,fun y y1 y2 y3=>by have y4:=dP y3 (hmem L.ho (by simp));exact bx⟩⟩
theorem yh {u:bq} {m:MS} {t:Nat} {n:Node} {d:iU} {ab:Nat} {L:ML} {H:Hp} {nx:Nat} (h:vd u m t n d ab L H) (hlt:∀y∈ab::L.all,y<nx) (ht:t<m.bw.length) (hl:m.bw.length<=8) (hva:oG m t n.a):
 cQ Tryz.prog 113 [.pt ab 1 0 0] H nx (fun r H' k=>r=i64 (if m.val t n.a=0 then n.iu else n.next)/\vK u m t n { d with word:=m.val t n.a } ab L H nx H' k):=by
 have hfr:∀(v:kq) (H1:Hp),(∀y∈ab::L.all,bo H1 y=bo H y)->[.pt ab 1 0 0,v.av].map (cw.dj H1 6)=[oH u m t n d,v.av]:=fun v H1 h1=>by
  rw[List.map_cons,List.map_cons,List.map_nil,(h.keep h1).dj,dG _ (show cF 0 v.av by simp[cF])]
 have h0:=h
 obtain⟨hM,⟨dd,ra⟩,hout⟩:=h
 obtain⟨⟨a1,a2,a3,a4,a5,b1,b2,b3,b4,c1,c2,c3,e1',e2',f1⟩,n1,n2,n3,n4,n5,n6⟩:=apart hM ht
 have hmem:=hM.mem
 have k0:=hlt ab (by simp)
 have km:=hlt L.mr (by simp)
 have ke:=hlt L.me (List.mem_cons_of_mem _ (hmem _ (by simp)))
 have kh:=hlt L.ho (List.mem_cons_of_mem _ (hmem _ (by simp)))
 have kp:=hlt L.pr (List.mem_cons_of_mem _ (hmem _ (by simp)))
 have o1:=dP hout (List.mem_cons_self (a:=L.mr))
 have o2:=dP hout (hmem L.me (by simp))
 have o3:=dP hout (hmem L.ho (by simp))
 have o4:=dP hout (hmem L.pr (by simp))
 clear a1 a2 a4 b1 b2 b3 b4 c1 c2 c3 e1' e2' f1 n1 n2 n3 n4 n5 n6
 obtain⟨d1,r1⟩:=hM.rM
 obtain⟨d3,r4⟩:=hM.rE
 obtain⟨d5,r5⟩:=hM.rH
 obtain⟨d6,r6⟩:=hM.rP
 have q1:(m.mem.map i64).length=m.mem.length:=by simp
 have q2:(m.hold.map i64).length=m.hold.length:=by simp
 have q3:(m.cC.map cy.av).length=m.cC.length:=by simp
 by_cases hz:m.val t n.a=0
 ·rw[if_pos hz]
  refine aJ w4 rfl ?_
  refine cz ?_
  refine aU (j4 u m n d n.a ht hl hva) (hfr n.a _ ?_) (by simp[cT,cF]) trivial ?_
  ·exact fun y hy=>rfl
  refine cz ?_
  exact⟨⟨rfl,⟨hM.keep fun y hy=>by have:=dP hout hy;exact bx,⟨_,bt⟩,hout⟩,cU,fun y y1 y2 y3=>bx⟩⟩
 ·rw[if_neg hz]
  refine aJ w4 rfl ?_
  refine cz ?_
  refine aU (j4 u m n d n.a ht hl hva) (hfr n.a _ ?_) (by simp[cT,cF]) trivial ?_
  ·exact fun y hy=>rfl
  refine cz ?_
  exact⟨⟨rfl,⟨hM.keep fun y hy=>by have:=dP hout hy;exact bx,⟨_,bt⟩,hout⟩,cU,fun y y1 y2 y3=>bx⟩⟩
theorem JN {u:bq} {m:MS} {t:Nat} {n:Node} {d:iU} {ab:Nat} {L:ML} {H:Hp} {nx:Nat} (h:vd u m t n d ab L H) (hlt:∀y∈ab::L.all,y<nx) (ht:t<m.bw.length) (hl:m.bw.length<=8) (hs:0<=n.slot/\n.slot<(m.bw.getD t []).length) (hth:0<=n.cB/\n.cB<m.mem.length):
 cQ Tryz.prog 107 [.pt ab 1 0 0] H nx (fun r H' k=>r=i64 n.next/\vK u (m.fS t n.slot (m.mem.getD n.cB.toNat 0)) t n { d with cB:=n.cB,word:=m.mem.getD n.cB.toNat 0 } ab L H nx H' k):=by
 have hfr:∀(v:kq) (H1:Hp),(∀y∈ab::L.all,bo H1 y=bo H y)->[.pt ab 1 0 0,v.av].map (cw.dj H1 6)=[oH u m t n d,v.av]:=fun v H1 h1=>by
  rw[List.map_cons,List.map_cons,List.map_nil,(h.keep h1).dj,dG _ (show cF 0 v.av by simp[cF])]
 have h0:=h
 obtain⟨hM,⟨dd,ra⟩,hout⟩:=h
 obtain⟨⟨a1,a2,a3,a4,a5,b1,b2,b3,b4,c1,c2,c3,e1',e2',f1⟩,n1,n2,n3,n4,n5,n6⟩:=apart hM ht
 have hmem:=hM.mem
 have k0:=hlt ab (by simp)
 have km:=hlt L.mr (by simp)
 have ke:=hlt L.me (List.mem_cons_of_mem _ (hmem _ (by simp)))
 have kh:=hlt L.ho (List.mem_cons_of_mem _ (hmem _ (by simp)))
 have kp:=hlt L.pr (List.mem_cons_of_mem _ (hmem _ (by simp)))
 have o1:=dP hout (List.mem_cons_self (a:=L.mr))
 have o2:=dP hout (hmem L.me (by simp))
 have o3:=dP hout (hmem L.ho (by simp))
 have o4:=dP hout (hmem L.pr (by simp))
 clear a1 a2 a4 b1 b2 b3 b4 c1 c2 c3 e1' e2' f1 n1 n2 n3 n4 n5 n6
 obtain⟨d1,r1⟩:=hM.rM
 obtain⟨d3,r4⟩:=hM.rE
 obtain⟨d5,r5⟩:=hM.rH
 obtain⟨d6,r6⟩:=hM.rP
 have q1:(m.mem.map i64).length=m.mem.length:=by simp
 have q2:(m.hold.map i64).length=m.hold.length:=by simp
 have q3:(m.cC.map cy.av).length=m.cC.length:=by simp
 have e0:=fun d=>po (l:=m.mem) (k:=n.cB) (by omega) d
 refine aJ zm rfl ?_
 refine cz ?_
 refine aG (lF (u:=u) (t:=t) (n:=n) (d:={ d with cB:=n.cB }) (L:=L) (m:=m) (ab:=ab) ?_ ?_ ht hl hs _) ?_
 ·exact⟨hM.keep fun y hy=>by have:=dP hout hy;exact bx,⟨_,bt⟩,hout⟩
 ·exact fun y hy=>Nat.lt_of_lt_of_le (hlt y hy) cU
 rintro _ H2 n2 ⟨hA,hn2,hk2⟩
 obtain⟨dd2,ra2⟩:=hA.row
 refine cz ?_
 exact⟨⟨rfl,hA.keep fun y hy=>bx,cU,fun y y1 y2 y3=>Eq.trans bx ((hk2 y (Nat.lt_of_lt_of_le y1 cU) y2 y3).trans bx)⟩⟩
theorem FF {u:bq} {m:MS} {t:Nat} {n:Node} {d:iU} {ab:Nat} {L:ML} {H:Hp} {nx:Nat} (h:vd u m t n d ab L H) (hlt:∀y∈ab::L.all,y<nx) (ht:t<m.bw.length) (hl:m.bw.length<=8) (hva:oG m t n.a) (hth:0<=n.cB/\n.cB<m.mem.length):
 cQ Tryz.prog 108 [.pt ab 1 0 0] H nx (fun r H' k=>r=i64 n.next/\vK u { m with mem:=m.mem.set n.cB.toNat (m.val t n.a) } t n { d with cB:=n.cB,word:=m.val t n.a } ab L H nx H' k):=by
 have hfr:∀(v:kq) (H1:Hp),(∀y∈ab::L.all,bo H1 y=bo H y)->[.pt ab 1 0 0,v.av].map (cw.dj H1 6)=[oH u m t n d,v.av]:=fun v H1 h1=>by
  rw[List.map_cons,List.map_cons,List.map_nil,(h.keep h1).dj,dG _ (show cF 0 v.av by simp[cF])]
 have h0:=h
 obtain⟨hM,⟨dd,ra⟩,hout⟩:=h
 obtain⟨⟨a1,a2,a3,a4,a5,b1,b2,b3,b4,c1,c2,c3,e1',e2',f1⟩,n1,n2,n3,n4,n5,n6⟩:=apart hM ht
 have hmem:=hM.mem
 have k0:=hlt ab (by simp)
 have km:=hlt L.mr (by simp)
 have ke:=hlt L.me (List.mem_cons_of_mem _ (hmem _ (by simp)))
 have kh:=hlt L.ho (List.mem_cons_of_mem _ (hmem _ (by simp)))
 have kp:=hlt L.pr (List.mem_cons_of_mem _ (hmem _ (by simp)))
 have o1:=dP hout (List.mem_cons_self (a:=L.mr))
 have o2:=dP hout (hmem L.me (by simp))
 have o3:=dP hout (hmem L.ho (by simp))
 have o4:=dP hout (hmem L.pr (by simp))
 clear a1 a2 a4 b1 b2 b3 b4 c1 c2 c3 e1' e2' f1 n1 n2 n3 n4 n5 n6
 obtain⟨d1,r1⟩:=hM.rM
 obtain⟨d3,r4⟩:=hM.rE
 obtain⟨d5,r5⟩:=hM.rH
 obtain⟨d6,r6⟩:=hM.rP
 have q1:(m.mem.map i64).length=m.mem.length:=by simp
 have q2:(m.hold.map i64).length=m.hold.length:=by simp
 have q3:(m.cC.map cy.av).length=m.cC.length:=by simp
 refine aJ zn rfl ?_
 refine cz ?_
 refine aW (ab::L.all) (j4 u m n d n.a ht hl hva) (fun H1 h1=>hfr n.a H1 h1) (by simp[cT,cF]) trivial ?_
 refine Eq.mpr (rB (ab::L.all) _) (rN ?_)
 refine cz ?_
 exact⟨⟨rfl,⟨hM.jx ht _ _ ⟨_,bt⟩ fun y hy hne=>by have:=dP hout hy;exact bx,⟨_,bt⟩,hout⟩,cU,fun y y1 y2 y3=>by have y4:=dP y3 (hmem L.me (by simp));exact bx⟩⟩
theorem EO {u:bq} {m:MS} {t:Nat} {n:Node} {d:iU} {ab:Nat} {L:ML} {H:Hp} {nx:Nat} (h:vd u m t n d ab L H) (hlt:∀y∈ab::L.all,y<nx) (ht:t<m.bw.length) (hl:m.bw.length<=8) (hva:oG m t n.a) (hpl:m.cC.length<=1048576):
 cQ Tryz.prog 112 [.pt ab 1 0 0] H nx (fun r H' k=>r=i64 n.next/\vK u { m with cC:=m.cC++[⟨t,m.val t n.a⟩] } t n { d with word:=m.val t n.a } ab L H nx H' k):=by
 have hfr:∀(v:kq) (H1:Hp),(∀y∈ab::L.all,bo H1 y=bo H y)->[.pt ab 1 0 0,v.av].map (cw.dj H1 6)=[oH u m t n d,v.av]:=fun v H1 h1=>by
  rw[List.map_cons,List.map_cons,List.map_nil,(h.keep h1).dj,dG _ (show cF 0 v.av by simp[cF])]
 have h0:=h
 obtain⟨hM,⟨dd,ra⟩,hout⟩:=h
 obtain⟨⟨a1,a2,a3,a4,a5,b1,b2,b3,b4,c1,c2,c3,e1',e2',f1⟩,n1,n2,n3,n4,n5,n6⟩:=apart hM ht
 have hmem:=hM.mem
 have k0:=hlt ab (by simp)
 have km:=hlt L.mr (by simp)
 have ke:=hlt L.me (List.mem_cons_of_mem _ (hmem _ (by simp)))
 have kh:=hlt L.ho (List.mem_cons_of_mem _ (hmem _ (by simp)))
 have kp:=hlt L.pr (List.mem_cons_of_mem _ (hmem _ (by simp)))
 have o1:=dP hout (List.mem_cons_self (a:=L.mr))
 have o2:=dP hout (hmem L.me (by simp))
 have o3:=dP hout (hmem L.ho (by simp))
 have o4:=dP hout (hmem L.pr (by simp))
 clear a1 a2 a4 b1 b2 b3 b4 c1 c2 c3 e1' e2' f1 n1 n2 n3 n4 n5 n6
 obtain⟨d1,r1⟩:=hM.rM
 obtain⟨d3,r4⟩:=hM.rE
 obtain⟨d5,r5⟩:=hM.rH
 obtain⟨d6,r6⟩:=hM.rP
 have q1:(m.mem.map i64).length=m.mem.length:=by simp
 have q2:(m.hold.map i64).length=m.hold.length:=by simp
 have q3:(m.cC.map cy.av).length=m.cC.length:=by simp
 refine aJ zr rfl ?_
 refine cz ?_
 refine aU (j4 u m n d n.a ht hl hva) (hfr n.a _ ?_) (by simp[cT,cF]) trivial ?_
 ·exact fun y hy=>rfl
 refine cz ?_
 exact⟨⟨rfl,⟨hM.V5 ht _ ⟨_,by simp only[MS.rows,List.length_append,List.length_cons,List.length_nil];exact bt⟩ ⟨_,bt⟩ fun y hy hne hn2=>by have:=dP hout hy;have:=hlt y (List.mem_cons_of_mem _ hy);exact bx,⟨_,bt⟩,hout⟩,cU,fun y y1 y2 y3=>by have y4:=dP y3 (List.mem_cons_self (a:=L.mr));have y5:=dP y3 (hmem L.pr (by simp));exact bx⟩⟩
theorem KI {u:bq} {m:MS} {t:Nat} {n:Node} {d:iU} {ab:Nat} {L:ML} {H:Hp} {nx:Nat} (h:vd u m t n d ab L H) (hlt:∀y∈ab::L.all,y<nx) (ht:t<m.bw.length) (hl:m.bw.length<=8) (hva:oG m t n.a) (hs:0<=n.slot/\n.slot<(m.bw.getD t []).length) (hth:0<=n.cB/\n.cB<m.mem.length):
 cQ Tryz.prog 109 [.pt ab 1 0 0] H nx (fun r H' k=>r=i64 n.next/\vK u { m.fS t n.slot (m.mem.getD n.cB.toNat 0) with mem:=m.mem.set n.cB.toNat (m.val t n.a) } t n { d with cB:=n.cB,word:=m.mem.getD n.cB.toNat 0,put:=m.val t n.a } ab L H nx H' k):=by
 have hfr:∀(v:kq) (H1:Hp),(∀y∈ab::L.all,bo H1 y=bo H y)->[.pt ab 1 0 0,v.av].map (cw.dj H1 6)=[oH u m t n d,v.av]:=fun v H1 h1=>by
  rw[List.map_cons,List.map_cons,List.map_nil,(h.keep h1).dj,dG _ (show cF 0 v.av by simp[cF])]
 have h0:=h
 obtain⟨hM,⟨dd,ra⟩,hout⟩:=h
 obtain⟨⟨a1,a2,a3,a4,a5,b1,b2,b3,b4,c1,c2,c3,e1',e2',f1⟩,n1,n2,n3,n4,n5,n6⟩:=apart hM ht
 have hmem:=hM.mem
 have k0:=hlt ab (by simp)
 have km:=hlt L.mr (by simp)
 have ke:=hlt L.me (List.mem_cons_of_mem _ (hmem _ (by simp)))
 have kh:=hlt L.ho (List.mem_cons_of_mem _ (hmem _ (by simp)))
 have kp:=hlt L.pr (List.mem_cons_of_mem _ (hmem _ (by simp)))
 have o1:=dP hout (List.mem_cons_self (a:=L.mr))
 have o2:=dP hout (hmem L.me (by simp))
 have o3:=dP hout (hmem L.ho (by simp))
 have o4:=dP hout (hmem L.pr (by simp))
 clear a1 a2 a4 b1 b2 b3 b4 c1 c2 c3 e1' e2' f1 n1 n2 n3 n4 n5 n6
 obtain⟨d1,r1⟩:=hM.rM
 obtain⟨d3,r4⟩:=hM.rE
 obtain⟨d5,r5⟩:=hM.rH
 obtain⟨d6,r6⟩:=hM.rP
 have q1:(m.mem.map i64).length=m.mem.length:=by simp
 have q2:(m.hold.map i64).length=m.hold.length:=by simp
 have q3:(m.cC.map cy.av).length=m.cC.length:=by simp
 have e0:=fun d=>po (l:=m.mem) (k:=n.cB) (by omega) d
 refine aJ zo rfl ?_
 refine cz ?_
 refine aW (ab::L.all) (j4 u m n d n.a ht hl hva) (fun H1 h1=>hfr n.a H1 h1) (by simp[cT,cF]) trivial ?_
 refine Eq.mpr (rB (ab::L.all) _) (rN ?_)
 refine cz ?_
 refine aG (lF (u:=u) (t:=t) (n:=n) (d:={ d with cB:=n.cB,put:=m.val t n.a }) (L:=L) (m:=m) (ab:=ab) ?_ ?_ ht hl hs _) ?_
 ·exact⟨hM.keep fun y hy=>by have:=dP hout hy;exact bx,⟨_,bt⟩,hout⟩
 ·exact fun y hy=>Nat.lt_of_lt_of_le (hlt y hy) cU
 rintro _ H2 n2 ⟨hA,hn2,hk2⟩
 obtain⟨dd2,ra2⟩:=hA.row
 obtain⟨d8,r8⟩:=hA.M.rM
 obtain⟨d9,r9⟩:=hA.M.rE
 refine cz ?_
 have ht2:t<(m.fS t n.slot (m.mem.getD n.cB.toNat 0)).bw.length:=by simp only[MS.fS,List.length_set];exact ht
 exact⟨⟨rfl,⟨hA.M.jx ht2 _ _ ⟨_,bt⟩ fun y hy hne=>by have:=dP hout hy;exact bx,⟨_,bt⟩,hout⟩,cU,fun y y1 y2 y3=>by have y4:=dP y3 (hmem L.me (by simp));exact Eq.trans bx ((hk2 y (Nat.lt_of_lt_of_le y1 cU) y2 y3).trans bx)⟩⟩
theorem QB {u:bq} {m:MS} {t:Nat} {n:Node} {d:iU} {ab:Nat} {L:ML} {H:Hp} {nx:Nat} (h:vd u m t n d ab L H) (hlt:∀y∈ab::L.all,y<nx) (ht:t<m.bw.length) (hl:m.bw.length<=8) (hs:0<=n.slot/\n.slot<(m.bw.getD t []).length) (hva:oG m t n.a) (hvb:dY n.op=true->oG m t n.b) (hop:0<=n.op/\n.op<19):
 cQ Tryz.prog 106 [.pt ab 1 0 0] H nx (fun r H' k=>r=i64 n.next/\vK u (m.fS t n.slot (m.mS t n)) t n { d with word:=m.mS t n } ab L H nx H' k):=by
 have hfr:∀(v:kq) (H1:Hp),(∀y∈ab::L.all,bo H1 y=bo H y)->[.pt ab 1 0 0,v.av].map (cw.dj H1 6)=[oH u m t n d,v.av]:=fun v H1 h1=>by
  rw[List.map_cons,List.map_cons,List.map_nil,(h.keep h1).dj,dG _ (show cF 0 v.av by simp[cF])]
 have h0:=h
 obtain⟨hM,⟨dd,ra⟩,hout⟩:=h
 obtain⟨⟨a1,a2,a3,a4,a5,b1,b2,b3,b4,c1,c2,c3,e1',e2',f1⟩,n1,n2,n3,n4,n5,n6⟩:=apart hM ht
 have hmem:=hM.mem
 have k0:=hlt ab (by simp)
 have km:=hlt L.mr (by simp)
 have ke:=hlt L.me (List.mem_cons_of_mem _ (hmem _ (by simp)))
 have kh:=hlt L.ho (List.mem_cons_of_mem _ (hmem _ (by simp)))
 have kp:=hlt L.pr (List.mem_cons_of_mem _ (hmem _ (by simp)))
 have o1:=dP hout (List.mem_cons_self (a:=L.mr))
 have o2:=dP hout (hmem L.me (by simp))
 have o3:=dP hout (hmem L.ho (by simp))
 have o4:=dP hout (hmem L.pr (by simp))
 clear a1 a2 a4 b1 b2 b3 b4 c1 c2 c3 e1' e2' f1 n1 n2 n3 n4 n5 n6
 obtain⟨d1,r1⟩:=hM.rM
 obtain⟨d3,r4⟩:=hM.rE
 obtain⟨d5,r5⟩:=hM.rH
 obtain⟨d6,r6⟩:=hM.rP
 have q1:(m.mem.map i64).length=m.mem.length:=by simp
 have q2:(m.hold.map i64).length=m.hold.length:=by simp
 have q3:(m.cC.map cy.av).length=m.cC.length:=by simp
 have c0:=fe n.op hop.1
 unfold MS.mS
 cases h2:dY n.op with
 |true=>
  rw[h2] at c0
  have c1:=UU n.op (m.val t n.a) (m.val t n.b) h2
  have hvb:=hvb h2
  rw[if_pos rfl]
  refine aJ uN rfl ?_
  refine cz ?_
  refine aU (j4 u m n d n.a ht hl hva) (hfr n.a _ ?_) (by simp[cT,cF]) trivial ?_
  ·exact fun y hy=>rfl
  refine cz ?_
  refine aW (ab::L.all) (j4 u m n d n.b ht hl hvb) (fun H1 h1=>hfr n.b H1 h1) (by simp[cT,cF]) trivial ?_
  refine Eq.mpr (rB (ab::L.all) _) (rN ?_)
  refine cz ?_
  refine aG (lF (u:=u) (t:=t) (n:=n) (d:=d) (L:=L) (m:=m) (ab:=ab) ?_ ?_ ht hl hs _) ?_
  ·exact⟨hM.keep fun y hy=>by have:=dP hout hy;exact bx,⟨_,bt⟩,hout⟩
  ·exact fun y hy=>Nat.lt_of_lt_of_le (hlt y hy) cU
  rintro _ H2 n2 ⟨hA,hn2,hk2⟩
  obtain⟨dd2,ra2⟩:=hA.row
  refine cz ?_
  exact⟨⟨rfl,hA.keep fun y hy=>bx,cU,fun y y1 y2 y3=>Eq.trans bx ((hk2 y (Nat.lt_of_lt_of_le y1 cU) y2 y3).trans bx)⟩⟩
 |false=>
  rw[h2] at c0
  rw[if_neg (by decide)]
  by_cases h0':n.op=0
  ·rw[if_neg (fun e=>e h0')]
   refine aJ uN rfl ?_
   refine cz ?_
   refine aU (j4 u m n d n.a ht hl hva) (hfr n.a _ ?_) (by simp[cT,cF]) trivial ?_
   ·exact fun y hy=>rfl
   refine cz ?_
   refine aG (lF (u:=u) (t:=t) (n:=n) (d:=d) (L:=L) (m:=m) (ab:=ab) ?_ ?_ ht hl hs _) ?_
   ·exact⟨hM.keep fun y hy=>by have:=dP hout hy;exact bx,⟨_,bt⟩,hout⟩
   ·exact fun y hy=>Nat.lt_of_lt_of_le (hlt y hy) cU
   rintro _ H2 n2 ⟨hA,hn2,hk2⟩
   obtain⟨dd2,ra2⟩:=hA.row
   refine cz ?_
   exact⟨⟨rfl,hA.keep fun y hy=>bx,cU,fun y y1 y2 y3=>Eq.trans bx ((hk2 y (Nat.lt_of_lt_of_le y1 cU) y2 y3).trans bx)⟩⟩
  ·rw[if_pos h0']
   have c1:=RB n.op (m.val t n.a) (by unfold dY at h2;simp only[Bool.and_eq_false_iff,decide_eq_false_iff_not] at h2;omega)
   refine aJ uN rfl ?_
   refine cz ?_
   refine aU (j4 u m n d n.a ht hl hva) (hfr n.a _ ?_) (by simp[cT,cF]) trivial ?_
   ·exact fun y hy=>rfl
   refine cz ?_
   refine aG (lF (u:=u) (t:=t) (n:=n) (d:=d) (L:=L) (m:=m) (ab:=ab) ?_ ?_ ht hl hs _) ?_
   ·exact⟨hM.keep fun y hy=>by have:=dP hout hy;exact bx,⟨_,bt⟩,hout⟩
   ·exact fun y hy=>Nat.lt_of_lt_of_le (hlt y hy) cU
   rintro _ H2 n2 ⟨hA,hn2,hk2⟩
   obtain⟨dd2,ra2⟩:=hA.row
   refine cz ?_
   exact⟨⟨rfl,hA.keep fun y hy=>bx,cU,fun y y1 y2 y3=>Eq.trans bx ((hk2 y (Nat.lt_of_lt_of_le y1 cU) y2 y3).trans bx)⟩⟩
end Go.Proofs.YtekfmjjmihomlaaGreatDoor
