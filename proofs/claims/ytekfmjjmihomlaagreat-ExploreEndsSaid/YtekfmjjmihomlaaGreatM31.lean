import Derived.Test.YtekfmjjmihomlaaGreatM30
section
/- A step keeps a situation right. -/
namespace Go.Proofs.YtekfmjjmihomlaaGreat
open Go Go.cZ Go.Proofs
set_option linter.unusedSimpArgs false
set_option linter.unusedVariables false
theorem sI (n:Int):eM (vP n):=by unfold eM vP;rw[IntKind.wrap_i64];omega
theorem OV {p:Prop} [Decidable p] {a b:Int} (h1:eM a) (h2:eM b):eM (if p then a else b):=by
 split
 ·exact h1
 ·exact h2
theorem NZ (t:Bool):eM (tr t):=by unfold tr eM;split<;>omega
theorem MO {a:Int} (h:eM a) (b:Int):eM (EK a b):=by
 unfold EK
 have hd:(1:Int)≤2^(min (u5 b).toNat 64):=Int.le_of_lt_add_one (by have:(0:Int)<2^(min (u5 b).toNat 64):=Int.pow_pos (by omega);omega)
 generalize (2:Int)^(min (u5 b).toNat 64)=d at *
 rw[Int.fdiv_eq_ediv_of_nonneg _ (by omega)]
 have h1:=Int.mul_ediv_add_emod a d
 have h2:=Int.emod_nonneg a (b:=d) (by omega)
 have h3:=Int.emod_lt_of_pos a (b:=d) (by omega)
 obtain⟨h4,h5⟩:=h
 generalize a /d=q at *
 generalize a%d=r at *
 constructor
 ·apply Int.not_lt.1
  intro hq
  have:d * (q+1)≤1 * (q+1):=Int.mul_le_mul_of_nonpos_right hd (by omega)
  rw[Int.mul_add] at this
  omega
 ·apply Int.not_le.1
  intro hq
  have:1 * q≤d * q:=Int.mul_le_mul_of_nonneg_right hd (by omega)
  omega
theorem M7 {a b:Int} (ha:eM a) (op:Int):eM (J3 op a b):=by
 have hq:eM (xk a b):=by
  unfold xk
  split
  ·exact⟨by omega,by omega⟩
  ·split
   ·exact sI _
   ·exact sI _
 have hm:eM (vC a b):=by
  unfold vC
  split
  ·exact ha
  ·exact sI _
 unfold J3
 repeat' (with_reducible refine OV ?_ ?_)
 all_goals first
  |exact NZ _
  |exact MO ha _
  |exact hq
  |exact hm
  |exact sI _
theorem MB (op a:Int):eM (I7 op a):=by
 unfold I7
 split
 ·exact sI _
 ·exact NZ _
theorem getD_none {α:Type} {l:List α} {k:Nat} {d:α} (h:l.length≤k):l.getD k d=d:=by simp[List.getD,List.getElem?_eq_none h]
section
variable {u:bt} {m:MS} {t:Nat}
theorem MP (h:eU u m) (ht:t<u.bo.length) (k:Nat):eM ((m.br.getD t []).getD k 0):=by
 by_cases hk:k<(m.br.getD t []).length
 ·exact h.AG t ht _ (cW 0 hk)
 ·rw[getD_none (Nat.le_of_not_lt hk)]
  exact⟨by omega,by omega⟩
theorem AP (h:eU u m) (ht:t<u.bo.length) {v:iR} (hv:v.Wf):eM (m.val t v):=by
 unfold MS.val
 split
 ·exact MP h ht _
 ·exact hv.word
theorem MM (h:eU u m) (ht:t<u.bo.length) {n:Node} (hn:n.Wf):eM (m.l9 t n):=by
 unfold MS.l9
 split
 ·exact M7 (AP h ht hn.a) _
 ·split
  ·exact MB _ _
  ·exact AP h ht hn.a
theorem nJ {α:Type} {l:List α} {i:Nat} {a x:α} (h:x∈l.set i a):x∈l∨x=a:=by
 rcases List.mem_or_eq_of_mem_set h with h|h
 ·exact .inl h
 ·exact .inr h
theorem getD_set_ne {α:Type} {l:List α} {i j:Nat} {v d:α} (h:i≠j):(l.set i v).getD j d=l.getD j d:=by simp[List.getD,List.getElem?_set_ne h]
theorem eU.dc (h:eU u m) (k w:Int) (hw:eM w):eU u (m.dc t k w) where
 nX:=h.nX
 gy:=h.gy
 sl:=by simp only[MS.dc,List.length_set];exact h.sl
 yR:=fun s hs=>by
  simp only[MS.dc]
  by_cases e:t=s
  ·subst e
   rw[eL (by rw[h.sl];exact hs),List.length_set]
   exact h.yR t hs
  ·rw[getD_set_ne e];exact h.yR s hs
 AG:=fun s hs x hx=>by
  simp only[MS.dc] at hx
  by_cases e:t=s
  ·subst e
   rw[eL (by rw[h.sl];exact hs)] at hx
   rcases nJ hx with hx|rfl
   ·exact h.AG t hs x hx
   ·exact hw
  ·rw[getD_set_ne e] at hx;exact h.AG s hs x hx
 ml:=h.ml
 mw:=h.mw
 hl:=h.hl
 hw:=h.hw
 pw:=h.pw
theorem eU.mem (h:eU u m) (k:Nat) (w:Int) (hw:eM w):eU u { m with mem:=m.mem.set k w } where
 nX:=h.nX
 gy:=h.gy
 sl:=h.sl
 yR:=h.yR
 AG:=h.AG
 ml:=by simp only[List.length_set];exact h.ml
 mw:=fun x hx=>by
  rcases nJ hx with hx|rfl
  ·exact h.mw x hx
  ·exact hw
 hl:=h.hl
 hw:=h.hw
 pw:=h.pw
theorem eU.hold (h:eU u m) (k:Nat) (w:Int) (hw:-1≤w∧w<u.bo.length):eU u { m with hold:=m.hold.set k w } where
 nX:=h.nX
 gy:=h.gy
 sl:=h.sl
 yR:=h.yR
 AG:=h.AG
 ml:=h.ml
 mw:=h.mw
 hl:=by simp only[List.length_set];exact h.hl
 hw:=fun x hx=>by
  rcases nJ hx with hx|rfl
  ·exact h.hw x hx
  ·exact hw
 pw:=h.pw
theorem eU.print (h:eU u m) (p:cg) (hp:0≤p.ch∧p.ch<u.bo.length∧eM p.word):eU u { m with bu:=m.bu++[p] } where
 nX:=h.nX
 gy:=h.gy
 sl:=h.sl
 yR:=h.yR
 AG:=h.AG
 ml:=h.ml
 mw:=h.mw
 hl:=h.hl
 hw:=h.hw
 pw:=fun x hx=>by
  rcases List.mem_append.1 hx with hx|hx
  ·exact h.pw x hx
  ·simp only[List.mem_cons,List.not_mem_nil,or_false] at hx
   subst hx;exact hp
theorem eU.CO (h:eU u m) (k:Int) (hk:t<u.bo.length→0≤k∧k<(u.gr t).nodes.length):eU u { m with at_:=m.at_.set t k } where
 nX:=by simp only[List.length_set];exact h.nX
 gy:=fun s hs=>by
  by_cases e:t=s
  ·subst e
   dsimp only
   rw[eL (by rw[h.nX];exact hs)]
   exact hk hs
  ·dsimp only
   rw[getD_set_ne e];exact h.gy s hs
 sl:=h.sl
 yR:=h.yR
 AG:=h.AG
 ml:=h.ml
 mw:=h.mw
 hl:=h.hl
 hw:=h.hw
 pw:=h.pw
theorem lN (h:eU u m) (ht:t<u.bo.length) (hb:m.mQ u t=0):(m.node u t).kind≠9∧¬((m.node u t).kind=5∧0≤m.hold.getD (m.node u t).cH.toNat 0):=by
 unfold MS.mQ at hb
 rw[if_neg (by have:=h.nX;omega),Int.toNat_natCast] at hb
 refine⟨fun e=> ?_,fun e=> ?_⟩
 ·rw[if_pos e] at hb;cases hb
 ·rw[if_neg (by omega)] at hb
  rw[if_pos e] at hb
  cases hb
theorem B0 (hu:u.Wf) (h:eU u m) (ht:t<u.bo.length):(m.node u t).Wf:=by
 have h1:=h.gy t ht
 exact(hu.bo _ (cW default ht)).nodes _ (cW default (show(m.at_.getD t 0).toNat<(u.gr t).nodes.length by omega))
theorem OA (hu:u.Wf) (hr:dC u) (h:eU u m) (ht:t<u.bo.length):eU u (m.act t (m.node u t)).1:=by
 have hn:=h.node hr ht
 have hw:=B0 hu h ht
 have hst:=MM h ht hw
 have hva:=AP h ht hw.a
 have hmw:eM (m.mem.getD (m.node u t).cH.toNat 0):=by
  by_cases hk:(m.node u t).cH.toNat<m.mem.length
  ·exact h.mw _ (cW 0 hk)
  ·rw[getD_none (Nat.le_of_not_lt hk)];exact⟨by omega,by omega⟩
 generalize m.node u t=n at *
 unfold MS.act
 split
 ·exact h.dc _ _ hst
 split
 ·exact h.dc _ _ hmw
 split
 ·exact h.mem _ _ hva
 split
 ·exact(h.dc (t:=t) n.slot _ hmw).mem _ _ hva
 split
 ·exact h.hold _ _ ⟨by omega,by omega⟩
 split
 ·exact h.hold _ _ ⟨by omega,by omega⟩
 split
 ·exact h.print _ ⟨by dsimp only;omega,by dsimp only;omega,hva⟩
 ·exact h
theorem FB (hr:dC u) (h:eU u m) (ht:t<u.bo.length) (hk:(m.node u t).kind≠9):0≤(m.act t (m.node u t)).2.1∧(m.act t (m.node u t)).2.1<(u.gr t).nodes.length:=by
 have hn:=h.node hr ht
 generalize m.node u t=n at *
 have hkd:=hn.kind
 have hnx:=hn.next.1 (by unfold gv;exact decide_eq_true (by omega))
 unfold MS.act
 repeat' split
 all_goals first
  |exact hnx
  |exact hn.nq.1 (by omega)
theorem vK (hu:u.Wf) (hr:dC u) (h:eU u m) (ht:t<u.bo.length) (hk:(m.node u t).kind≠9):eU u (m.step u t).1:=by
 have h1:=OA hu hr h ht
 have h2:=FB hr h ht hk
 have h3:(m.step u t).1={ (m.act t (m.node u t)).1 with at_:=m.at_.set t (m.act t (m.node u t)).2.1 }:=rfl
 have h4:(m.act t (m.node u t)).1.at_=m.at_:=by
  unfold MS.act
  repeat' split
  all_goals rfl
 rw[h3,←h4]
 exact h1.CO _ fun _=>h2
end
end Go.Proofs.YtekfmjjmihomlaaGreat
end
section
/- The machine in rows: what a store makes of it. -/
namespace Go.Proofs.YtekfmjjmihomlaaGreat
open Go Go.cZ Go.Proofs
set_option linter.unusedSimpArgs false
set_option linter.unusedVariables false
structure ML where
 mr:Nat
 a:Nat
 s:Nat
 me:Nat
 ho:Nat
 pr:Nat
 ids:List Nat
abbrev ML.all (L:ML):List Nat:=L.mr::L.a::L.s::L.me::L.ho::L.pr::L.ids
abbrev ML.it (L:ML) (t:Nat):Nat:=L.ids.getD t 0
abbrev ML.At (L:ML) (u:bt) (m:MS) (H:Hp):Prop:=PT u m L.mr L.a L.s L.me L.ho L.pr L.ids H
theorem PT.zB {u:bt} {m:MS} {mr a s me ho pr:Nat} {ids:List Nat} {H:Hp} (h:PT u m mr a s me ho pr ids H) (k:Nat):cZ.dX H (k+4) (.pt mr 1 0 0)=m.fz u:=by
 obtain⟨d1,h1⟩:=h.rM
 obtain⟨d2,h2⟩:=h.rA
 obtain⟨d3,h3⟩:=h.rS
 obtain⟨d4,h4⟩:=h.rE
 obtain⟨d5,h5⟩:=h.rH
 obtain⟨d6,h6⟩:=h.rP
 have hsl:(dG ids m.br).length=m.br.length:=by unfold dG;rw[List.length_map,List.length_zip,h.len];simp
 have hs:(dG ids m.br).map (cZ.dX H (k+1))=m.br.map cm:=by
  apply List.ext_getElem (by simp[hsl])
  intro t q1 q2
  have ht:t<m.br.length:=by simpa using q2
  have hti:t<ids.length:=by rw[h.len];exact ht
  obtain⟨d,hd⟩:=h.rL t ht
  rw[show ids.getD t 0=ids[t] by simp[List.getD,hti],show m.br.getD t []=m.br[t] by simp[List.getD,ht]] at hd
  rw[List.getElem_map,List.getElem_map]
  simp only[dG,List.getElem_map,List.getElem_zip]
  rw[dF hd (by simp),cc _ ((cC _ _).2 fun _ _=>by simp[cE])]
 simp only[cZ.dX,h1]
 simp only[List.length_cons,List.length_nil,if_true,List.map_cons,List.map_nil,MS.rows]
 rw[j4]
 simp only[List.map_cons,List.map_nil]
 rw[dF h2 (by simp),dF h3 hsl,dF h4 (by simp),dF h5 (by simp),dF h6 (by simp),hs]
 rw[cc _ ((cC _ _).2 fun _ _=>by simp[cE]),cc _ ((cC _ _).2 fun _ _=>by simp[cE]),cc _ ((cC _ _).2 fun _ _=>by simp[cE]),cc _ ((cC _ _).2 fun _ _=>by simp[cE])]
 rw[cx _ (show cE 0 (bw u.shared) by simp[cE,cC]),cx _ (show cE 0 (bw u.bx) by simp[cE,cC]),cx _ (show cE 0 (cR u.bo) by simp[cE,cC])]
 rfl
section
variable {u:bt} {m:MS} {L:ML} {H H':Hp}
theorem fu {p:Prop} (h:p:=by first|assumption|(refine Ne.symm ?_;assumption)):p:=h
theorem ML.At.mem (h:L.At u m H):(∀x∈[L.a,L.s,L.me,L.ho,L.pr],x∈L.all):=by
 intro x hx
 simp only[List.mem_cons,List.not_mem_nil,or_false] at hx
 simp only[ML.all,List.mem_cons]
 omega
theorem kd (h:L.At u m H) {t:Nat} (ht:t<m.br.length):L.it t∈L.all:=by
 have:L.it t∈L.ids:=dN (by rw[h.len];exact ht)
 simp only[ML.all,List.mem_cons]
 exact .inr (.inr (.inr (.inr (.inr (.inr this)))))
theorem QP (h:L.At u m H) {t s:Nat} (ht:t<m.br.length) (hs:s<m.br.length) (e:s≠t):L.it s≠L.it t:=by
 have h1:=(List.nodup_cons.1 (List.nodup_cons.1 (List.nodup_cons.1 (List.nodup_cons.1 (List.nodup_cons.1 (List.nodup_cons.1 h.nodup).2).2).2).2).2).2
 have hl:=h.len
 intro he
 have ht':t<L.ids.length:=by omega
 have hs':s<L.ids.length:=by omega
 have:L.ids[s]=L.ids[t]:=by simpa[ML.it,List.getD,ht',hs'] using he
 exact e ((List.getElem_inj h1).1 this)
structure ML.NA (L:ML) (t:Nat):Prop where
 ne:L.mr≠L.a∧L.mr≠L.s∧L.mr≠L.me∧L.mr≠L.ho∧L.mr≠L.pr∧L.a≠L.s∧L.a≠L.me∧L.a≠L.ho∧L.a≠L.pr∧L.s≠L.me∧L.s≠L.ho∧L.s≠L.pr∧L.me≠L.ho∧L.me≠L.pr∧L.ho≠L.pr
 it:L.it t≠L.mr∧L.it t≠L.a∧L.it t≠L.s∧L.it t≠L.me∧L.it t≠L.ho∧L.it t≠L.pr
theorem apart (h:L.At u m H) {t:Nat} (ht:t<m.br.length):L.NA t:=by
 have hn:=h.nodup
 have hi:L.it t∈L.ids:=dN (by rw[h.len];exact ht)
 have hne:∀x,x∉L.ids→L.it t≠x:=fun x hx e=>hx (e▸hi)
 simp only[List.nodup_cons,List.mem_cons,not_or] at hn
 obtain⟨⟨a1,a2,a3,a4,a5,a6⟩,⟨b1,b2,b3,b4,b5⟩,⟨c1,c2,c3,c4⟩,⟨d1,d2,d3⟩,⟨e1,e2⟩,f1,_⟩:=hn
 exact⟨⟨a1,a2,a3,a4,a5,b1,b2,b3,b4,c1,c2,c3,d1,d2,e1⟩,hne _ a6,hne _ b5,hne _ c4,hne _ d3,hne _ e2,hne _ f1⟩
theorem ML.At.cS (h:L.At u m H) (hk:∀y∈L.all,bn H' y=bn H y):L.At u m H':=by
 have hm:=h.mem
 obtain⟨d1,h1⟩:=h.rM
 obtain⟨d2,h2⟩:=h.rA
 obtain⟨d3,h3⟩:=h.rS
 obtain⟨d4,h4⟩:=h.rE
 obtain⟨d5,h5⟩:=h.rH
 obtain⟨d6,h6⟩:=h.rP
 refine⟨⟨d1,(hk _ (by simp)).trans h1⟩,⟨d2,(hk _ (hm _ (by simp))).trans h2⟩,⟨d3,(hk _ (hm _ (by simp))).trans h3⟩,fun t ht=> ?_,⟨d4,(hk _ (hm _ (by simp))).trans h4⟩,⟨d5,(hk _ (hm _ (by simp))).trans h5⟩,⟨d6,(hk _ (hm _ (by simp))).trans h6⟩,h.len,h.nodup⟩
 obtain⟨d,hd⟩:=h.rL t ht
 exact⟨d,(hk _ (kd h ht)).trans hd⟩
theorem ML.At.dc (h:L.At u m H) {t:Nat} (ht:t<m.br.length) (k w:Int) (hit:∃d,bn H' (L.it t)=some (.row 2 1 d (((m.br.getD t []).map i64).set k.toNat (i64 w)))) (hk:∀y∈L.all,y≠L.it t→bn H' y=bn H y):L.At u (m.dc t k w) H':=by
 obtain⟨-,n1,n2,n3,n4,n5,n6⟩:=apart h ht
 have hm:=h.mem
 obtain⟨d1,h1⟩:=h.rM
 obtain⟨d2,h2⟩:=h.rA
 obtain⟨d3,h3⟩:=h.rS
 obtain⟨d4,h4⟩:=h.rE
 obtain⟨d5,h5⟩:=h.rH
 obtain⟨d6,h6⟩:=h.rP
 have hl:(m.dc t k w).br.length=m.br.length:=by simp[MS.dc]
 have hrow:dG L.ids (m.dc t k w).br=dG L.ids m.br:=by
  unfold dG MS.dc
  apply List.ext_getElem (by simp)
  intro i q1 q2
  simp only[List.getElem_map,List.getElem_zip,AV.sl.injEq,true_and]
  rw[List.getElem_set]
  have hi:i<m.br.length:=by simp at q2;omega
  split
  ·rename_i e;subst e;rw[List.length_set];simp[List.getD,hi]
  ·rfl
 refine⟨⟨d1, ?_⟩,⟨d2,(hk _ (hm _ (by simp)) fu).trans h2⟩,⟨d3,by rw[hrow];exact(hk _ (hm _ (by simp)) fu).trans h3⟩,fun s hs=> ?_,⟨d4,(hk _ (hm _ (by simp)) fu).trans h4⟩,⟨d5,(hk _ (hm _ (by simp)) fu).trans h5⟩,⟨d6,(hk _ (hm _ (by simp)) fu).trans h6⟩,by rw[hl];exact h.len,h.nodup⟩
 ·rw[show(m.dc t k w).rows u L.a L.s L.me L.ho L.pr=m.rows u L.a L.s L.me L.ho L.pr by simp[MS.rows,MS.dc]]
  exact(hk _ (by simp) fu).trans h1
 ·rw[hl] at hs
  by_cases e:s=t
  ·subst e
   obtain⟨d,hd⟩:=hit
   refine⟨d,hd.trans ?_⟩
   rw[show(m.dc s k w).br.getD s []=(m.br.getD s []).set k.toNat w from eL hs,List.map_set]
  ·obtain⟨d,hd⟩:=h.rL s hs
   refine⟨d, ?_⟩
   rw[show(m.dc t k w).br.getD s []=m.br.getD s [] from getD_set_ne (Ne.symm e)]
   exact(hk _ (kd h hs) (QP h ht hs e)).trans hd
theorem ML.At.fV (h:L.At u m H) {t:Nat} (ht:t<m.br.length) (k w:Int) (hme:∃d,bn H' L.me=some (.row 2 1 d ((m.mem.map i64).set k.toNat (i64 w)))) (hk:∀y∈L.all,y≠L.me→bn H' y=bn H y):L.At u { m with mem:=m.mem.set k.toNat w } H':=by
 obtain⟨⟨a1,a2,a3,a4,a5,b1,b2,b3,b4,c1,c2,c3,e1,e2,f1⟩,n1,n2,n3,n4,n5,n6⟩:=apart h ht
 have hm:=h.mem
 obtain⟨d1,h1⟩:=h.rM
 obtain⟨d2,h2⟩:=h.rA
 obtain⟨d3,h3⟩:=h.rS
 obtain⟨d4,h4⟩:=hme
 obtain⟨d5,h5⟩:=h.rH
 obtain⟨d6,h6⟩:=h.rP
 refine⟨⟨d1, ?_⟩,⟨d2,(hk _ (hm _ (by simp)) fu).trans h2⟩,⟨d3,(hk _ (hm _ (by simp)) fu).trans h3⟩,fun s hs=> ?_,⟨d4,by rw[List.map_set];exact h4⟩,⟨d5,(hk _ (hm _ (by simp)) fu).trans h5⟩,⟨d6,(hk _ (hm _ (by simp)) fu).trans h6⟩,h.len,h.nodup⟩
 ·rw[show({ m with mem:=m.mem.set k.toNat w }:MS).rows u L.a L.s L.me L.ho L.pr=m.rows u L.a L.s L.me L.ho L.pr by simp[MS.rows]]
  exact(hk _ (by simp) fu).trans h1
 ·obtain⟨d,hd⟩:=h.rL s hs
  obtain⟨m1,m2,m3,m4,m5,m6⟩:=(apart h hs).it
  exact⟨d,(hk _ (kd h hs) fu).trans hd⟩
theorem ML.At.wM (h:L.At u m H) {t:Nat} (ht:t<m.br.length) (k w:Int) (hho:∃d,bn H' L.ho=some (.row 3 1 d ((m.hold.map i64).set k.toNat (i64 w)))) (hk:∀y∈L.all,y≠L.ho→bn H' y=bn H y):L.At u { m with hold:=m.hold.set k.toNat w } H':=by
 obtain⟨⟨a1,a2,a3,a4,a5,b1,b2,b3,b4,c1,c2,c3,e1,e2,f1⟩,n1,n2,n3,n4,n5,n6⟩:=apart h ht
 have hm:=h.mem
 obtain⟨d1,h1⟩:=h.rM
 obtain⟨d2,h2⟩:=h.rA
 obtain⟨d3,h3⟩:=h.rS
 obtain⟨d4,h4⟩:=h.rE
 obtain⟨d5,h5⟩:=hho
 obtain⟨d6,h6⟩:=h.rP
 refine⟨⟨d1, ?_⟩,⟨d2,(hk _ (hm _ (by simp)) fu).trans h2⟩,⟨d3,(hk _ (hm _ (by simp)) fu).trans h3⟩,fun s hs=> ?_,⟨d4,(hk _ (hm _ (by simp)) fu).trans h4⟩,⟨d5,by rw[List.map_set];exact h5⟩,⟨d6,(hk _ (hm _ (by simp)) fu).trans h6⟩,h.len,h.nodup⟩
 ·rw[show({ m with hold:=m.hold.set k.toNat w }:MS).rows u L.a L.s L.me L.ho L.pr=m.rows u L.a L.s L.me L.ho L.pr by simp[MS.rows]]
  exact(hk _ (by simp) fu).trans h1
 ·obtain⟨d,hd⟩:=h.rL s hs
  obtain⟨m1,m2,m3,m4,m5,m6⟩:=(apart h hs).it
  exact⟨d,(hk _ (kd h hs) fu).trans hd⟩
theorem ML.At.CO (h:L.At u m H) {t:Nat} (ht:t<m.br.length) (k:Nat) (w:Int) (hat:∃d,bn H' L.a=some (.row 3 1 d ((m.at_.map i64).set k (i64 w)))) (hk:∀y∈L.all,y≠L.a→bn H' y=bn H y):L.At u { m with at_:=m.at_.set k w } H':=by
 obtain⟨⟨a1,a2,a3,a4,a5,b1,b2,b3,b4,c1,c2,c3,e1,e2,f1⟩,n1,n2,n3,n4,n5,n6⟩:=apart h ht
 have hm:=h.mem
 obtain⟨d1,h1⟩:=h.rM
 obtain⟨d2,h2⟩:=hat
 obtain⟨d3,h3⟩:=h.rS
 obtain⟨d4,h4⟩:=h.rE
 obtain⟨d5,h5⟩:=h.rH
 obtain⟨d6,h6⟩:=h.rP
 refine⟨⟨d1, ?_⟩,⟨d2,by rw[List.map_set];exact h2⟩,⟨d3,(hk _ (hm _ (by simp)) fu).trans h3⟩,fun s hs=> ?_,⟨d4,(hk _ (hm _ (by simp)) fu).trans h4⟩,⟨d5,(hk _ (hm _ (by simp)) fu).trans h5⟩,⟨d6,(hk _ (hm _ (by simp)) fu).trans h6⟩,h.len,h.nodup⟩
 ·rw[show({ m with at_:=m.at_.set k w }:MS).rows u L.a L.s L.me L.ho L.pr=m.rows u L.a L.s L.me L.ho L.pr by simp[MS.rows]]
  exact(hk _ (by simp) fu).trans h1
 ·obtain⟨d,hd⟩:=h.rL s hs
  obtain⟨m1,m2,m3,m4,m5,m6⟩:=(apart h hs).it
  exact⟨d,(hk _ (kd h hs) fu).trans hd⟩
theorem ML.At.zb (h:L.At u m H) {t:Nat} (ht:t<m.br.length) (p:cg) (hmr:∃d,bn H' L.mr=some (.row 100 8 d [({ m with bu:=m.bu++[p] }:MS).rows u L.a L.s L.me L.ho L.pr])) (hpr:∃d,bn H' L.pr=some (.row 89 2 d (m.bu.map cg.av++[p.av]))) (hk:∀y∈L.all,y≠L.pr→y≠L.mr→bn H' y=bn H y):L.At u { m with bu:=m.bu++[p] } H':=by
 obtain⟨⟨a1,a2,a3,a4,a5,b1,b2,b3,b4,c1,c2,c3,e1,e2,f1⟩,n1,n2,n3,n4,n5,n6⟩:=apart h ht
 have hm:=h.mem
 obtain⟨d2,h2⟩:=h.rA
 obtain⟨d3,h3⟩:=h.rS
 obtain⟨d4,h4⟩:=h.rE
 obtain⟨d5,h5⟩:=h.rH
 obtain⟨d6,h6⟩:=hpr
 refine⟨hmr,⟨d2,(hk _ (hm _ (by simp)) fu fu).trans h2⟩,⟨d3,(hk _ (hm _ (by simp)) fu fu).trans h3⟩,fun s hs=> ?_,⟨d4,(hk _ (hm _ (by simp)) fu fu).trans h4⟩,⟨d5,(hk _ (hm _ (by simp)) fu fu).trans h5⟩,⟨d6,by rw[List.map_append];exact h6⟩,h.len,h.nodup⟩
 obtain⟨d,hd⟩:=h.rL s hs
 obtain⟨m1,m2,m3,m4,m5,m6⟩:=(apart h hs).it
 exact⟨d,(hk _ (kd h hs) fu fu).trans hd⟩
end
end Go.Proofs.YtekfmjjmihomlaaGreat
end
section
/- An action at work: what a value is; a word into a slot. -/
namespace Go.Proofs.YtekfmjjmihomlaaGreat
open Go Go.cZ Go.Proofs
set_option linter.unusedSimpArgs false
set_option linter.unusedVariables false
set_option maxRecDepth 8000
def AC (x:AV) (t:Int) (n:Node) (d:fJ):List AV:=[x,i64 t,u8 n.kind,u8 n.op,i64 n.slot,i64 n.cH,bl n.a.fy,i64 n.a.slot,i64 n.a.word,bl n.b.fy,i64 n.b.slot,i64 n.b.word,i64 n.next,i64 n.nq,i64 n.origin,i64 d.ch,i64 d.node,u8 d.kind,i64 d.cH,i64 d.word,i64 d.put]
abbrev mX (u:bt) (m:MS) (t:Int) (n:Node) (d:fJ):AV:= .ip 21 .any [.agg (AC (m.fz u) t n d)] 0 0
@[simp] theorem R5 (k:Nat) (u:bt) (m:MS) (t:Int) (n:Node) (d:fJ):cT k (AC (m.fz u) t n d):=by
  simp[cE,cT,AC]
structure sd (u:bt) (m:MS) (t:Nat) (n:Node) (d:fJ) (ab:Nat) (L:ML) (H:Hp):Prop where
 M:L.At u m H
 row:∃dd,bn H ab=some (.row 113 21 dd [.agg (AC (.pt L.mr 1 0 0) t n d)])
 out:ab∉L.all
theorem sd.dX {u:bt} {m:MS} {t:Nat} {n:Node} {d:fJ} {ab:Nat} {L:ML} {H:Hp} (h:sd u m t n d ab L H):cZ.dX H 6 (.pt ab 1 0 0)=mX u m t n d:=by
 obtain⟨dd,hr⟩:=h.row
 rw[show cZ.dX H 6 (.pt ab 1 0 0)= .ip 21 .any (([.agg (AC (.pt L.mr 1 0 0) t n d)]:List AV).map (cZ.dX H 5)) 0 0 from OR hr rfl]
 simp only[List.map_cons,List.map_nil]
 rw[j4]
 simp only[AC,List.map_cons,List.map_nil]
 have:=h.M.zB 0
 rw[this]
 simp only[cZ.dX]
 rfl
theorem sd.cS {u:bt} {m:MS} {t:Nat} {n:Node} {d:fJ} {ab:Nat} {L:ML} {H H':Hp} (h:sd u m t n d ab L H) (hk:∀y∈ab::L.all,bn H' y=bn H y):sd u m t n d ab L H':=by
 obtain⟨dd,hr⟩:=h.row
 exact⟨h.M.cS fun y hy=>hk y (List.mem_cons_of_mem _ hy),⟨dd,(hk ab (by simp)).trans hr⟩,h.out⟩
def jt (m:MS) (t:Nat) (v:iR):Prop:=v.fy=true→0≤v.slot∧v.slot<(m.br.getD t []).length
theorem iz (u:bt) (m:MS) {t:Nat} (n:Node) (d:fJ) (v:iR) (ht:t<m.br.length) (hl:m.br.length≤8) (hv:jt m t v):Pure Tryz.prog 122 [mX u m t n d,v.av] (fun r=>r=i64 (m.val t v)):=by
 unfold MS.val
 have e0:∀d,(m.br.map cm).getD ((t:Int)).toNat d=cm (m.br.getD t []):=fun d=>by rw[Int.toNat_natCast];exact dB cm m.br t d ht
 have a0:(m.br.map cm).length=m.br.length:=by simp
 cases hs:v.fy with
 |true=>
  have r0:=hs
  obtain⟨v1,v2⟩:=hv hs
  have a1:((m.br.getD t []).map i64).length=(m.br.getD t []).length:=by simp
  have e1:=fun d=>iO (l:=m.br.getD t []) (k:=v.slot) (by omega) d
  rw[if_pos rfl]
  refine aI tj rfl ?_
  refine cV ?_
  first|exact rfl|trivial
 |false=>
  have r0:=hs
  rw[if_neg (by decide)]
  refine aI tj rfl ?_
  refine cV ?_
  first|exact rfl|trivial
abbrev sO (u:bt) (m:MS) (t:Nat) (n:Node) (d:fJ) (ab:Nat) (L:ML) (H0:Hp) (nx:Nat) (H:Hp) (k:Nat):Prop:=sd u m t n d ab L H∧nx≤k∧∀y,y<nx→y≠ab→y∉L.all→bn H y=bn H0 y
theorem o5 {L:ML} {m:MS} {t:Nat} (hl:L.ids.length=m.br.length) (ht:t<m.br.length) (d:AV):(dG L.ids m.br).getD t d= .sl (L.it t) (m.br.getD t []).length:=by
 have h1:t<L.ids.length:=by omega
 have h2:t<(L.ids.zip m.br).length:=by rw[List.length_zip];omega
 simp[dG,List.getD,ht,h1,List.getElem?_eq_getElem h2]
theorem pL {L:ML} {m:MS} (hl:L.ids.length=m.br.length):(dG L.ids m.br).length=m.br.length:=by
 unfold dG;rw[List.length_map,List.length_zip,hl];simp
theorem dO {x y:Nat} {l:List Nat} (h:x∉l) (hy:y∈l):y≠x:=fun e=>h (e▸hy)
set_option maxHeartbeats 1000000 in
theorem kD {u:bt} {m:MS} {t:Nat} {n:Node} {d:fJ} {ab:Nat} {L:ML} {H:Hp} {nx:Nat} (h:sd u m t n d ab L H) (hlt:∀y∈ab::L.all,y<nx) (ht:t<m.br.length) (hl:m.br.length≤8) (hs:0≤n.slot∧n.slot<(m.br.getD t []).length) (w:Int):
 cP Tryz.prog 126 [.pt ab 1 0 0,i64 w] H nx (fun _ H' k=>sO u (m.dc t n.slot w) t n { d with word:=w } ab L H nx H' k):=by
 obtain⟨hM,⟨dd,ra⟩,hout⟩:=h
 obtain⟨⟨a1,a2,a3,a4,a5,b1,b2,b3,b4,c1,c2,c3,e1,e2,f1⟩,n1,n2,n3,n4,n5,n6⟩:=apart hM ht
 have hmem:=hM.mem
 have k0:=hlt ab (by simp)
 have km:=hlt L.mr (by simp)
 have ks:=hlt L.s (List.mem_cons_of_mem _ (hmem _ (by simp)))
 have ki:=hlt (L.it t) (List.mem_cons_of_mem _ (kd hM ht))
 have o1:=dO hout (List.mem_cons_self (a:=L.mr))
 have o2:=dO hout (hmem L.s (by simp))
 have o3:=dO hout (kd hM ht)
 obtain⟨d1,r1⟩:=hM.rM
 obtain⟨d3,r3⟩:=hM.rS
 obtain⟨d7,r7⟩:=hM.rL t ht
 have e0:∀d,(dG L.ids m.br).getD ((t:Int)).toNat d= .sl (L.it t) (m.br.getD t []).length:=fun d=>by rw[Int.toNat_natCast];exact o5 hM.len ht d
 have q0:=pL hM.len
 have q1:((m.br.getD t []).map i64).length=(m.br.getD t []).length:=by simp
 obtain⟨hs1,hs2⟩:=hs
 refine aQ w9 rfl ?_
 refine cV ?_
 exact⟨⟨hM.dc ht _ _ ⟨_,bq⟩ fun y hy hne=>by have:=dO hout hy;exact cB,⟨_,bq⟩,hout⟩,c8,fun y y1 y2 y3=>by have y4:=dO y3 (kd hM ht);exact cB⟩
end Go.Proofs.YtekfmjjmihomlaaGreat
end
section
/- An action at work: the kinds of nodes. -/
namespace Go.Proofs.YtekfmjjmihomlaaGreat
open Go Go.cZ Go.Proofs
set_option linter.unusedSimpArgs false
set_option linter.unusedVariables false
set_option maxRecDepth 8000
set_option maxHeartbeats 2000000
theorem DY {u:bt} {m:MS} {t:Nat} {n:Node} {d:fJ} {ab:Nat} {L:ML} {H:Hp} {nx:Nat} (h:sd u m t n d ab L H) (hlt:∀y∈ab::L.all,y<nx) (ht:t<m.br.length) (hl:m.br.length≤8) (hth:0≤n.cH∧n.cH<m.hold.length):
 cP Tryz.prog 86 [.pt ab 1 0 0] H nx (fun r H' k=>r=i64 n.next∧sO u { m with hold:=m.hold.set n.cH.toNat t } t n { d with cH:=n.cH } ab L H nx H' k):=by
 have hfr:∀(v:iR) (H1:Hp),(∀y∈ab::L.all,bn H1 y=bn H y)→[.pt ab 1 0 0,v.av].map (cZ.dX H1 6)=[mX u m t n d,v.av]:=fun v H1 h1=>by
  rw[List.map_cons,List.map_cons,List.map_nil,(h.cS h1).dX,cx _ (show cE 0 v.av by simp[cE])]
 have h0:=h
 obtain⟨hM,⟨dd,ra⟩,hout⟩:=h
 obtain⟨⟨a1,a2,a3,a4,a5,b1,b2,b3,b4,c1,c2,c3,e1',e2',f1⟩,n1,n2,n3,n4,n5,n6⟩:=apart hM ht
 have hmem:=hM.mem
 have k0:=hlt ab (by simp)
 have km:=hlt L.mr (by simp)
 have ke:=hlt L.me (List.mem_cons_of_mem _ (hmem _ (by simp)))
 have kh:=hlt L.ho (List.mem_cons_of_mem _ (hmem _ (by simp)))
 have kp:=hlt L.pr (List.mem_cons_of_mem _ (hmem _ (by simp)))
 have o1:=dO hout (List.mem_cons_self (a:=L.mr))
 have o2:=dO hout (hmem L.me (by simp))
 have o3:=dO hout (hmem L.ho (by simp))
 have o4:=dO hout (hmem L.pr (by simp))
 clear a1 a2 a4 b1 b2 b3 b4 c1 c2 c3 e1' e2' f1 n1 n2 n3 n4 n5 n6
 obtain⟨d1,r1⟩:=hM.rM
 obtain⟨d3,r4⟩:=hM.rE
 obtain⟨d5,r5⟩:=hM.rH
 obtain⟨d6,r6⟩:=hM.rP
 have q1:(m.mem.map i64).length=m.mem.length:=by simp
 have q2:(m.hold.map i64).length=m.hold.length:=by simp
 have q3:(m.bu.map cg.av).length=m.bu.length:=by simp
 refine aQ IN rfl ?_
 refine cV ?_
 exact⟨⟨rfl,⟨hM.wM ht _ _ ⟨_,bq⟩ fun y hy hne=>by have:=dO hout hy;exact cB,⟨_,bq⟩,hout⟩,c8,fun y y1 y2 y3=>by have y4:=dO y3 (hmem L.ho (by simp));exact cB⟩⟩
theorem yJ {u:bt} {m:MS} {t:Nat} {n:Node} {d:fJ} {ab:Nat} {L:ML} {H:Hp} {nx:Nat} (h:sd u m t n d ab L H) (hlt:∀y∈ab::L.all,y<nx) (ht:t<m.br.length) (hl:m.br.length≤8) (hth:0≤n.cH∧n.cH<m.hold.length):
 cP Tryz.prog 87 [.pt ab 1 0 0] H nx (fun r H' k=>r=i64 n.next∧sO u { m with hold:=m.hold.set n.cH.toNat (-1) } t n { d with cH:=n.cH } ab L H nx H' k):=by
 have hfr:∀(v:iR) (H1:Hp),(∀y∈ab::L.all,bn H1 y=bn H y)→[.pt ab 1 0 0,v.av].map (cZ.dX H1 6)=[mX u m t n d,v.av]:=fun v H1 h1=>by
  rw[List.map_cons,List.map_cons,List.map_nil,(h.cS h1).dX,cx _ (show cE 0 v.av by simp[cE])]
 have h0:=h
 obtain⟨hM,⟨dd,ra⟩,hout⟩:=h
 obtain⟨⟨a1,a2,a3,a4,a5,b1,b2,b3,b4,c1,c2,c3,e1',e2',f1⟩,n1,n2,n3,n4,n5,n6⟩:=apart hM ht
 have hmem:=hM.mem
 have k0:=hlt ab (by simp)
 have km:=hlt L.mr (by simp)
 have ke:=hlt L.me (List.mem_cons_of_mem _ (hmem _ (by simp)))
 have kh:=hlt L.ho (List.mem_cons_of_mem _ (hmem _ (by simp)))
 have kp:=hlt L.pr (List.mem_cons_of_mem _ (hmem _ (by simp)))
 have o1:=dO hout (List.mem_cons_self (a:=L.mr))
 have o2:=dO hout (hmem L.me (by simp))
 have o3:=dO hout (hmem L.ho (by simp))
 have o4:=dO hout (hmem L.pr (by simp))
 clear a1 a2 a4 b1 b2 b3 b4 c1 c2 c3 e1' e2' f1 n1 n2 n3 n4 n5 n6
 obtain⟨d1,r1⟩:=hM.rM
 obtain⟨d3,r4⟩:=hM.rE
 obtain⟨d5,r5⟩:=hM.rH
 obtain⟨d6,r6⟩:=hM.rP
 have q1:(m.mem.map i64).length=m.mem.length:=by simp
 have q2:(m.hold.map i64).length=m.hold.length:=by simp
 have q3:(m.bu.map cg.av).length=m.bu.length:=by simp
 refine aQ IP rfl ?_
 refine cV ?_
 exact⟨⟨rfl,⟨hM.wM ht _ _ ⟨_,bq⟩ fun y hy hne=>by have:=dO hout hy;exact cB,⟨_,bq⟩,hout⟩,c8,fun y y1 y2 y3=>by have y4:=dO y3 (hmem L.ho (by simp));exact cB⟩⟩
theorem vj {u:bt} {m:MS} {t:Nat} {n:Node} {d:fJ} {ab:Nat} {L:ML} {H:Hp} {nx:Nat} (h:sd u m t n d ab L H) (hlt:∀y∈ab::L.all,y<nx) (ht:t<m.br.length) (hl:m.br.length≤8) (hva:jt m t n.a):
 cP Tryz.prog 89 [.pt ab 1 0 0] H nx (fun r H' k=>r=i64 (if m.val t n.a=0 then n.nq else n.next)∧sO u m t n { d with word:=m.val t n.a } ab L H nx H' k):=by
 have hfr:∀(v:iR) (H1:Hp),(∀y∈ab::L.all,bn H1 y=bn H y)→[.pt ab 1 0 0,v.av].map (cZ.dX H1 6)=[mX u m t n d,v.av]:=fun v H1 h1=>by
  rw[List.map_cons,List.map_cons,List.map_nil,(h.cS h1).dX,cx _ (show cE 0 v.av by simp[cE])]
 have h0:=h
 obtain⟨hM,⟨dd,ra⟩,hout⟩:=h
 obtain⟨⟨a1,a2,a3,a4,a5,b1,b2,b3,b4,c1,c2,c3,e1',e2',f1⟩,n1,n2,n3,n4,n5,n6⟩:=apart hM ht
 have hmem:=hM.mem
 have k0:=hlt ab (by simp)
 have km:=hlt L.mr (by simp)
 have ke:=hlt L.me (List.mem_cons_of_mem _ (hmem _ (by simp)))
 have kh:=hlt L.ho (List.mem_cons_of_mem _ (hmem _ (by simp)))
 have kp:=hlt L.pr (List.mem_cons_of_mem _ (hmem _ (by simp)))
 have o1:=dO hout (List.mem_cons_self (a:=L.mr))
 have o2:=dO hout (hmem L.me (by simp))
 have o3:=dO hout (hmem L.ho (by simp))
 have o4:=dO hout (hmem L.pr (by simp))
 clear a1 a2 a4 b1 b2 b3 b4 c1 c2 c3 e1' e2' f1 n1 n2 n3 n4 n5 n6
 obtain⟨d1,r1⟩:=hM.rM
 obtain⟨d3,r4⟩:=hM.rE
 obtain⟨d5,r5⟩:=hM.rH
 obtain⟨d6,r6⟩:=hM.rP
 have q1:(m.mem.map i64).length=m.mem.length:=by simp
 have q2:(m.hold.map i64).length=m.hold.length:=by simp
 have q3:(m.bu.map cg.av).length=m.bu.length:=by simp
 by_cases hz:m.val t n.a=0
 ·rw[if_pos hz]
  refine aQ DT rfl ?_
  refine cV ?_
  refine aS (iz u m n d n.a ht hl hva) (hfr n.a _ ?_) (by simp[cT,cE]) trivial ?_
  ·exact fun y hy=>rfl
  refine cV ?_
  exact⟨⟨rfl,⟨hM.cS fun y hy=>by have:=dO hout hy;exact cB,⟨_,bq⟩,hout⟩,c8,fun y y1 y2 y3=>cB⟩⟩
 ·rw[if_neg hz]
  refine aQ DT rfl ?_
  refine cV ?_
  refine aS (iz u m n d n.a ht hl hva) (hfr n.a _ ?_) (by simp[cT,cE]) trivial ?_
  ·exact fun y hy=>rfl
  refine cV ?_
  exact⟨⟨rfl,⟨hM.cS fun y hy=>by have:=dO hout hy;exact cB,⟨_,bq⟩,hout⟩,c8,fun y y1 y2 y3=>cB⟩⟩
theorem DX {u:bt} {m:MS} {t:Nat} {n:Node} {d:fJ} {ab:Nat} {L:ML} {H:Hp} {nx:Nat} (h:sd u m t n d ab L H) (hlt:∀y∈ab::L.all,y<nx) (ht:t<m.br.length) (hl:m.br.length≤8) (hs:0≤n.slot∧n.slot<(m.br.getD t []).length) (hth:0≤n.cH∧n.cH<m.mem.length):
 cP Tryz.prog 83 [.pt ab 1 0 0] H nx (fun r H' k=>r=i64 n.next∧sO u (m.dc t n.slot (m.mem.getD n.cH.toNat 0)) t n { d with cH:=n.cH,word:=m.mem.getD n.cH.toNat 0 } ab L H nx H' k):=by
 have hfr:∀(v:iR) (H1:Hp),(∀y∈ab::L.all,bn H1 y=bn H y)→[.pt ab 1 0 0,v.av].map (cZ.dX H1 6)=[mX u m t n d,v.av]:=fun v H1 h1=>by
  rw[List.map_cons,List.map_cons,List.map_nil,(h.cS h1).dX,cx _ (show cE 0 v.av by simp[cE])]
 have h0:=h
 obtain⟨hM,⟨dd,ra⟩,hout⟩:=h
 obtain⟨⟨a1,a2,a3,a4,a5,b1,b2,b3,b4,c1,c2,c3,e1',e2',f1⟩,n1,n2,n3,n4,n5,n6⟩:=apart hM ht
 have hmem:=hM.mem
 have k0:=hlt ab (by simp)
 have km:=hlt L.mr (by simp)
 have ke:=hlt L.me (List.mem_cons_of_mem _ (hmem _ (by simp)))
 have kh:=hlt L.ho (List.mem_cons_of_mem _ (hmem _ (by simp)))
 have kp:=hlt L.pr (List.mem_cons_of_mem _ (hmem _ (by simp)))
 have o1:=dO hout (List.mem_cons_self (a:=L.mr))
 have o2:=dO hout (hmem L.me (by simp))
 have o3:=dO hout (hmem L.ho (by simp))
 have o4:=dO hout (hmem L.pr (by simp))
 clear a1 a2 a4 b1 b2 b3 b4 c1 c2 c3 e1' e2' f1 n1 n2 n3 n4 n5 n6
 obtain⟨d1,r1⟩:=hM.rM
 obtain⟨d3,r4⟩:=hM.rE
 obtain⟨d5,r5⟩:=hM.rH
 obtain⟨d6,r6⟩:=hM.rP
 have q1:(m.mem.map i64).length=m.mem.length:=by simp
 have q2:(m.hold.map i64).length=m.hold.length:=by simp
 have q3:(m.bu.map cg.av).length=m.bu.length:=by simp
 have e0:=fun d=>iO (l:=m.mem) (k:=n.cH) (by omega) d
 refine aQ IK rfl ?_
 refine cV ?_
 refine aO (kD (u:=u) (t:=t) (n:=n) (d:={ d with cH:=n.cH }) (L:=L) (m:=m) (ab:=ab) ?_ ?_ ht hl hs _) ?_
 ·exact⟨hM.cS fun y hy=>by have:=dO hout hy;exact cB,⟨_,bq⟩,hout⟩
 ·exact fun y hy=>Nat.lt_of_lt_of_le (hlt y hy) c8
 rintro _ H2 n2 ⟨hA,hn2,hk2⟩
 obtain⟨dd2,ra2⟩:=hA.row
 refine cV ?_
 exact⟨⟨rfl,hA.cS fun y hy=>cB,c8,fun y y1 y2 y3=>Eq.trans cB ((hk2 y (Nat.lt_of_lt_of_le y1 c8) y2 y3).trans cB)⟩⟩
theorem AL {u:bt} {m:MS} {t:Nat} {n:Node} {d:fJ} {ab:Nat} {L:ML} {H:Hp} {nx:Nat} (h:sd u m t n d ab L H) (hlt:∀y∈ab::L.all,y<nx) (ht:t<m.br.length) (hl:m.br.length≤8) (hva:jt m t n.a) (hth:0≤n.cH∧n.cH<m.mem.length):
 cP Tryz.prog 84 [.pt ab 1 0 0] H nx (fun r H' k=>r=i64 n.next∧sO u { m with mem:=m.mem.set n.cH.toNat (m.val t n.a) } t n { d with cH:=n.cH,word:=m.val t n.a } ab L H nx H' k):=by
 have hfr:∀(v:iR) (H1:Hp),(∀y∈ab::L.all,bn H1 y=bn H y)→[.pt ab 1 0 0,v.av].map (cZ.dX H1 6)=[mX u m t n d,v.av]:=fun v H1 h1=>by
  rw[List.map_cons,List.map_cons,List.map_nil,(h.cS h1).dX,cx _ (show cE 0 v.av by simp[cE])]
 have h0:=h
 obtain⟨hM,⟨dd,ra⟩,hout⟩:=h
 obtain⟨⟨a1,a2,a3,a4,a5,b1,b2,b3,b4,c1,c2,c3,e1',e2',f1⟩,n1,n2,n3,n4,n5,n6⟩:=apart hM ht
 have hmem:=hM.mem
 have k0:=hlt ab (by simp)
 have km:=hlt L.mr (by simp)
 have ke:=hlt L.me (List.mem_cons_of_mem _ (hmem _ (by simp)))
 have kh:=hlt L.ho (List.mem_cons_of_mem _ (hmem _ (by simp)))
 have kp:=hlt L.pr (List.mem_cons_of_mem _ (hmem _ (by simp)))
 have o1:=dO hout (List.mem_cons_self (a:=L.mr))
 have o2:=dO hout (hmem L.me (by simp))
 have o3:=dO hout (hmem L.ho (by simp))
 have o4:=dO hout (hmem L.pr (by simp))
 clear a1 a2 a4 b1 b2 b3 b4 c1 c2 c3 e1' e2' f1 n1 n2 n3 n4 n5 n6
 obtain⟨d1,r1⟩:=hM.rM
 obtain⟨d3,r4⟩:=hM.rE
 obtain⟨d5,r5⟩:=hM.rH
 obtain⟨d6,r6⟩:=hM.rP
 have q1:(m.mem.map i64).length=m.mem.length:=by simp
 have q2:(m.hold.map i64).length=m.hold.length:=by simp
 have q3:(m.bu.map cg.av).length=m.bu.length:=by simp
 refine aQ IL rfl ?_
 refine cV ?_
 refine aV (ab::L.all) (iz u m n d n.a ht hl hva) (fun H1 h1=>hfr n.a H1 h1) (by simp[cT,cE]) trivial ?_
 refine Eq.mpr (rb (ab::L.all) _) (pO ?_)
 refine cV ?_
 exact⟨⟨rfl,⟨hM.fV ht _ _ ⟨_,bq⟩ fun y hy hne=>by have:=dO hout hy;exact cB,⟨_,bq⟩,hout⟩,c8,fun y y1 y2 y3=>by have y4:=dO y3 (hmem L.me (by simp));exact cB⟩⟩
theorem zd {u:bt} {m:MS} {t:Nat} {n:Node} {d:fJ} {ab:Nat} {L:ML} {H:Hp} {nx:Nat} (h:sd u m t n d ab L H) (hlt:∀y∈ab::L.all,y<nx) (ht:t<m.br.length) (hl:m.br.length≤8) (hva:jt m t n.a) (hpl:m.bu.length≤1048576):
 cP Tryz.prog 88 [.pt ab 1 0 0] H nx (fun r H' k=>r=i64 n.next∧sO u { m with bu:=m.bu++[⟨t,m.val t n.a⟩] } t n { d with word:=m.val t n.a } ab L H nx H' k):=by
 have hfr:∀(v:iR) (H1:Hp),(∀y∈ab::L.all,bn H1 y=bn H y)→[.pt ab 1 0 0,v.av].map (cZ.dX H1 6)=[mX u m t n d,v.av]:=fun v H1 h1=>by
  rw[List.map_cons,List.map_cons,List.map_nil,(h.cS h1).dX,cx _ (show cE 0 v.av by simp[cE])]
 have h0:=h
 obtain⟨hM,⟨dd,ra⟩,hout⟩:=h
 obtain⟨⟨a1,a2,a3,a4,a5,b1,b2,b3,b4,c1,c2,c3,e1',e2',f1⟩,n1,n2,n3,n4,n5,n6⟩:=apart hM ht
 have hmem:=hM.mem
 have k0:=hlt ab (by simp)
 have km:=hlt L.mr (by simp)
 have ke:=hlt L.me (List.mem_cons_of_mem _ (hmem _ (by simp)))
 have kh:=hlt L.ho (List.mem_cons_of_mem _ (hmem _ (by simp)))
 have kp:=hlt L.pr (List.mem_cons_of_mem _ (hmem _ (by simp)))
 have o1:=dO hout (List.mem_cons_self (a:=L.mr))
 have o2:=dO hout (hmem L.me (by simp))
 have o3:=dO hout (hmem L.ho (by simp))
 have o4:=dO hout (hmem L.pr (by simp))
 clear a1 a2 a4 b1 b2 b3 b4 c1 c2 c3 e1' e2' f1 n1 n2 n3 n4 n5 n6
 obtain⟨d1,r1⟩:=hM.rM
 obtain⟨d3,r4⟩:=hM.rE
 obtain⟨d5,r5⟩:=hM.rH
 obtain⟨d6,r6⟩:=hM.rP
 have q1:(m.mem.map i64).length=m.mem.length:=by simp
 have q2:(m.hold.map i64).length=m.hold.length:=by simp
 have q3:(m.bu.map cg.av).length=m.bu.length:=by simp
 refine aQ IQ rfl ?_
 refine cV ?_
 refine aS (iz u m n d n.a ht hl hva) (hfr n.a _ ?_) (by simp[cT,cE]) trivial ?_
 ·exact fun y hy=>rfl
 refine cV ?_
 exact⟨⟨rfl,⟨hM.zb ht _ ⟨_,by simp only[MS.rows,List.length_append,List.length_cons,List.length_nil];exact bq⟩ ⟨_,bq⟩ fun y hy hne hn2=>by have:=dO hout hy;have:=hlt y (List.mem_cons_of_mem _ hy);exact cB,⟨_,bq⟩,hout⟩,c8,fun y y1 y2 y3=>by have y4:=dO y3 (List.mem_cons_self (a:=L.mr));have y5:=dO y3 (hmem L.pr (by simp));exact cB⟩⟩
theorem ET {u:bt} {m:MS} {t:Nat} {n:Node} {d:fJ} {ab:Nat} {L:ML} {H:Hp} {nx:Nat} (h:sd u m t n d ab L H) (hlt:∀y∈ab::L.all,y<nx) (ht:t<m.br.length) (hl:m.br.length≤8) (hva:jt m t n.a) (hs:0≤n.slot∧n.slot<(m.br.getD t []).length) (hth:0≤n.cH∧n.cH<m.mem.length):
 cP Tryz.prog 85 [.pt ab 1 0 0] H nx (fun r H' k=>r=i64 n.next∧sO u { m.dc t n.slot (m.mem.getD n.cH.toNat 0) with mem:=m.mem.set n.cH.toNat (m.val t n.a) } t n { d with cH:=n.cH,word:=m.mem.getD n.cH.toNat 0,put:=m.val t n.a } ab L H nx H' k):=by
 have hfr:∀(v:iR) (H1:Hp),(∀y∈ab::L.all,bn H1 y=bn H y)→[.pt ab 1 0 0,v.av].map (cZ.dX H1 6)=[mX u m t n d,v.av]:=fun v H1 h1=>by
  rw[List.map_cons,List.map_cons,List.map_nil,(h.cS h1).dX,cx _ (show cE 0 v.av by simp[cE])]
 have h0:=h
 obtain⟨hM,⟨dd,ra⟩,hout⟩:=h
 obtain⟨⟨a1,a2,a3,a4,a5,b1,b2,b3,b4,c1,c2,c3,e1',e2',f1⟩,n1,n2,n3,n4,n5,n6⟩:=apart hM ht
 have hmem:=hM.mem
 have k0:=hlt ab (by simp)
 have km:=hlt L.mr (by simp)
 have ke:=hlt L.me (List.mem_cons_of_mem _ (hmem _ (by simp)))
 have kh:=hlt L.ho (List.mem_cons_of_mem _ (hmem _ (by simp)))
 have kp:=hlt L.pr (List.mem_cons_of_mem _ (hmem _ (by simp)))
 have o1:=dO hout (List.mem_cons_self (a:=L.mr))
 have o2:=dO hout (hmem L.me (by simp))
 have o3:=dO hout (hmem L.ho (by simp))
 have o4:=dO hout (hmem L.pr (by simp))
 clear a1 a2 a4 b1 b2 b3 b4 c1 c2 c3 e1' e2' f1 n1 n2 n3 n4 n5 n6
 obtain⟨d1,r1⟩:=hM.rM
 obtain⟨d3,r4⟩:=hM.rE
 obtain⟨d5,r5⟩:=hM.rH
 obtain⟨d6,r6⟩:=hM.rP
 have q1:(m.mem.map i64).length=m.mem.length:=by simp
 have q2:(m.hold.map i64).length=m.hold.length:=by simp
 have q3:(m.bu.map cg.av).length=m.bu.length:=by simp
 have e0:=fun d=>iO (l:=m.mem) (k:=n.cH) (by omega) d
 refine aQ IM rfl ?_
 refine cV ?_
 refine aV (ab::L.all) (iz u m n d n.a ht hl hva) (fun H1 h1=>hfr n.a H1 h1) (by simp[cT,cE]) trivial ?_
 refine Eq.mpr (rb (ab::L.all) _) (pO ?_)
 refine cV ?_
 refine aO (kD (u:=u) (t:=t) (n:=n) (d:={ d with cH:=n.cH,put:=m.val t n.a }) (L:=L) (m:=m) (ab:=ab) ?_ ?_ ht hl hs _) ?_
 ·exact⟨hM.cS fun y hy=>by have:=dO hout hy;exact cB,⟨_,bq⟩,hout⟩
 ·exact fun y hy=>Nat.lt_of_lt_of_le (hlt y hy) c8
 rintro _ H2 n2 ⟨hA,hn2,hk2⟩
 obtain⟨dd2,ra2⟩:=hA.row
 obtain⟨d8,r8⟩:=hA.M.rM
 obtain⟨d9,r9⟩:=hA.M.rE
 refine cV ?_
 have ht2:t<(m.dc t n.slot (m.mem.getD n.cH.toNat 0)).br.length:=by simp only[MS.dc,List.length_set];exact ht
 exact⟨⟨rfl,⟨hA.M.fV ht2 _ _ ⟨_,bq⟩ fun y hy hne=>by have:=dO hout hy;exact cB,⟨_,bq⟩,hout⟩,c8,fun y y1 y2 y3=>by have y4:=dO y3 (hmem L.me (by simp));exact Eq.trans cB ((hk2 y (Nat.lt_of_lt_of_le y1 c8) y2 y3).trans cB)⟩⟩
theorem JR {u:bt} {m:MS} {t:Nat} {n:Node} {d:fJ} {ab:Nat} {L:ML} {H:Hp} {nx:Nat} (h:sd u m t n d ab L H) (hlt:∀y∈ab::L.all,y<nx) (ht:t<m.br.length) (hl:m.br.length≤8) (hs:0≤n.slot∧n.slot<(m.br.getD t []).length) (hva:jt m t n.a) (hvb:dW n.op=true→jt m t n.b) (hop:0≤n.op∧n.op<19):
 cP Tryz.prog 82 [.pt ab 1 0 0] H nx (fun r H' k=>r=i64 n.next∧sO u (m.dc t n.slot (m.l9 t n)) t n { d with word:=m.l9 t n } ab L H nx H' k):=by
 have hfr:∀(v:iR) (H1:Hp),(∀y∈ab::L.all,bn H1 y=bn H y)→[.pt ab 1 0 0,v.av].map (cZ.dX H1 6)=[mX u m t n d,v.av]:=fun v H1 h1=>by
  rw[List.map_cons,List.map_cons,List.map_nil,(h.cS h1).dX,cx _ (show cE 0 v.av by simp[cE])]
 have h0:=h
 obtain⟨hM,⟨dd,ra⟩,hout⟩:=h
 obtain⟨⟨a1,a2,a3,a4,a5,b1,b2,b3,b4,c1,c2,c3,e1',e2',f1⟩,n1,n2,n3,n4,n5,n6⟩:=apart hM ht
 have hmem:=hM.mem
 have k0:=hlt ab (by simp)
 have km:=hlt L.mr (by simp)
 have ke:=hlt L.me (List.mem_cons_of_mem _ (hmem _ (by simp)))
 have kh:=hlt L.ho (List.mem_cons_of_mem _ (hmem _ (by simp)))
 have kp:=hlt L.pr (List.mem_cons_of_mem _ (hmem _ (by simp)))
 have o1:=dO hout (List.mem_cons_self (a:=L.mr))
 have o2:=dO hout (hmem L.me (by simp))
 have o3:=dO hout (hmem L.ho (by simp))
 have o4:=dO hout (hmem L.pr (by simp))
 clear a1 a2 a4 b1 b2 b3 b4 c1 c2 c3 e1' e2' f1 n1 n2 n3 n4 n5 n6
 obtain⟨d1,r1⟩:=hM.rM
 obtain⟨d3,r4⟩:=hM.rE
 obtain⟨d5,r5⟩:=hM.rH
 obtain⟨d6,r6⟩:=hM.rP
 have q1:(m.mem.map i64).length=m.mem.length:=by simp
 have q2:(m.hold.map i64).length=m.hold.length:=by simp
 have q3:(m.bu.map cg.av).length=m.bu.length:=by simp
 have c0:=fP n.op hop.1
 unfold MS.l9
 cases h2:dW n.op with
 |true=>
  rw[h2] at c0
  have c1:=N1 n.op (m.val t n.a) (m.val t n.b) h2
  have hvb:=hvb h2
  rw[if_pos rfl]
  refine aQ zN rfl ?_
  refine cV ?_
  refine aS (iz u m n d n.a ht hl hva) (hfr n.a _ ?_) (by simp[cT,cE]) trivial ?_
  ·exact fun y hy=>rfl
  refine cV ?_
  refine aV (ab::L.all) (iz u m n d n.b ht hl hvb) (fun H1 h1=>hfr n.b H1 h1) (by simp[cT,cE]) trivial ?_
  refine Eq.mpr (rb (ab::L.all) _) (pO ?_)
  refine cV ?_
  refine aO (kD (u:=u) (t:=t) (n:=n) (d:=d) (L:=L) (m:=m) (ab:=ab) ?_ ?_ ht hl hs _) ?_
  ·exact⟨hM.cS fun y hy=>by have:=dO hout hy;exact cB,⟨_,bq⟩,hout⟩
  ·exact fun y hy=>Nat.lt_of_lt_of_le (hlt y hy) c8
  rintro _ H2 n2 ⟨hA,hn2,hk2⟩
  obtain⟨dd2,ra2⟩:=hA.row
  refine cV ?_
  exact⟨⟨rfl,hA.cS fun y hy=>cB,c8,fun y y1 y2 y3=>Eq.trans cB ((hk2 y (Nat.lt_of_lt_of_le y1 c8) y2 y3).trans cB)⟩⟩
 |false=>
  rw[h2] at c0
  rw[if_neg (by decide)]
  by_cases h0':n.op=0
  ·rw[if_neg (fun e=>e h0')]
   refine aQ zN rfl ?_
   refine cV ?_
   refine aS (iz u m n d n.a ht hl hva) (hfr n.a _ ?_) (by simp[cT,cE]) trivial ?_
   ·exact fun y hy=>rfl
   refine cV ?_
   refine aO (kD (u:=u) (t:=t) (n:=n) (d:=d) (L:=L) (m:=m) (ab:=ab) ?_ ?_ ht hl hs _) ?_
   ·exact⟨hM.cS fun y hy=>by have:=dO hout hy;exact cB,⟨_,bq⟩,hout⟩
   ·exact fun y hy=>Nat.lt_of_lt_of_le (hlt y hy) c8
   rintro _ H2 n2 ⟨hA,hn2,hk2⟩
   obtain⟨dd2,ra2⟩:=hA.row
   refine cV ?_
   exact⟨⟨rfl,hA.cS fun y hy=>cB,c8,fun y y1 y2 y3=>Eq.trans cB ((hk2 y (Nat.lt_of_lt_of_le y1 c8) y2 y3).trans cB)⟩⟩
  ·rw[if_pos h0']
   have c1:=KF n.op (m.val t n.a) (by unfold dW at h2;simp only[Bool.and_eq_false_iff,decide_eq_false_iff_not] at h2;omega)
   refine aQ zN rfl ?_
   refine cV ?_
   refine aS (iz u m n d n.a ht hl hva) (hfr n.a _ ?_) (by simp[cT,cE]) trivial ?_
   ·exact fun y hy=>rfl
   refine cV ?_
   refine aO (kD (u:=u) (t:=t) (n:=n) (d:=d) (L:=L) (m:=m) (ab:=ab) ?_ ?_ ht hl hs _) ?_
   ·exact⟨hM.cS fun y hy=>by have:=dO hout hy;exact cB,⟨_,bq⟩,hout⟩
   ·exact fun y hy=>Nat.lt_of_lt_of_le (hlt y hy) c8
   rintro _ H2 n2 ⟨hA,hn2,hk2⟩
   obtain⟨dd2,ra2⟩:=hA.row
   refine cV ?_
   exact⟨⟨rfl,hA.cS fun y hy=>cB,c8,fun y y1 y2 y3=>Eq.trans cB ((hk2 y (Nat.lt_of_lt_of_le y1 c8) y2 y3).trans cB)⟩⟩
end Go.Proofs.YtekfmjjmihomlaaGreat
end
