import Derived.Test.YtmonponfppdgfaaGreatDoorM40
import Derived.Test.YtmonponfppdgfaaGreatDoorM21
section
/- Units in rows, and copies of units: the walk. -/
namespace Go.Proofs.YtmonponfppdgfaaGreatDoor
open Go Go.Abs Go.Proofs
set_option linter.unusedSimpArgs false
set_option linter.unusedVariables false
abbrev gCell (x:Nat) (g:Graph):AV:=.agg [st g.name,i64 g.locals,i64 g.slots,.sl x g.nodes.length]
def gRow (ids:List Nat) (gs:List Graph):List AV:=List.zipWith gCell ids gs
abbrev unitX (sh lk gr:Nat) (u:UnitS):AV:=.agg [.sl sh u.shared.length,.sl lk u.locks.length,.sl gr u.graphs.length]
theorem gRow_len {ids:List Nat} {gs:List Graph} (h:ids.length = gs.length):(gRow ids gs).length = gs.length:=by simp [gRow,h]
theorem gRow_get {ids:List Nat} {gs:List Graph} (h:ids.length = gs.length) {t:Nat} (ht:t < gs.length) (d:AV):(gRow ids gs).getD t d = gCell (ids.getD t 0) (gs.getD t default):=by
 have h1:t < (gRow ids gs).length:=by rw [gRow_len h];exact ht
 rw [gd h1,gd (by omega),gd ht]
 simp [gRow]
theorem gRow_app {ids:List Nat} {gs:List Graph} (h:ids.length = gs.length) (x:Nat) (g:Graph):gRow (ids ++ [x]) (gs ++ [g]) = gRow ids gs ++ [gCell x g]:=by
 unfold gRow
 rw [List.zipWith_append h];rfl
structure UAt (sh lk gr:Nat) (ids:List Nat) (u:UnitS) (H:Hp):Prop where
 nodup:(sh :: lk :: gr :: ids).Nodup
 len:ids.length = u.graphs.length
 sh:∃ d,getH H sh = some (.row 48 3 d (u.shared.map Decl.av))
 lk:∃ d,getH H lk = some (.row 48 3 d (u.locks.map Decl.av))
 gr:∃ d,getH H gr = some (.row 40 4 d (gRow ids u.graphs))
 nds:∀ t,t < u.graphs.length→∃ d,getH H (ids.getD t 0) = some (.row 46 13 d ((u.gr t).nodes.map Node.av))
theorem UAt.keep {sh lk gr:Nat} {ids:List Nat} {u:UnitS} {H H':Hp} (h:UAt sh lk gr ids u H) (hk:∀ x ∈ sh :: lk :: gr :: ids,getH H' x = getH H x):UAt sh lk gr ids u H':=by
 refine ⟨h.nodup,h.len,?_,?_,?_,fun t ht => ?_⟩
 ·rw [hk sh (by simp)];exact h.sh
 ·rw [hk lk (by simp)];exact h.lk
 ·rw [hk gr (by simp)];exact h.gr
 ·rw [hk _ (List.mem_cons_of_mem _ (List.mem_cons_of_mem _ (List.mem_cons_of_mem _ (getD_mem (by rw [h.len];exact ht)))))];exact h.nds t ht
theorem UAt.frz {sh lk gr:Nat} {ids:List Nat} {u:UnitS} {H:Hp} (h:UAt sh lk gr ids u H) (k:Nat):Abs.frz H (k + 4) (unitX sh lk gr u) = u.av:=by
 obtain ⟨d1,h1⟩:=h.sh
 obtain ⟨d2,h2⟩:=h.lk
 obtain ⟨d3,h3⟩:=h.gr
 rw [frz_agg]
 simp only [List.map_cons,List.map_nil]
 rw [frz_sl h1 (by simp),frz_sl h2 (by simp),frz_sl h3 (gRow_len h.len),frz_same _ (fit_decls _),frz_same _ (fit_decls _)]
 have:(gRow ids u.graphs).map (Abs.frz H (k + 2)) = u.graphs.map Graph.av:=by
  apply List.ext_getElem (by simp [gRow,h.len])
  intro t q1 q2
  have ht:t < u.graphs.length:=by simpa using q2
  obtain ⟨d,hd⟩:=h.nds t ht
  have e1:(gRow ids u.graphs)[t]'(by simpa using q1) = gCell (ids.getD t 0) (u.gr t):=by rw [← gRow_get h.len ht .any,gd]
  rw [List.getElem_map,e1,List.getElem_map,frz_agg]
  simp only [List.map_cons,List.map_nil]
  rw [frz_fit _ (by simp [fitA]),frz_fit _ (by simp [fitA]),frz_fit _ (by simp [fitA]),frz_sl hd (by simp),frz_same _ (fit_nodes _)]
  have:u.gr t = u.graphs[t]:=by simp [UnitS.gr,List.getD,ht]
  rw [this];rfl
 rw [this];rfl
set_option maxRecDepth 4000 in
theorem copyG_call (g:Graph) (hg:g.Wf) (h96:g.nodes.length * 96 ≤ 140737488351232):CallN Tryz.prog 35 [g.av] [] 0 (fun r H n => ∃ b d,r = .agg ([st g.name,i64 g.locals,i64 g.slots] ++ [.sl b (g.nodes.map Node.av).length])∧getH H b = some (.row 46 13 d (g.nodes.map Node.av))):=by
 have hl:=hg.len
 refine Go.fnL lf35 rfl ?_
 repeat' (first|((with_reducible refine Go.red ?_);conv => whnf)|refine aG ?_|exact aCn|with_reducible refine Go.and ?_ ?_|((with_reducible refine Ask.mk ?_);first|exact aAsk|(refine app_le (m:=g.nodes.length) (by simp) ?_;omega)|(simp only [List.length_map];omega)|exact aAsk2|(intro h;simp_all [Graph.cells] <;> fail)|(simp_all [Graph.cells] <;> fail))|(apply Go.elem;(·exact aElem))|refine aH ?_|((with_reducible refine Go.bool ?_ ?_) <;> intro hc <;> (try simp only [List.length_map,ne_eq,hcs] at hc) <;> try (exfalso;omega)))
 exact ⟨⟨2,_,by simp [Graph.cells],aRow⟩⟩
set_option maxRecDepth 4000 in
set_option maxHeartbeats 4000000 in
theorem copy_call (u:UnitS) (hu:u.Wf) (h96:∀ g ∈ u.graphs,g.nodes.length * 96 ≤ 140737488351232) (H0:Hp) (nx:Nat):CallN Tryz.prog 14 [u.av] H0 nx (fun r H n => ∃ sh lk gr ids,r = unitX sh lk gr u∧UAt sh lk gr ids u H∧(∀ x ∈ sh :: lk :: gr :: ids,nx ≤ x∧x < n)∧nx ≤ n∧∀ y,y < nx→getH H y = getH H0 y):=by
 have hs:=hu.sharedlen
 have hk:=hu.lockslen
 have hgl:=hu.graphslen
 refine Go.fnL lf14 rfl ?_
 repeat' (first|((with_reducible refine Go.red ?_);conv => whnf)|refine aG ?_|exact aCn|with_reducible refine Go.and ?_ ?_|((with_reducible refine Ask.mk ?_);first|exact aAsk|(refine app_le rfl ?_;simp only [List.length_map];omega)|exact aAsk2|(intro h;simp_all [UnitS.cells] <;> fail)|(simp_all [UnitS.cells] <;> fail))|(apply Go.elem;(·exact aElem))|refine aH ?_|((with_reducible refine Go.bool ?_ ?_) <;> intro hc <;> (try simp only [List.length_map,ne_eq,hcs] at hc) <;> try (exfalso;omega)))
 have z1:0 + (u.shared.map Decl.av).length = u.shared.length:=by simp
 have z2:0 + (u.locks.map Decl.av).length = u.locks.length:=by simp
 try rw [z1]
 try rw [z2]
 refine Go.loopF (fun σ:Nat × List Nat => [(1,.pt nx 1 0 0),(2,.pt (nx + 1) 1 0 0),(3,.pt (nx + 11) 1 0 0),(4,i64 σ.1)])
  (fun σ H n => σ.1 ≤ u.graphs.length∧nx + 15 ≤ n∧σ.2.length = σ.1∧σ.2.Nodup∧(∀ x ∈ σ.2,nx + 15 ≤ x∧x < n)∧(∃ d,getH H nx = some (.row 25 3 d [u.av]))∧(∃ d,getH H (nx + 1) = some (.row 25 3 d [zav true [.slice none 0 0,.slice none 0 0,.slice none 0 0]]))∧(∃ d,getH H (nx + 11) = some (.row 25 3 d [.agg [.sl (nx + 2) u.shared.length,.sl (nx + 6) u.locks.length,.sl (nx + 14) σ.1]]))∧(∃ d,getH H (nx + 2) = some (.row 48 3 d (u.shared.map Decl.av)))∧(∃ d,getH H (nx + 6) = some (.row 48 3 d (u.locks.map Decl.av)))∧(∃ d,getH H (nx + 14) = some (.row 40 4 d (gRow σ.2 (u.graphs.take σ.1))))∧(∀ t,t < σ.1→∃ d,getH H (σ.2.getD t 0) = some (.row 46 13 d ((u.gr t).nodes.map Node.av)))∧∀ y,y < nx→getH H y = getH H0 y) (fun σ => u.graphs.length - σ.1) (0,[])
  ⟨_,_,_,Rt.wk (Wk.nilCell (b:=nx + 11) (e:=40) (sz:=4) (by simp only [List.length_cons,List.length_nil];omega) (by omega) (te:=25) (tz:=3) (cs:=[.sl (nx + 2) u.shared.length,.sl (nx + 6) u.locks.length,.sc (.slice none 0 0)]) (j:=2) aRow (by show 2 < 3;omega) rfl),aLess,Nat.zero_le _,aNx,rfl,List.nodup_nil,fun x hx => by simp at hx,⟨_,aRow⟩,⟨_,aRow⟩,⟨_,aRow⟩,⟨_,aRow⟩,⟨_,aRow⟩,⟨_,aRow⟩,fun t ht => absurd ht (Nat.not_lt_zero _),fun y hy => aSkip⟩ ?_
 rintro ⟨t,ids⟩ H n ⟨ht,hn,hil,hnd,hin,⟨d0,r0⟩,⟨d1,r1⟩,⟨d11,r11⟩,⟨d2,r2⟩,⟨d6,r6⟩,⟨d14,r14⟩,hnds,hkp⟩
 dsimp only at ht hil hnd hin r11 r14 hnds ⊢
 have htk:(u.graphs.take t).length = t:=by rw [List.length_take];omega
 have hgl:(gRow ids (u.graphs.take t)).length = t:=by rw [gRow_len (by rw [hil,htk]),htk]
 by_cases htl:t < u.graphs.length
 ·have eg:=fun d => gr_at (l:=u.graphs) htl d
  have hgm:=getD_mem' (default:Graph) htl
  have hcg:=copyG_call (u.graphs.getD t default) (hu.graphs _ hgm) (h96 _ hgm)
  have hnx:gRow (ids ++ [n + 12]) (u.graphs.take (t + 1)) = gRow ids (u.graphs.take t) ++ [gCell (n + 12) (u.graphs.getD t default)]:=by
   rw [List.take_succ_eq_append_getElem htl,gRow_app (by rw [hil,htk]),show u.graphs.getD t default = u.graphs[t] by simp [List.getD,htl]]
  have hgr:u.gr t = u.graphs.getD t default:=rfl
  generalize u.graphs.getD t default = g at *
  have hfz:∀ H1:Hp,[g.av].map (Abs.frz H1 6) = [g.av]:=fun H1 => by rw [List.map_cons,List.map_nil,frz_fit 6 (fit_graphAv g)]
  have hft:fitL 0 [g.av]:=⟨fit_graphAv g,trivial⟩
  have hflat:∀ i,i < (g.nodes.map Node.av).length→flatR ((g.nodes.map Node.av).getD i .any):=fun i hi => by
   rw [getD_av Node.av _ _ _ (by simpa using hi)]
   simp [flatR,flatL,Node.cells]
  repeat' (first|((with_reducible refine Go.red ?_);conv => whnf)|refine aG ?_|exact aCn|with_reducible refine Go.and ?_ ?_|((with_reducible refine Ask.mk ?_);first|exact aAsk|(exact hgl)|(refine app_le rfl ?_;simp only [List.length_map];omega)|exact aAsk2|(intro h;simp_all [UnitS.cells] <;> fail)|(simp_all [UnitS.cells] <;> fail))|(apply Go.elem;(·(first|exact eg _|exact aElem)))|(refine Go.freshAE [] .any (cs:=[st g.name,i64 g.locals,i64 g.slots]) trivial hcg hflat (fun H1 _ => hfz H1) hft ?_)|refine aH ?_|((with_reducible refine Go.bool ?_ ?_) <;> intro hc <;> (try simp only [List.length_map,ne_eq,hcs] at hc) <;> try (exfalso;omega)))
  refine ⟨(t + 1,ids ++ [n + 12]),by dsimp only;omega,_,_,_,Rt.refl _ _ _,aLess,by dsimp only;omega,by omega,by simp [hil],?_,?_,⟨_,aRow⟩,⟨_,aRow⟩,⟨_,aRow⟩,⟨_,aRow⟩,⟨_,aRow⟩,⟨_,by dsimp only;rw [hnx,List.length_map];exact aRow⟩,?_,fun y hy => Eq.trans aSkip (hkp y hy)⟩
  ·refine List.nodup_append.2 ⟨hnd,by simp,fun a ha b hb => ?_⟩
   simp only [List.mem_cons,List.not_mem_nil,or_false] at hb
   have:=hin _ ha;omega
  ·intro x hx
   rcases List.mem_append.1 hx with hx|hx
   ·have:=hin _ hx;exact ⟨this.1,Nat.lt_of_lt_of_le this.2 aNx⟩
   ·simp only [List.mem_cons,List.not_mem_nil,or_false] at hx
    subst hx;exact ⟨by omega,aNx⟩
  ·intro q hq
   have hq:q < t + 1:=hq
   by_cases e:q = t
   ·subst e
    have e2:(ids ++ [n + 12]).getD q 0 = n + 12:=by rw [List.getD,List.getElem?_append_right (by omega),hil,Nat.sub_self];rfl
    dsimp only
    rw [e2,hgr];exact ⟨_,aRow⟩
   ·obtain ⟨d,hd⟩:=hnds q (by omega)
    have e2:(ids ++ [n + 12]).getD q 0 = ids.getD q 0:=by simp [List.getD,List.getElem?_append,show q < ids.length by omega]
    have:=hin _ (getD_mem (l:=ids) (q:=q) (by omega))
    dsimp only
    rw [e2];exact ⟨d,Eq.trans aSkip hd⟩
 ·have:t = u.graphs.length:=by omega
  subst this
  rw [List.take_length] at r14
  repeat' (first|((with_reducible refine Go.red ?_);conv => whnf)|refine aG ?_|exact aCn|with_reducible refine Go.and ?_ ?_|((with_reducible refine Ask.mk ?_);first|exact aAsk|exact aAsk2|(intro h;simp_all [UnitS.cells] <;> fail)|(simp_all [UnitS.cells] <;> fail))|(apply Go.elem;(·exact aElem))|refine aH ?_|((with_reducible refine Go.bool ?_ ?_) <;> intro hc <;> (try simp only [List.length_map,ne_eq,hcs] at hc) <;> try (exfalso;omega)))
  refine ⟨⟨nx + 2,nx + 6,nx + 14,ids,rfl,⟨?_,hil,⟨_,aRow⟩,⟨_,aRow⟩,⟨_,aRow⟩,fun t ht => ?_⟩,?_,aNx,fun y hy => Eq.trans aSkip (hkp y hy)⟩⟩
  ·refine List.nodup_cons.2 ⟨?_,List.nodup_cons.2 ⟨?_,List.nodup_cons.2 ⟨fun h => ?_,hnd⟩⟩⟩
   ·simp only [List.mem_cons,not_or]
    exact ⟨by omega,by omega,fun h => by have:=hin _ h;omega⟩
   ·simp only [List.mem_cons,not_or]
    exact ⟨by omega,fun h => by have:=hin _ h;omega⟩
   ·have:=hin _ h;omega
  ·obtain ⟨d,hd⟩:=hnds t ht
   have:=hin _ (getD_mem (l:=ids) (q:=t) (by omega))
   exact ⟨d,Eq.trans aSkip hd⟩
  ·intro x hx
   simp only [List.mem_cons] at hx
   rcases hx with rfl|rfl|rfl|hx
   ·exact ⟨by omega,by omega⟩
   ·exact ⟨by omega,by omega⟩
   ·exact ⟨by omega,by omega⟩
   ·have:=hin _ hx;exact ⟨by omega,by omega⟩
theorem copy_pure (u:UnitS) (hu:u.Wf) (h96:∀ g ∈ u.graphs,g.nodes.length * 96 ≤ 140737488351232):Pure Tryz.prog 14 [u.av] (fun r => r = u.av):=by
 refine pure_of_call ((copy_call u hu h96 [] 0).mono ?_) (fit_unitAv u)
 rintro r H n ⟨sh,lk,gr,ids,rfl,hA,_⟩
 exact hA.frz 2
def someH (S:List Nat) (H:Hp):Hp:=H.filter fun q => decide (q.1 ∈ S)
theorem getH_some {S:List Nat} {b:Nat} (hb:b ∈ S):∀ H:Hp,getH (someH S H) b = getH H b
 | [] => rfl
 | (d,v) :: H => by
  unfold someH
  by_cases hd:d ∈ S
  ·rw [List.filter_cons_of_pos (by simpa using hd)]
   by_cases e:b = d
   ·subst e;rw [getH_here,getH_here]
   ·rw [getH_skipEq e,getH_skipEq e];exact getH_some hb H
  ·rw [List.filter_cons_of_neg (by simpa using hd),getH_skipEq (fun e => hd (by rw [← e];exact hb))]
   exact getH_some hb H
theorem ice_agg {G:Hp} {k:Nat} {cs:List AV}:Abs.ice G (k + 1) (.agg cs) = .agg (cs.map (Abs.ice G k)):=rfl
theorem ice_node (G:Hp) (k:Nat) (n:Node):Abs.ice G k n.av = n.av:=by
 cases k with
 | zero => rfl
 | succ k => rw [ice_agg];simp only [Node.cells,List.map_cons,List.map_nil,ice_sc];rfl
theorem ice_decl (G:Hp) (k:Nat) (n:Decl):Abs.ice G k n.av = n.av:=by
 cases k with
 | zero => rfl
 | succ k => rw [ice_agg];simp only [Decl.cells,List.map_cons,List.map_nil,ice_sc];rfl
theorem UAt.ice {sh lk gr:Nat} {ids:List Nat} {u:UnitS} {H:Hp} (h:UAt sh lk gr ids u H) (k:Nat):Abs.ice (someH (sh :: lk :: gr :: ids) H) (k + 4) (unitX sh lk gr u) = u.av:=by
 obtain ⟨d1,h1⟩:=h.sh
 obtain ⟨d2,h2⟩:=h.lk
 obtain ⟨d3,h3⟩:=h.gr
 have g1:=(getH_some (S:=sh :: lk :: gr :: ids) (b:=sh) (by simp) H).trans h1
 have g2:=(getH_some (S:=sh :: lk :: gr :: ids) (b:=lk) (by simp) H).trans h2
 have g3:=(getH_some (S:=sh :: lk :: gr :: ids) (b:=gr) (by simp) H).trans h3
 rw [ice_agg]
 simp only [List.map_cons,List.map_nil]
 rw [ice_sl g1 (by simp),ice_sl g2 (by simp),ice_sl g3 (gRow_len h.len)]
 have e1:∀ (l:List Decl) k,(l.map Decl.av).map (Abs.ice (someH (sh :: lk :: gr :: ids) H) k) = l.map Decl.av:=fun l k => by rw [List.map_map];exact List.map_congr_left fun d _ => ice_decl _ _ d
 have e2:∀ (l:List Node) k,(l.map Node.av).map (Abs.ice (someH (sh :: lk :: gr :: ids) H) k) = l.map Node.av:=fun l k => by rw [List.map_map];exact List.map_congr_left fun d _ => ice_node _ _ d
 rw [e1,e1]
 have:(gRow ids u.graphs).map (Abs.ice (someH (sh :: lk :: gr :: ids) H) (k + 2)) = u.graphs.map Graph.av:=by
  apply List.ext_getElem (by simp [gRow,h.len])
  intro t q1 q2
  have ht:t < u.graphs.length:=by simpa using q2
  obtain ⟨d,hd⟩:=h.nds t ht
  have g4:=(getH_some (S:=sh :: lk :: gr :: ids) (b:=ids.getD t 0) (List.mem_cons_of_mem _ (List.mem_cons_of_mem _ (List.mem_cons_of_mem _ (getD_mem (by rw [h.len];exact ht))))) H).trans hd
  have e1:(gRow ids u.graphs)[t]'(by simpa using q1) = gCell (ids.getD t 0) (u.gr t):=by rw [← gRow_get h.len ht .any,gd]
  rw [List.getElem_map,e1,List.getElem_map,ice_agg]
  simp only [List.map_cons,List.map_nil]
  rw [ice_sc,ice_sc,ice_sc,ice_sl g4 (by simp),e2]
  have:u.gr t = u.graphs[t]:=by simp [UnitS.gr,List.getD,ht]
  rw [this];rfl
 rw [this];rfl
end Go.Proofs.YtmonponfppdgfaaGreatDoor
end
section
/- Units held one against another by the document; calm threads: the walk. -/
namespace Go.Proofs.YtmonponfppdgfaaGreatDoor
open Go Go.Abs Go.Proofs
set_option linter.unusedSimpArgs false
set_option linter.unusedVariables false
theorem bneB (a b:ByteArray):(a != b) = !decide (a = b):=by rw [bne,beqB]
theorem rdecls_pure (l m:List Decl) (hl:l.length * 32 ≤ 140737488351232) (hm:m.length * 32 ≤ 140737488351232):Pure Tryz.prog 32 [declsAv l,declsAv m] (fun r => r = bl (decide (l = m))):=by
 refine Go.pureL lf32 rfl ?_
 repeat' (first|((with_reducible refine Go.red ?_);conv => whnf)|refine aG ?_|exact aC|with_reducible refine Go.and ?_ ?_|(apply Go.elem;(·exact aElem))|refine aH ?_|((with_reducible refine Go.bool ?_ ?_) <;> intro hc <;> (try simp only [List.length_map,ne_eq,hcs] at hc) <;> try (exfalso;omega)))
 ·refine bl_eq (Eq.symm ?_)
  exact decide_eq_false fun e => hc (by rw [e])
 ·have hlm:l.length = m.length:=by omega
  refine Go.loop (fun i:Nat => [(0,declsAv l),(1,declsAv m),(5,i64 i)])
   (fun i H n => i ≤ l.length∧∀ j,j < i→l.getD j default = m.getD j default) (fun i => l.length - i) 0 aLess ⟨Nat.zero_le _,fun _ h => by omega⟩ ?_
  rintro i H n ⟨hi,hall⟩
  by_cases hil:i < l.length
  ·have e1:=fun d => dec_at (l:=l) hil d
   have e2:=fun d => dec_at (l:=m) (i:=i) (by omega) d
   repeat' (first|((with_reducible refine Go.red ?_);conv => whnf)|refine aG ?_|exact aCn|with_reducible refine Go.and ?_ ?_|((with_reducible refine Ask.mk ?_);first|exact aAsk|exact aAsk2|(intro h;simp_all [Decl.cells] <;> fail)|(simp_all [Decl.cells] <;> fail))|(apply Go.elem;(·(first|exact e1 _|exact e2 _|exact aElem)))|refine aH ?_|((with_reducible refine Go.bool ?_ ?_) <;> intro hc <;> (try simp only [List.length_map,ne_eq,hcs] at hc) <;> try (exfalso;omega)))
   ·refine bl_eq (Eq.symm ?_)
    refine decide_eq_false fun e => ?_
    rw [e] at hc
    simp [beqB] at hc
   ·refine ⟨i + 1,by omega,aLess,by omega,fun j hj => ?_⟩
    by_cases hji:j = i
    ·subst hji
     obtain ⟨h1,h2,h3,_⟩:=hc
     rw [beqB,decide_eq_true_eq] at h1
     exact Decl.ext3 h1 h2 h3
    ·exact hall j (by omega)
  ·have:i = l.length:=by omega
   subst this
   repeat' (first|((with_reducible refine Go.red ?_);conv => whnf)|refine aG ?_|exact aC|with_reducible refine Go.and ?_ ?_|(apply Go.elem;(·exact aElem))|refine aH ?_|((with_reducible refine Go.bool ?_ ?_) <;> intro hc <;> (try simp only [List.length_map,ne_eq,hcs] at hc) <;> try (exfalso;omega)))
   refine bl_eq (Eq.symm ?_)
   exact decide_eq_true (list_eq default hlm hall)
set_option maxRecDepth 4000 in
set_option maxHeartbeats 8000000 in
theorem rgraph_pure (a b:Graph) (ha:a.Wf) (hb:b.Wf):Pure Tryz.prog 33 [a.av,b.av] (fun r => r = bl (decide (a = b))):=by
 have hla:=ha.len
 have hlb:=hb.len
 refine Go.pureL lf33 rfl ?_
 repeat' (first|((with_reducible refine Go.red ?_);conv => whnf)|refine aG ?_|exact aCn|with_reducible refine Go.and ?_ ?_|((with_reducible refine Ask.mk ?_);first|exact aAsk|exact aAsk2|(intro h;simp_all [Graph.cells] <;> fail)|(simp_all [Graph.cells] <;> fail))|(apply Go.elem;(·exact aElem))|refine aH ?_|((with_reducible refine Go.bool ?_ ?_) <;> intro hc <;> (try simp only [List.length_map,ne_eq,hcs] at hc) <;> try (exfalso;omega)))
 ·refine bl_eq (Eq.symm ?_)
  refine decide_eq_false fun e => ?_
  rw [e] at hc
  simp [bneB] at hc
 ·have hnm:a.name = b.name∧a.locals = b.locals∧a.slots = b.slots∧a.nodes.length = b.nodes.length:=by
   simp [bneB] at hc
   exact ⟨hc.1.1.1,hc.1.1.2,hc.1.2,by have:=hc.2;omega⟩
  refine Go.loop (fun i:Nat => [(2,.pt 0 1 0 0),(3,.pt 1 1 0 0),(5,i64 i)])
   (fun i H n => i ≤ a.nodes.length∧2 ≤ n∧(∃ d,getH H 0 = some (.row 40 4 d [a.av]))∧(∃ d,getH H 1 = some (.row 40 4 d [b.av]))∧∀ j,j < i→a.nodes.getD j default = b.nodes.getD j default) (fun i => a.nodes.length - i) 0 aLess ⟨Nat.zero_le _,aNx,⟨_,aRow⟩,⟨_,aRow⟩,fun _ h => by omega⟩ ?_
  clear hc
  rintro i H n ⟨hi,hn,⟨d0,r0⟩,⟨d1,r1⟩,hall⟩
  by_cases hil:i < a.nodes.length
  ·have e1:=fun d => nd_at (l:=a.nodes) hil d
   have e2:=fun d => nd_at (l:=b.nodes) (i:=i) (by omega) d
   repeat' (first|((with_reducible refine Go.red ?_);conv => whnf)|refine aG ?_|exact aCn|with_reducible refine Go.and ?_ ?_|((with_reducible refine Ask.mk ?_);first|exact aAsk|exact aAsk2|(intro h;simp_all [Graph.cells,Node.cells] <;> fail)|(simp_all [Graph.cells,Node.cells] <;> fail))|(apply Go.elem;(·(first|exact e1 _|exact e2 _|exact aElem)))|refine aH ?_|((with_reducible refine Go.bool ?_ ?_) <;> intro hc <;> (try simp only [List.length_map,ne_eq,hcs] at hc) <;> try (exfalso;omega)))
   ·refine bl_eq (Eq.symm ?_)
    refine decide_eq_false fun e => ?_
    rw [e] at hc
    simp at hc
   ·refine ⟨i + 1,by omega,aLess,by omega,aNx,⟨_,aRow⟩,⟨_,aRow⟩,fun j hj => ?_⟩
    by_cases hji:j = i
    ·subst hji
     obtain ⟨h1,h2,h3,h4,h5,h6,h7,h8,h9,h10,h11,h12,h13,_⟩:=hc
     exact Node.ext9 h1 h2 h3 h4 (Val.ext3 (by simpa using h5) h6 h7) (Val.ext3 (by simpa using h8) h9 h10) h11 h12 h13
    ·exact hall j (by omega)
  ·have:i = a.nodes.length:=by omega
   subst this
   repeat' (first|((with_reducible refine Go.red ?_);conv => whnf)|refine aG ?_|exact aCn|with_reducible refine Go.and ?_ ?_|((with_reducible refine Ask.mk ?_);first|exact aAsk|exact aAsk2|(intro h;simp_all [Graph.cells] <;> fail)|(simp_all [Graph.cells] <;> fail))|(apply Go.elem;(·exact aElem))|refine aH ?_|((with_reducible refine Go.bool ?_ ?_) <;> intro hc <;> (try simp only [List.length_map,ne_eq,hcs] at hc) <;> try (exfalso;omega)))
   refine bl_eq (Eq.symm ?_)
   exact decide_eq_true (Graph.ext4 hnm.1 hnm.2.1 hnm.2.2.1 (list_eq default hnm.2.2.2 hall))
set_option maxRecDepth 4000 in
set_option maxHeartbeats 4000000 in
theorem rsame_pure (u v:UnitS) (hu:u.Wf) (hv:v.Wf):Pure Tryz.prog 12 [u.av,v.av] (fun r => r = bl (decide (u = v))):=by
 have h1:=rdecls_pure u.shared v.shared hu.sharedlen hv.sharedlen
 have h2:=rdecls_pure u.locks v.locks hu.lockslen hv.lockslen
 have hgl:=hu.graphslen
 have hgl2:=hv.graphslen
 refine Go.pureL lf12 rfl ?_
 repeat' (first|((with_reducible refine Go.red ?_);conv => whnf)|refine aG ?_|exact aCn|with_reducible refine Go.and ?_ ?_|((with_reducible refine Ask.mk ?_);first|exact aAsk|exact aAsk2|(intro h;simp_all [UnitS.cells] <;> fail)|(simp_all [UnitS.cells] <;> fail))|(apply Go.elem;(·exact aElem))|refine aK (h1) ?_|refine aK (h2) ?_|refine aH ?_|((with_reducible refine Go.bool ?_ ?_) <;> intro hc <;> (try simp only [List.length_map,ne_eq,hcs] at hc) <;> try (exfalso;omega)))
 ·refine bl_eq (Eq.symm ?_)
  refine decide_eq_false fun e => ?_
  rw [e] at hc
  simp at hc
 ·have hnm:u.graphs.length = v.graphs.length∧u.shared = v.shared∧u.locks = v.locks:=by
   simp at hc
   exact ⟨by have:=hc.1.1;omega,hc.1.2,hc.2⟩
  refine Go.loop (fun i:Nat => [(2,.pt 0 1 0 0),(3,.pt 1 1 0 0),(5,i64 i)])
   (fun i H n => i ≤ u.graphs.length∧2 ≤ n∧(∃ d,getH H 0 = some (.row 25 3 d [u.av]))∧(∃ d,getH H 1 = some (.row 25 3 d [v.av]))∧∀ j,j < i→u.graphs.getD j default = v.graphs.getD j default) (fun i => u.graphs.length - i) 0 aLess ⟨Nat.zero_le _,aNx,⟨_,aRow⟩,⟨_,aRow⟩,fun _ h => by omega⟩ ?_
  clear hc h1 h2
  rintro i H n ⟨hi,hn,⟨d0,r0⟩,⟨d1,r1⟩,hall⟩
  by_cases hil:i < u.graphs.length
  ·have e1:=fun d => gr_at (l:=u.graphs) hil d
   have e2:=fun d => gr_at (l:=v.graphs) (i:=i) (by omega) d
   have hg:=rgraph_pure (u.graphs.getD i default) (v.graphs.getD i default) (hu.graphs _ (getD_mem' default hil)) (hv.graphs _ (getD_mem' default (by omega)))
   by_cases heq:u.graphs.getD i default = v.graphs.getD i default
   ·rw [decide_eq_true heq] at hg
    repeat' (first|((with_reducible refine Go.red ?_);conv => whnf)|refine aG ?_|exact aCn|with_reducible refine Go.and ?_ ?_|((with_reducible refine Ask.mk ?_);first|exact aAsk|exact aAsk2|(intro h;simp_all [UnitS.cells,Graph.cells] <;> fail)|(simp_all [UnitS.cells,Graph.cells] <;> fail))|(apply Go.elem;(·(first|exact e1 _|exact e2 _|exact aElem)))|refine aK (hg) ?_|refine aH ?_|((with_reducible refine Go.bool ?_ ?_) <;> intro hc <;> (try simp only [List.length_map,ne_eq,hcs] at hc) <;> try (exfalso;omega)))
    refine ⟨i + 1,by omega,aLess,by omega,aNx,⟨_,aRow⟩,⟨_,aRow⟩,fun j hj => ?_⟩
    by_cases hji:j = i
    ·subst hji;exact heq
    ·exact hall j (by omega)
   ·rw [decide_eq_false heq] at hg
    repeat' (first|((with_reducible refine Go.red ?_);conv => whnf)|refine aG ?_|exact aCn|with_reducible refine Go.and ?_ ?_|((with_reducible refine Ask.mk ?_);first|exact aAsk|exact aAsk2|(intro h;simp_all [UnitS.cells,Graph.cells] <;> fail)|(simp_all [UnitS.cells,Graph.cells] <;> fail))|(apply Go.elem;(·(first|exact e1 _|exact e2 _|exact aElem)))|refine aK (hg) ?_|refine aH ?_|((with_reducible refine Go.bool ?_ ?_) <;> intro hc <;> (try simp only [List.length_map,ne_eq,hcs] at hc) <;> try (exfalso;omega)))
    refine bl_eq (Eq.symm ?_)
    exact decide_eq_false fun e => heq (by rw [e])
  ·have:i = u.graphs.length:=by omega
   subst this
   repeat' (first|((with_reducible refine Go.red ?_);conv => whnf)|refine aG ?_|exact aCn|with_reducible refine Go.and ?_ ?_|((with_reducible refine Ask.mk ?_);first|exact aAsk|exact aAsk2|(intro h;simp_all [UnitS.cells] <;> fail)|(simp_all [UnitS.cells] <;> fail))|(apply Go.elem;(·exact aElem))|refine aH ?_|((with_reducible refine Go.bool ?_ ?_) <;> intro hc <;> (try simp only [List.length_map,ne_eq,hcs] at hc) <;> try (exfalso;omega)))
   refine bl_eq (Eq.symm ?_)
   exact decide_eq_true (UnitS.ext3 hnm.2.1 hnm.2.2 (list_eq default hnm.1 hall))
end Go.Proofs.YtmonponfppdgfaaGreatDoor
end
section
/- Every Live and Waits: the law's walk. -/
namespace Go.Proofs.YtmonponfppdgfaaGreatDoor
open Go Go.Abs Go.Proofs
set_option linter.unusedSimpArgs false
set_option linter.unusedVariables false
@[simp] theorem fit_imB (n:Nat) (l:List Bool):fitA n (imB l):=by simp [imB,fitA,fitL_map]
set_option maxRecDepth 4000 in
set_option maxHeartbeats 2000000 in
theorem deadLives_main (u:UnitS) (hu:u.Wf) (h96:∀ g ∈ u.graphs,g.nodes.length * 96 ≤ 140737488351232) (t:Int) (ht:wf64 t):Pure Tryz.prog 6 [u.av,i64 t] (fun r => r = bl true):=by
 have hb:=begins_pure
 have hcp:=copy_pure u hu h96
 have h1:=Live_pure u hu t
 have h2:=rLive_pure u hu t
 have h3:=Waits_pure u hu t
 have h4:=rWaits_pure u hu t
 have hsm:=rsame_pure u u hu hu
 rw [decide_eq_true rfl] at hsm
 have key:∀ (a b:Tab) (n:Int),(a.length ≤ 5000∧∀ i,(a.getD i []).length ≤ 5000)→(b.length ≤ 5000∧∀ i,(b.getD i []).length ≤ 5000)→tabAv u t (liveT (u.gr t.toNat)) = .tup [.im 1 .any (a.map imB),i64 n]→tabAv u t (waitT (u.gr t.toNat) (classesU u) t.toNat) = .tup [.im 1 .any (b.map imB),i64 n]→Pure Tryz.prog 6 [u.av,i64 t] (fun r => r = bl true):=by
  intro a b n ha hb2 e1 e2
  rw [e1] at h1 h2
  rw [e2] at h3 h4
  have t1:=tables_same a ha.1 ha.2
  have t2:=tables_same b hb2.1 hb2.2
  refine Go.pureL lf6 rfl ?_
  repeat' (first|((with_reducible refine Go.red ?_);conv => whnf)|refine aG ?_|exact aCn|with_reducible refine Go.and ?_ ?_|((with_reducible refine Ask.mk ?_);first|exact aAsk|exact aAsk2|(intro h;simp_all [UnitS.cells] <;> fail)|(simp_all [UnitS.cells] <;> fail))|(apply Go.elem;(·exact aElem))|refine aK (hcp) ?_|refine aK (h1) ?_|refine aK (h2) ?_|refine aK (h3) ?_|refine aK (h4) ?_|refine aK (t1) ?_|refine aK (t2) ?_|refine aK (hsm) ?_|refine aK (hb) ?_|refine aH ?_|((with_reducible refine Go.bool ?_ ?_) <;> intro hc <;> (try simp only [List.length_map,ne_eq,hcs] at hc) <;> try (exfalso;omega)))
  all_goals refine bl_eq ?_
  all_goals simp
 have hz:([]:Tab).length ≤ 5000∧∀ i,(([]:Tab).getD i []).length ≤ 5000:=⟨by simp,fun i => by simp⟩
 by_cases hr:RightU u
 ·by_cases hx:t < 0 ∨ (u.graphs.length:Int) ≤ t
  ·exact key [] [] 2 hz hz (by unfold tabAv;rw [if_pos (rightB_iff.2 hr),if_pos hx];rfl) (by unfold tabAv;rw [if_pos (rightB_iff.2 hr),if_pos hx];rfl)
  ·have hgo:=hr.gr (t:=t.toNat) (by omega)
   have hlen:=hgo.len
   have hsl:=hgo.slots
   have hlo:=hgo.locals
   have hfew:=hr.few
   refine key _ _ 0 ⟨?_,fun i => ?_⟩ ⟨?_,fun i => ?_⟩ (by unfold tabAv;rw [if_pos (rightB_iff.2 hr),if_neg hx]) (by unfold tabAv;rw [if_pos (rightB_iff.2 hr),if_neg hx])
   ·rw [show (liveT (u.gr t.toNat)).length = _ from (shape_ahdT _ _ _ _).len];omega
   ·by_cases hi:i < (u.gr t.toNat).nodes.length
    ·rw [show ((liveT (u.gr t.toNat)).getD i []).length = _ from (shape_ahdT _ _ _ _).row i hi];omega
    ·have:(liveT (u.gr t.toNat)).length ≤ i:=by rw [show (liveT (u.gr t.toNat)).length = _ from (shape_ahdT _ _ _ _).len];omega
     rw [List.getD,List.getElem?_eq_none this];simp
   ·rw [show (waitT (u.gr t.toNat) (classesU u) t.toNat).length = _ from (shape_ahdT _ _ _ _).len];omega
   ·by_cases hi:i < (u.gr t.toNat).nodes.length
    ·rw [show ((waitT (u.gr t.toNat) (classesU u) t.toNat).getD i []).length = _ from (shape_ahdT _ _ _ _).row i hi,classesU_len];omega
    ·have:(waitT (u.gr t.toNat) (classesU u) t.toNat).length ≤ i:=by rw [show (waitT (u.gr t.toNat) (classesU u) t.toNat).length = _ from (shape_ahdT _ _ _ _).len];omega
     rw [List.getD,List.getElem?_eq_none this];simp
 ·exact key [] [] 60 hz hz (by unfold tabAv;rw [if_neg (mt rightB_iff.1 hr)];rfl) (by unfold tabAv;rw [if_neg (mt rightB_iff.1 hr)];rfl)
end Go.Proofs.YtmonponfppdgfaaGreatDoor
end
section
/- Every Live and every Waits is the document's, and the unit stays: for every unit and thread. No conditions beyond the card's own: the library's table starts as its text lays it. -/
namespace Go.Proofs.YtmonponfppdgfaaGreatDoor
open Go Go.Abs Go.Proofs Go.RowKit Go.ChangeShapes Go.WideShapes Go.ChangeAt
set_option linter.unusedSimpArgs false
set_option linter.unusedVariables false
set_option maxRecDepth 100000 in
theorem deadLives_lifted (os:Os) (started:os.Started) (H:Type) (enc:TypeId × Value→H) :
 ReturnsInHanded {} Tryz.checked os 6 .any (fun w args => (Rows.deadLivesSpec.pre enc Tryz.prog Tryz.f6 [] false w args∧laidMetH Tryz.prog laidT w)∧sizedMet enc Tryz.prog Tryz.f6 (OpenSpec.ofChange Rows.deadLivesSpec) false w args) (Rows.deadLivesSpec.post enc Tryz.prog Tryz.f6 false true false false):=by
 refine returnsInHanded_of_change_and (C:=Tryz.checked) (X:=fun w _ => laidMetH Tryz.prog laidT w) (fun _ _ _ hh h => h.of_heap hh) own started (by kernel_rfl) Tryz.func6
  (ChangeSpec.witness_shaped (enc:=enc) (C:=Tryz.checked) (os:=os) (X:=fun w _ => laidMetH Tryz.prog laidT w) false (World.doorLaid Tryz.prog 400 os) #[.agg #[.slice none 0 0,.slice none 0 0,.slice none 0 0],.int .i64 0] 8 rfl (World.shaped_of_RefB (by kernel_rfl) (by kernel_rfl)) (by kernel_rfl) (by kernel_rfl) (by kernel_rfl) (door_met os _)) ?_
 intro W base args ds gs before hval hW _ hr hL _
 refine law_contract (ts:=[25,3]) (tb:=4) laidOut (by kernel_rfl) rfl Tryz.underlying4 (by kernel_rfl) (fun ds h => ?_) (fun t ht => ?_)
  (opensAll_cons (ag:=true) (by kernel_rfl) opens_unit96 (fun h => by cases h) (opensAll_cons (ag:=false) (by kernel_rfl) (opens_int64 Tryz.underlying3) (fun _ _ _ => rfl) opensAll_nil))
  (fun a h => ?_) hval hW hr (of_laid hL)
 ·match ds,h with
  | [d0,d1],_ => rfl
 ·have:∀ t ∈ [25,3],Tryz.prog.readableRec t = true∧t < Tryz.prog.types.size:=by
   simp only [List.forall_mem_cons]
   refine ⟨⟨by kernel_rfl,of_decide_eq_true (by kernel_rfl)⟩,⟨by kernel_rfl,of_decide_eq_true (by kernel_rfl)⟩,by simp⟩
  exact this t ht
 ·exact deadLives_main a.1 h.1.1 h.1.2 a.2.1 h.2.1
theorem deadLives_row:Rows.DeadLivesSaid :=
 OpenClaim.holds_of_wide 6 Tryz.f6 rfl rfl rfl rfl rfl rfl rfl ⟨rfl,rfl,rfl,rfl,rfl⟩ rfl rfl rfl rfl rfl (by kernel_rfl) Tryz.func6 (by kernel_rfl)
  (of_decide_eq_true (by kernel_rfl)) (by unfold Func.isWrapper;first|(rw [if_pos (by decide +kernel)];kernel_rfl)|(rw [if_neg (by decide +kernel)];exact ⟨rfl,rfl⟩))
  (fun os started H enc _ => deadLives_lifted os started H enc)
set_option maxRecDepth 100000 in
theorem deadLives_holds:Rows.DeadLivesCardSaid :=
 Claim7.holds_tied_plain_at .later [] [.data] true (true, "12af8c7818b0501ec9e10285ad2d8f59b85aa667e4dfad6624519679bdff7faf") false
  deadLives_row (fun _ h => by cases h) (by kernel_rfl) (fun _ h => by cases h) deadLives_row_tie rfl ⟨rfl,rfl⟩ (by kernel_rfl) rfl
  (fun f fn hf hfn => by
   obtain rfl : f = 6 := Option.some.inj ((show Tryz.prog.funcNamed "stile/stilelaw14.DeadLives" = some 6 by kernel_rfl).symm.trans hf) |>.symm
   obtain rfl:fn = Tryz.f6:=(Option.some.inj (Tryz.func6.symm.trans hfn)).symm
   exact ⟨by kernel_rfl,fun j t ht => by
    rw [show Tryz.f6.params = #[25,3] by kernel_rfl] at ht
    have hm:t ∈ [25,3]:=by simpa using Array.mem_of_getElem? ht
    have hall:([25,3].all fun u => !Tryz.prog.wantsStandIn u) = true:=by kernel_rfl
    exact (show Tryz.prog.wantsStandIn t = false by simpa using List.all_eq_true.1 hall t hm)⟩)
  (by kernel_rfl)
end Go.Proofs.YtmonponfppdgfaaGreatDoor
end
