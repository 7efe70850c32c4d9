import Derived.Test.YtmonponfppdgfaaGreatDoorM33
import Derived.Test.YtmonponfppdgfaaGreatDoorM23
section
/- What touches a variable: the document's walk. -/
namespace Go.Proofs.YtmonponfppdgfaaGreatDoor
open Go Go.Abs Go.Proofs
set_option linter.unusedSimpArgs false
set_option linter.unusedVariables false
abbrev locksAv (L:List (List Int)):AV:=.im 1 .any (L.map imF)
theorem fit_imFs (L:List (List Int)):fitL 0 (L.map imF):=(fitL_map _ _).2 fun _ _ => by simp [imF,fitA,fitL_map]
set_option maxRecDepth 4000 in
theorem rHeld_pure (g:Graph) (hg:g.Wf) (hw:Whole g) (hh:(heldG g).2 < 0):Pure Tryz.prog 102 [g.av] (fun r => r = .tup [locksAv (heldG g).1,bl true]):=by
 refine Go.pureL lf102 rfl ?_
 have h1:=rwhole_pure g hg hw
 have h2:=rheld_pure g hg hw
 unfold heldAv at h2
 repeat' (first|((with_reducible refine Go.red ?_);conv => whnf)|refine aG ?_|exact aCn|with_reducible refine Go.and ?_ ?_|((with_reducible refine Ask.mk ?_);first|exact aAsk|exact aAsk2|(intro h;simp_all [Graph.cells] <;> fail)|(simp_all [Graph.cells] <;> fail))|(apply Go.elem;(·exact aElem))|refine aK (h1) ?_|refine aK (h2) ?_|refine aH ?_|((with_reducible refine Go.bool ?_ ?_) <;> intro hc <;> (try simp only [List.length_map,ne_eq,hcs] at hc) <;> try (exfalso;omega)))
 rw [decide_eq_true hh]
 exact Res.eq (by simp only [fitA,fitL];exact ⟨fit_imFs _,trivial,trivial⟩) rfl
set_option maxRecDepth 4000 in
set_option maxHeartbeats 4000000 in
theorem heldOf_pure (g:Graph) (hg:g.Wf) (hw:Whole g) (hh:(heldG g).2 < 0) (hlk:∀ i,((heldG g).1.getD i []).length ≤ 5000):Pure Tryz.prog 79 [g.av] (fun r => r = locksAv ((heldG g).1.map risL)):=by
 have h1:=rHeld_pure g hg hw hh
 have hL:=(heldG_ok hw hh).2.1
 refine pure_of_call ?_ (by simp only [fitA];exact fit_imFs _)
 refine Go.fnL lf79 rfl ?_
 have hl4:=hw.2.1
 generalize hLg:(heldG g).1 = L at *
 have hlm:(L.map imF).length = L.length:=by simp
 repeat' (first|((with_reducible refine Go.red ?_);conv => whnf)|refine aG ?_|exact aCn|with_reducible refine Go.and ?_ ?_|((with_reducible refine Ask.mk ?_);first|exact aAsk|exact aAsk2|(intro h;simp_all [Graph.cells] <;> fail)|(simp_all [Graph.cells] <;> fail))|(apply Go.elem;(·exact aElem))|refine aK (h1) ?_|refine aH ?_|((with_reducible refine Go.bool ?_ ?_) <;> intro hc <;> (try simp only [List.length_map,ne_eq,hcs] at hc) <;> try (exfalso;omega)))
 refine Go.loopF (fun i:Nat => [(3,locksAv L),(5,.sl 10 i),(6,i64 i)])
  (fun i H n => i ≤ L.length∧11 ≤ n∧∃ d,getH H 10 = some (.row 89 1 d (((L.take i).map risL).map imF))) (fun i => L.length - i) 0 ⟨_,_,_,Rt.nil 5 89 1 (by omega) rfl,aLess,Nat.zero_le _,aNx,⟨_,aRow⟩⟩ ?_
 rintro i H n ⟨hi,hn,d,r⟩
 have hrm:(((L.take i).map risL).map imF).length = i:=by simp;omega
 by_cases hil:i < L.length
 ·have ei:∀ d,(L.map imF).getD (i:Int).toNat d = .im 1 .any ((L.getD i []).map i64):=fun d => by
   have:=imF_at (l:=L) (i:=(i:Int)) (by rw [Int.toNat_natCast];exact hil) d
   rw [Int.toNat_natCast] at this ⊢;exact this
  have hr:=rising_pure (L.getD i []) (hlk i)
  unfold imF at hr
  have hnx:((L.take (i + 1)).map risL).map imF = ((L.take i).map risL).map imF ++ [imF (risL (L.getD i []))]:=by
   rw [List.take_succ_eq_append_getElem hil,List.map_append,List.map_append,show L.getD i [] = L[i] by simp [List.getD,hil]];rfl
  repeat' (first|((with_reducible refine Go.red ?_);conv => whnf)|refine aG ?_|exact aCn|with_reducible refine Go.and ?_ ?_|((with_reducible refine Ask.mk ?_);first|exact aAsk|(exact hlm)|(exact hrm)|exact aAsk2)|(apply Go.elem;(·(first|exact ei _|exact aElem)))|refine aK (hr) ?_|refine aH ?_|((with_reducible refine Go.bool ?_ ?_) <;> intro hc <;> (try simp only [List.length_map,ne_eq,hcs] at hc) <;> try (exfalso;omega)))
  exact ⟨i + 1,by omega,_,_,_,Rt.refl _ _ _,aLess,by omega,aNx,⟨_,by rw [hnx];exact aRow⟩⟩
 ·have:i = L.length:=by omega
  subst this
  rw [List.take_length] at r
  repeat' (first|((with_reducible refine Go.red ?_);conv => whnf)|refine aG ?_|exact aCn|with_reducible refine Go.and ?_ ?_|((with_reducible refine Ask.mk ?_);first|exact aAsk|(exact hlm)|exact aAsk2)|(apply Go.elem;(·exact aElem))|refine aH ?_|((with_reducible refine Go.bool ?_ ?_) <;> intro hc <;> (try simp only [List.length_map,ne_eq,hcs] at hc) <;> try (exfalso;omega)))
  exact ⟨(frz_sl aRow (by simp)).trans (by rw [frz_same _ (fit_imFs _)])⟩
theorem rtouches_pure (n:Node) (v:Int):Pure Tryz.prog 80 [n.av,i64 v] (fun r => r = bl (tch n && decide (n.thing = v))):=by
 refine Go.pureL lf80 rfl ?_
 repeat' (first|((with_reducible refine Go.red ?_);conv => whnf)|refine aG ?_|exact aCn|with_reducible refine Go.and ?_ ?_|((with_reducible refine Ask.mk ?_);first|exact aAsk|exact aAsk2|(intro h;simp_all [Node.cells] <;> fail)|(simp_all [Node.cells] <;> fail))|(apply Go.elem;(·exact aElem))|refine aH ?_|((with_reducible refine Go.bool ?_ ?_) <;> intro hc <;> (try simp only [List.length_map,ne_eq,hcs] at hc) <;> try (exfalso;omega)))
 all_goals refine bl_eq ?_
 all_goals unfold tch
 all_goals first|(rw [decide_eq_true (show n.kind = 2 ∨ n.kind = 3 ∨ n.kind = 4 by omega)];simp)|(rw [decide_eq_false (show ¬ (n.kind = 2 ∨ n.kind = 3 ∨ n.kind = 4) by omega)];simp)|(by_cases a:n.kind = 2 <;> by_cases b:n.kind = 3 <;> by_cases c:n.kind = 4 <;> by_cases d:n.thing = v <;> simp_all)
abbrev AccR:=Nat × Nat × List Int
noncomputable def accRG (v:Int) (t:Nat) (g:Graph) (i:Nat):Option AccR:=if fnd (reachL g (-1)) i = true∧(tch (g.nd i) && decide ((g.nd i).thing = v)) = true then some (t,i,(heldG g).1.getD i []) else none
noncomputable def accRL (v:Int) (t:Nat) (g:Graph) (m:Nat):List AccR:=(List.range m).filterMap (accRG v t g)
noncomputable def accRU (v:Int) (u:UnitS) (m:Nat):List AccR:=(List.range m).flatMap fun t => accRL v t (u.gr t) (u.gr t).nodes.length
theorem accRL_succ (v:Int) (t:Nat) (g:Graph) (m:Nat):accRL v t g (m + 1) = accRL v t g m ++ (accRG v t g m).toList:=by
 rw [accRL,List.range_succ,List.filterMap_append]
 cases h:accRG v t g m <;> simp [accRL,h]
theorem accRU_succ (v:Int) (u:UnitS) (m:Nat):accRU v u (m + 1) = accRU v u m ++ accRL v m (u.gr m) (u.gr m).nodes.length:=by
 rw [accRU,List.range_succ,List.flatMap_append];simp [accRU]
theorem accRL_len (v:Int) (t:Nat) (g:Graph) (m:Nat):(accRL v t g m).length ≤ m:=by
 have:=List.length_filterMap_le (accRG v t g) (List.range m)
 simpa [accRL] using this
theorem accRU_len {u:UnitS} (v:Int) (h:∀ g ∈ u.graphs,g.nodes.length ≤ 4096) {m:Nat} (hm:m ≤ u.graphs.length):(accRU v u m).length ≤ 4096 * m:=by
 induction m with
 | zero => simp [accRU]
 | succ k ih =>
  rw [accRU_succ,List.length_append]
  have:=ih (by omega)
  have h1:=accRL_len v k (u.gr k) (u.gr k).nodes.length
  have h2:=h _ (getD_mem' (j:=k) default (l:=u.graphs) (by omega))
  have h3:u.gr k = u.graphs.getD k default:=rfl
  rw [← h3] at h2
  omega
theorem touchL_cat (a b:List Acc) (v:Int):touchL (a ++ b) v = touchL a v ++ touchL b v:=by simp [touchL]
theorem touchL_one (x:Acc) (v:Int):touchL [x] v = if (tch x.2.1 && decide (x.2.1.thing = v)) = true then [(x.1,x.2.2)] else []:=by
 unfold touchL;rw [List.filter_cons];split <;> rfl
theorem touch_accRL (v:Int) (t:Nat) (g:Graph) (m:Nat):touchL (accL t g m) v = (accRL v t g m).map fun x => (x.1,x.2.2):=by
 induction m with
 | zero => simp [accL,accRL,touchL]
 | succ k ih =>
  rw [accL_succ,accRL_succ,touchL_cat,ih,List.map_append]
  congr 1
  unfold accG accRG
  by_cases h:fnd (reachL g (-1)) k = true
  ·rw [if_pos h]
   rw [Option.toList_some,touchL_one]
   dsimp only
   by_cases h2:(tch (g.nd k) && decide ((g.nd k).thing = v)) = true
   ·rw [if_pos h2,if_pos ⟨h,h2⟩];rfl
   ·rw [if_neg h2,if_neg (fun e => h2 e.2)];rfl
  ·rw [if_neg h,if_neg (fun e => h e.1)];rfl
theorem touch_accRU (v:Int) (u:UnitS) (m:Nat):touchL (accs u m) v = (accRU v u m).map fun x => (x.1,x.2.2):=by
 induction m with
 | zero => simp [accs,accRU,touchL]
 | succ k ih => rw [accs_succ,accRU_succ,touchL_cat,ih,touch_accRL,List.map_append]
def accAv (x:AccR):AV:=.agg [i64 x.1,i64 x.2.1]
def lckAv (x:AccR):AV:=imF (risL x.2.2)
theorem fit_accs (l:List AccR):fitL 0 (l.map accAv):=(fitL_map _ _).2 fun _ _ => by simp [accAv,fitA,fitL]
theorem fit_lcks (l:List AccR):fitL 0 (l.map lckAv):=(fitL_map _ _).2 fun _ _ => by simp [lckAv,imF,fitA,fitL_map]
theorem held_short {u:UnitS} {g:Graph} (h:GraphOk u g) (i:Nat):((heldG g).1.getD i []).length ≤ 5000:=by
 have:=heldG_len g i
 have:=h.len
 omega
set_option maxRecDepth 4000 in
set_option maxHeartbeats 8000000 in
theorem touched_pure (u:UnitS) (hu:u.Wf) (hr:RightU u) (v:Int):Pure Tryz.prog 46 [u.av,i64 v] (fun r => r = .tup [.im 2 .any ((accRU v u u.graphs.length).map accAv),.im 1 .any ((accRU v u u.graphs.length).map lckAv)]):=by
 refine pure_of_call ?_ (by simp only [fitA,fitL];exact ⟨fit_accs _,fit_lcks _,trivial⟩)
 refine Go.fnL lf46 rfl ?_
 have hgm:(u.graphs.map Graph.av).length = u.graphs.length:=by simp
 have hfew:=hr.few
 have h4:∀ g ∈ u.graphs,g.nodes.length ≤ 4096:=fun g hg => (hr.graphs g hg).len.2
 repeat' (first|((with_reducible refine Go.red ?_);conv => whnf)|refine aG ?_|exact aCn|with_reducible refine Go.and ?_ ?_|((with_reducible refine Ask.mk ?_);first|exact aAsk|exact aAsk2|(intro h;simp_all [UnitS.cells] <;> fail)|(simp_all [UnitS.cells] <;> fail))|(apply Go.elem;(·exact aElem))|refine aH ?_|((with_reducible refine Go.bool ?_ ?_) <;> intro hc <;> (try simp only [List.length_map,ne_eq,hcs] at hc) <;> try (exfalso;omega)))
 refine Go.loopF (fun t:Nat => [(1,i64 v),(2,.pt 0 1 0 0),(6,.sl 6 (accRU v u t).length),(7,.sl 7 (accRU v u t).length),(8,i64 t)])
  (fun t H n => t ≤ u.graphs.length∧8 ≤ n∧(∃ d,getH H 0 = some (.row 25 3 d [u.av]))∧(∃ d,getH H 6 = some (.row 88 2 d ((accRU v u t).map accAv)))∧∃ d,getH H 7 = some (.row 89 1 d ((accRU v u t).map lckAv))) (fun t => u.graphs.length - t) 0 ⟨_,_,_,(Rt.nil 6 88 2 (by omega) rfl).trans (Rt.nil 7 89 1 (by omega) rfl),aLess,Nat.zero_le _,aNx,⟨_,aRow⟩,⟨_,aRow⟩,⟨_,aRow⟩⟩ ?_
 rintro t H n ⟨ht,hn,⟨d0,r0⟩,⟨d6,r6⟩,d7,r7⟩
 have hac:=accRU_len (u:=u) v h4 ht
 by_cases htl:t < u.graphs.length
 ·have eg:=fun d => gr_at (l:=u.graphs) htl d
  rw [show u.graphs.getD t default = u.gr t from rfl] at eg
  have hg:(u.gr t).Wf:=hu.graphs _ (getD_mem' default htl)
  have hgo:=hr.gr htl
  have hrc:=rreached_pure (u.gr t) hg hgo.whole
  have hho:=heldOf_pure (u.gr t) hg hgo.whole hgo.held (held_short hgo)
  have hL:=(heldG_ok hgo.whole hgo.held).2.1
  have hgl:=hgo.len
  have hsu:=accRU_succ v u t
  generalize u.gr t = g at *
  repeat' (first|((with_reducible refine Go.red ?_);conv => whnf)|refine aG ?_|exact aCn|with_reducible refine Go.and ?_ ?_|((with_reducible refine Ask.mk ?_);first|exact aAsk|(exact hgm)|exact aAsk2|(intro h;simp_all [UnitS.cells,Graph.cells] <;> fail)|(simp_all [UnitS.cells,Graph.cells] <;> fail))|(apply Go.elem;(·(first|exact eg _|exact aElem)))|refine aK (hrc) ?_|refine aK (hho) ?_|refine aH ?_|((with_reducible refine Go.bool ?_ ?_) <;> intro hc <;> (try simp only [List.length_map,ne_eq,hcs] at hc) <;> try (exfalso;omega)))
  generalize hR0:accRU v u t = R0 at *
  refine Go.loop (fun k:Nat => [(1,i64 v),(2,.pt 0 1 0 0),(6,.sl 6 (R0 ++ accRL v t g k).length),(7,.sl 7 (R0 ++ accRL v t g k).length),(8,i64 t),(9,imB (reachL g (-1))),(10,locksAv ((heldG g).1.map risL)),(11,i64 k)])
   (fun k H n2 => k ≤ g.nodes.length∧n ≤ n2∧(∃ d,getH H 0 = some (.row 25 3 d [u.av]))∧(∃ d,getH H 6 = some (.row 88 2 d ((R0 ++ accRL v t g k).map accAv)))∧∃ d,getH H 7 = some (.row 89 1 d ((R0 ++ accRL v t g k).map lckAv))) (fun k => g.nodes.length - k) 0 (by rw [show R0 ++ accRL v t g 0 = R0 by simp [accRL]];exact aLess) ⟨Nat.zero_le _,aNx,⟨_,aRow⟩,⟨_,by rw [show R0 ++ accRL v t g 0 = R0 by simp [accRL]];exact aRow⟩,⟨_,by rw [show R0 ++ accRL v t g 0 = R0 by simp [accRL]];exact aRow⟩⟩ ?_
  clear r0 r6 r7
  rintro k H2 n2 ⟨hk,hn2,⟨d0,r0⟩,⟨d6,r6⟩,d7,r7⟩
  have hrm:((reachL g (-1)).map bl).length = g.nodes.length:=by rw [List.length_map,reachL_len]
  have hrm2:=reachL_len g (-1)
  by_cases hkl:k < g.nodes.length
  ·have en:=fun d => nd_at (l:=g.nodes) hkl d
   rw [show g.nodes.getD k default = g.nd k from rfl] at en
   have er:=fun d => bool_at (l:=reachL g (-1)) (k:=(k:Int)) d (by rw [reachL_len];exact hkl)
   have eh:=fun d => imF_at (l:=(heldG g).1.map risL) (i:=(k:Int)) (by rw [Int.toNat_natCast,List.length_map,hL];exact hkl) d
   rw [show ((heldG g).1.map risL).getD (k:Int).toNat [] = risL ((heldG g).1.getD k []) by rw [Int.toNat_natCast];simp [List.getD,hL,hkl]] at eh
   have hhm:(((heldG g).1.map risL).map imF).length = g.nodes.length:=by simp [hL]
   have htp:=rtouches_pure (g.nd k) v
   have hsk:=accRL_succ v t g k
   have hlk:=accRL_len v t g k
   have hnm:(g.nodes.map Node.av).length = g.nodes.length:=by simp
   have hR:(R0 ++ accRL v t g k).length ≤ 40000:=by rw [List.length_append];omega
   have hRa:((R0 ++ accRL v t g k).map accAv).length = (R0 ++ accRL v t g k).length:=by simp
   have hRl:((R0 ++ accRL v t g k).map lckAv).length = (R0 ++ accRL v t g k).length:=by simp
   by_cases hf:fnd (reachL g (-1)) (k:Int) = true
   ·rw [hf] at er
    by_cases h2:(tch (g.nd k) && decide ((g.nd k).thing = v)) = true
    ·rw [h2] at htp
     rw [show accRG v t g k = some (t,k,(heldG g).1.getD k []) by unfold accRG;rw [if_pos ⟨hf,h2⟩]] at hsk
     have hsk2:R0 ++ accRL v t g (k + 1) = (R0 ++ accRL v t g k) ++ [(t,k,(heldG g).1.getD k [])]:=by rw [hsk,← List.append_assoc];rfl
     generalize R0 ++ accRL v t g k = R at *
     repeat' (first|((with_reducible refine Go.red ?_);conv => whnf)|refine aG ?_|exact aCn|with_reducible refine Go.and ?_ ?_|((with_reducible refine Ask.mk ?_);first|exact aAsk|(exact hgm)|(exact hrm)|(exact hhm)|(exact hnm)|(exact hRa)|(exact hRl)|exact aAsk2|(intro h;simp_all [UnitS.cells,Graph.cells,Node.cells] <;> fail)|(simp_all [UnitS.cells,Graph.cells,Node.cells] <;> fail))|(apply Go.elem;(·(first|exact eg _|exact en _|exact er _|exact eh _|exact aElem)))|refine aK (htp) ?_|refine aH ?_|((with_reducible refine Go.bool ?_ ?_) <;> intro hc <;> (try simp only [List.length_map,ne_eq,hcs] at hc) <;> try (exfalso;omega)))
     exact ⟨k + 1,by omega,by rw [hsk2,List.length_append];exact aLess,by omega,aNx,⟨_,aRow⟩,⟨_,Eq.trans (b:=some (.row 88 2 _ _)) aRow (row_eq (by rw [hsk2,List.map_append];rfl))⟩,⟨_,Eq.trans (b:=some (.row 89 1 _ _)) aRow (row_eq (by rw [hsk2,List.map_append];rfl))⟩⟩
    ·rw [show (tch (g.nd k) && decide ((g.nd k).thing = v)) = false by simpa using h2] at htp
     rw [show accRG v t g k = none by unfold accRG;rw [if_neg (fun e => h2 e.2)],Option.toList_none,List.append_nil] at hsk
     repeat' (first|((with_reducible refine Go.red ?_);conv => whnf)|refine aG ?_|exact aCn|with_reducible refine Go.and ?_ ?_|((with_reducible refine Ask.mk ?_);first|exact aAsk|(exact hgm)|(exact hrm)|(exact hhm)|(exact hnm)|exact aAsk2|(intro h;simp_all [UnitS.cells,Graph.cells,Node.cells] <;> fail)|(simp_all [UnitS.cells,Graph.cells,Node.cells] <;> fail))|(apply Go.elem;(·(first|exact eg _|exact en _|exact er _|exact eh _|exact aElem)))|refine aK (htp) ?_|refine aH ?_|((with_reducible refine Go.bool ?_ ?_) <;> intro hc <;> (try simp only [List.length_map,ne_eq,hcs] at hc) <;> try (exfalso;omega)))
     exact ⟨k + 1,by omega,by rw [hsk];exact aLess,by omega,aNx,⟨_,aRow⟩,⟨_,by rw [hsk];exact aRow⟩,⟨_,by rw [hsk];exact aRow⟩⟩
   ·rw [show fnd (reachL g (-1)) (k:Int) = false by simpa using hf] at er
    rw [show accRG v t g k = none by unfold accRG;rw [if_neg (fun e => hf e.1)],Option.toList_none,List.append_nil] at hsk
    repeat' (first|((with_reducible refine Go.red ?_);conv => whnf)|refine aG ?_|exact aCn|with_reducible refine Go.and ?_ ?_|((with_reducible refine Ask.mk ?_);first|exact aAsk|(exact hgm)|(exact hrm)|(exact hhm)|(exact hnm)|exact aAsk2|(intro h;simp_all [UnitS.cells,Graph.cells,Node.cells] <;> fail)|(simp_all [UnitS.cells,Graph.cells,Node.cells] <;> fail))|(apply Go.elem;(·(first|exact eg _|exact en _|exact er _|exact eh _|exact aElem)))|refine aH ?_|((with_reducible refine Go.bool ?_ ?_) <;> intro hc <;> (try simp only [List.length_map,ne_eq,hcs] at hc) <;> try (exfalso;omega)))
    exact ⟨k + 1,by omega,by rw [hsk];exact aLess,by omega,aNx,⟨_,aRow⟩,⟨_,by rw [hsk];exact aRow⟩,⟨_,by rw [hsk];exact aRow⟩⟩
  ·have:k = g.nodes.length:=by omega
   subst this
   rw [← hsu] at r6 r7 ⊢
   repeat' (first|((with_reducible refine Go.red ?_);conv => whnf)|refine aG ?_|exact aCn|with_reducible refine Go.and ?_ ?_|((with_reducible refine Ask.mk ?_);first|exact aAsk|(exact hrm)|exact aAsk2|(intro h;simp_all [UnitS.cells] <;> fail)|(simp_all [UnitS.cells] <;> fail))|(apply Go.elem;(·exact aElem))|refine aH ?_|((with_reducible refine Go.bool ?_ ?_) <;> intro hc <;> (try simp only [List.length_map,ne_eq,hcs] at hc) <;> try (exfalso;omega)))
   exact ⟨t + 1,by omega,_,_,_,Rt.refl _ _ _,aLess,by omega,aNx,⟨_,aRow⟩,⟨_,aRow⟩,⟨_,aRow⟩⟩
 ·have:t = u.graphs.length:=by omega
  subst this
  repeat' (first|((with_reducible refine Go.red ?_);conv => whnf)|refine aG ?_|exact aCn|with_reducible refine Go.and ?_ ?_|((with_reducible refine Ask.mk ?_);first|exact aAsk|(exact hgm)|exact aAsk2|(intro h;simp_all [UnitS.cells] <;> fail)|(simp_all [UnitS.cells] <;> fail))|(apply Go.elem;(·exact aElem))|refine aH ?_|((with_reducible refine Go.bool ?_ ?_) <;> intro hc <;> (try simp only [List.length_map,ne_eq,hcs] at hc) <;> try (exfalso;omega)))
  refine ⟨?_⟩
  have e1:∀ (H:Hp) (a b:Nat),Abs.frz H 6 (.tup [.sl 6 a,.sl 7 b]) = .tup [Abs.frz H 5 (.sl 6 a),Abs.frz H 5 (.sl 7 b)]:=fun H a b => by
   simp only [frz,List.map_cons,List.map_nil]
  refine (e1 _ _ _).trans ?_
  rw [frz_sl (b:=6) (e:=88) (sz:=2) (d:=d6) (es:=(accRU v u u.graphs.length).map accAv) aRow (by simp),frz_sl (b:=7) (e:=89) (sz:=1) (d:=d7) (es:=(accRU v u u.graphs.length).map lckAv) aRow (by simp),frz_same _ (fit_accs _),frz_same _ (fit_lcks _)]
end Go.Proofs.YtmonponfppdgfaaGreatDoor
end
section
/- How variables are shared: the document's walk. -/
namespace Go.Proofs.YtmonponfppdgfaaGreatDoor
open Go Go.Abs Go.Proofs
set_option linter.unusedSimpArgs false
set_option linter.unusedVariables false
def inAll (R:List AccR) (j:Nat):Bool:=R.all fun x => decide ((j:Int) ∈ risL x.2.2)
def grdN (R:List AccR) (m:Nat):List Int:=((List.range m).filter (inAll R)).map fun (j:Nat) => (j:Int)
theorem grdN_succ (R:List AccR) (m:Nat):grdN R (m + 1) = grdN R m ++ (if inAll R m = true then [(m:Int)] else []):=by
 unfold grdN
 rw [List.range_succ,List.filter_append,List.map_append]
 congr 1
 rw [List.filter_cons];split <;> simp
theorem grdN_len (R:List AccR) (m:Nat):(grdN R m).length ≤ m:=by
 unfold grdN
 rw [List.length_map]
 have:=List.length_filter_le (inAll R) (List.range m)
 simpa using this
theorem inAll_grd (R:List AccR) (j:Nat):inAll R j = grdB (R.map fun x => (x.1,x.2.2)) j:=by
 unfold inAll grdB
 rw [List.all_map]
 congr 1
 funext x
 show _ = List.any x.2.2 _
 rw [Bool.eq_iff_iff,decide_eq_true_eq,risL_mem,List.any_eq_true]
 constructor
 ·intro h;exact ⟨_,h,by simp⟩
 ·rintro ⟨k,h1,h2⟩;rw [← of_decide_eq_true h2];exact h1
def sevTo (R:List AccR) (k:Nat):Bool:=(R.take k).any fun x => decide ((x.1:Int) ≠ ((R.getD 0 default).1:Nat))
def classR (R:List AccR) (m:Nat):ClassV:=if R.length = 0 then ⟨0,0,0⟩ else if sevTo R R.length = false then ⟨1,((R.getD 0 default).1:Nat),0⟩ else if 0 < (grdN R m).length then ⟨2,0,(grdN R m).getD 0 0⟩ else ⟨3,0,0⟩
theorem classR_eq (R:List AccR) (m:Nat):classR R m = classT m (R.map fun x => (x.1,x.2.2)):=by
 cases R with
 | nil => rfl
 | cons x r =>
  obtain ⟨t,i,l⟩:=x
  unfold classR
  rw [if_neg (by simp),List.map_cons,classT]
  have hs:(sevTo ((t,i,l) :: r) ((t,i,l) :: r).length = false) ↔ (r.map fun x => (x.1,x.2.2)).all (fun x => decide (x.1 = t)) = true:=by
   unfold sevTo
   rw [List.take_length]
   simp [List.any_eq_false,List.getD]
   constructor <;> (intro h a b c d;have:=h a b c d;omega)
  by_cases h:(r.map fun x => (x.1,x.2.2)).all (fun x => decide (x.1 = t)) = true
  ·rw [if_pos (hs.2 h),if_pos h];rfl
  ·rw [if_neg (mt hs.1 h),if_neg h]
   have hf:(List.range m).find? (grdB ((t,l) :: r.map fun x => (x.1,x.2.2))) = ((List.range m).filter (inAll ((t,i,l) :: r))).head?:=by
    rw [List.head?_filter]
    congr 1
    funext j
    rw [inAll_grd];rfl
   rw [hf]
   unfold grdN
   cases hc:(List.range m).filter (inAll ((t,i,l) :: r)) with
   | nil => rfl
   | cons a b => rw [if_pos (by simp)];rfl
theorem lck_at {R:List AccR} {k:Nat} (h:k < R.length) (d:AV):(R.map lckAv).getD (k:Int).toNat d = .im 1 .any ((risL (R.getD k default).2.2).map i64):=by
 rw [Int.toNat_natCast];exact getD_av lckAv R k d h
theorem acc_at {R:List AccR} {k:Nat} (h:k < R.length) (d:AV):(R.map accAv).getD (k:Int).toNat d = .agg [i64 (R.getD k default).1,i64 (R.getD k default).2.1]:=by
 rw [Int.toNat_natCast];exact getD_av accAv R k d h
theorem accRU_in {u:UnitS} (hr:RightU u) (v:Int) {k:Nat} (hk:k < (accRU v u u.graphs.length).length):((accRU v u u.graphs.length).getD k default).2.2.length ≤ 5000:=by
 have hm:(accRU v u u.graphs.length).getD k default ∈ accRU v u u.graphs.length:=getD_mem' default hk
 generalize (accRU v u u.graphs.length).getD k default = x at *
 unfold accRU at hm
 obtain ⟨t,ht,h1⟩:=List.mem_flatMap.1 hm
 obtain ⟨i,hi,h2⟩:=List.mem_filterMap.1 h1
 unfold accRG at h2
 split at h2
 ·cases h2;exact held_short (hr.gr (List.mem_range.1 ht)) i
 ·cases h2
set_option maxRecDepth 4000 in
set_option maxHeartbeats 8000000 in
theorem guards_pure (u:UnitS) (hu:u.Wf) (hr:RightU u) (v:Int):Pure Tryz.prog 47 [u.av,i64 v] (fun r => r = imF (if (accRU v u u.graphs.length).length = 0 then [] else grdN (accRU v u u.graphs.length) u.locks.length)):=by
 have htp:=touched_pure u hu hr v
 have hsh:=fun k hk => accRU_in hr v (k:=k) hk
 have hfew:=hr.few
 have hRl:=accRU_len (u:=u) v (fun g hg => (hr.graphs g hg).len.2) (Nat.le_refl _)
 refine pure_of_call ?_ (by simp only [imF,fitA];exact fit_ints _ _)
 refine Go.fnL lf47 rfl ?_
 generalize accRU v u u.graphs.length = R at *
 have hlm:(u.locks.map Decl.av).length = u.locks.length:=by simp
 have hRa:(R.map accAv).length = R.length:=by simp
 have hRk:(R.map lckAv).length = R.length:=by simp
 repeat' (first|((with_reducible refine Go.red ?_);conv => whnf)|refine aG ?_|exact aCn|with_reducible refine Go.and ?_ ?_|((with_reducible refine Ask.mk ?_);first|exact aAsk|exact aAsk2|(intro h;simp_all [UnitS.cells] <;> fail)|(simp_all [UnitS.cells] <;> fail))|(apply Go.elem;(·exact aElem))|refine aK (htp) ?_|refine aH ?_|((with_reducible refine Go.bool ?_ ?_) <;> intro hc <;> (try simp only [List.length_map,ne_eq,hcs] at hc) <;> try (exfalso;omega)))
 refine Go.loopF (fun l:Nat => [(2,.pt 0 1 0 0),(5,.im 2 .any (R.map accAv)),(6,.im 1 .any (R.map lckAv)),(7,.sl 11 (grdN R l).length),(8,i64 l)])
  (fun l H n => l ≤ u.locks.length∧(R.length = 0→l = 0)∧12 ≤ n∧(∃ d,getH H 0 = some (.row 25 3 d [u.av]))∧∃ d,getH H 11 = some (.row 3 1 d ((grdN R l).map i64))) (fun l => u.locks.length - l) 0 ⟨_,_,_,Rt.nil 7 3 1 (by omega) rfl,aLess,Nat.zero_le _,fun _ => rfl,aNx,⟨_,aRow⟩,⟨_,aRow⟩⟩ ?_
 rintro l H n ⟨hl,hz,hn,⟨d0,r0⟩,d1,r1⟩
 by_cases hll:l < u.locks.length∧0 < R.length
 ·obtain ⟨hl1,hl2⟩:=hll
  have hgm:((grdN R l).map i64).length = (grdN R l).length:=by simp
  have hgl:=grdN_len R l
  have hgs:=grdN_succ R l
  repeat' (first|((with_reducible refine Go.red ?_);conv => whnf)|refine aG ?_|exact aCn|with_reducible refine Go.and ?_ ?_|((with_reducible refine Ask.mk ?_);first|exact aAsk|(exact hlm)|(exact hRa)|exact aAsk2|(intro h;simp_all [UnitS.cells] <;> fail)|(simp_all [UnitS.cells] <;> fail))|(apply Go.elem;(·exact aElem))|refine aH ?_|((with_reducible refine Go.bool ?_ ?_) <;> intro hc <;> (try simp only [List.length_map,ne_eq,hcs] at hc) <;> try (exfalso;omega)))
  refine Go.loop (fun σ:Nat × Bool => [(2,.pt 0 1 0 0),(5,.im 2 .any (R.map accAv)),(6,.im 1 .any (R.map lckAv)),(7,.sl 11 (grdN R l).length),(8,i64 l),(9,bl σ.2),(10,i64 σ.1)])
   (fun σ H m => n ≤ m∧σ.1 ≤ R.length∧σ.2 = inAll (R.take σ.1) l∧(∃ d,getH H 0 = some (.row 25 3 d [u.av]))∧∃ d,getH H 11 = some (.row 3 1 d ((grdN R l).map i64))) (fun σ => R.length - σ.1) (0,true) aLess ⟨aNx,Nat.zero_le _,rfl,⟨_,aRow⟩,⟨_,aRow⟩⟩ ?_
  clear r0 r1
  rintro ⟨k,al⟩ H2 m ⟨hm,hk,hal,⟨d0,r0⟩,d1,r1⟩
  dsimp only at hk hal ⊢
  by_cases hkl:k < R.length
  ·have ek:=fun d => lck_at hkl d
   have hh:=rhas_pure (risL (R.getD k default).2.2) (Nat.le_trans (risL_len _) (hsh k hkl)) l
   unfold imF at hh
   have hnx:inAll (R.take (k + 1)) l = (al && decide ((l:Int) ∈ risL (R.getD k default).2.2)):=by
    rw [hal,List.take_succ_eq_append_getElem hkl]
    unfold inAll
    rw [List.all_append];simp [List.getD,hkl]
   cases al with
   | false =>
    repeat' (first|((with_reducible refine Go.red ?_);conv => whnf)|refine aG ?_|exact aCn|with_reducible refine Go.and ?_ ?_|((with_reducible refine Ask.mk ?_);first|exact aAsk|(exact hRa)|(exact hRk)|exact aAsk2)|(apply Go.elem;(·(first|exact ek _|exact aElem)))|refine aK (hh) ?_|refine aH ?_|((with_reducible refine Go.bool ?_ ?_) <;> intro hc <;> (try simp only [List.length_map,ne_eq,hcs] at hc) <;> try (exfalso;omega)))
    exact ⟨(k + 1,false),by dsimp only;omega,aLess,aNx,by dsimp only;omega,by dsimp only;rw [hnx];rfl,⟨_,aRow⟩,⟨_,aRow⟩⟩
   | true =>
    repeat' (first|((with_reducible refine Go.red ?_);conv => whnf)|refine aG ?_|exact aCn|with_reducible refine Go.and ?_ ?_|((with_reducible refine Ask.mk ?_);first|exact aAsk|(exact hRa)|(exact hRk)|exact aAsk2)|(apply Go.elem;(·(first|exact ek _|exact aElem)))|refine aK (hh) ?_|refine aH ?_|((with_reducible refine Go.bool ?_ ?_) <;> intro hc <;> (try simp only [List.length_map,ne_eq,hcs] at hc) <;> try (exfalso;omega)))
    exact ⟨(k + 1,decide ((l:Int) ∈ risL (R.getD k default).2.2)),by dsimp only;omega,aLess,aNx,by dsimp only;omega,by dsimp only;rw [hnx];rfl,⟨_,aRow⟩,⟨_,aRow⟩⟩
  ·have:k = R.length:=by omega
   subst this
   rw [List.take_length] at hal
   rw [← hal] at hgs
   cases al with
   | false =>
    rw [if_neg (by decide),List.append_nil] at hgs
    repeat' (first|((with_reducible refine Go.red ?_);conv => whnf)|refine aG ?_|exact aCn|with_reducible refine Go.and ?_ ?_|((with_reducible refine Ask.mk ?_);first|exact aAsk|(exact hRa)|(exact hRk)|exact aAsk2)|(apply Go.elem;(·exact aElem))|refine aH ?_|((with_reducible refine Go.bool ?_ ?_) <;> intro hc <;> (try simp only [List.length_map,ne_eq,hcs] at hc) <;> try (exfalso;omega)))
    exact ⟨l + 1,by omega,_,_,_,Rt.refl _ _ _,by rw [hgs];exact aLess,by omega,fun h => by omega,aNx,⟨_,aRow⟩,⟨_,by rw [hgs];exact aRow⟩⟩
   | true =>
    rw [if_pos rfl] at hgs
    repeat' (first|((with_reducible refine Go.red ?_);conv => whnf)|refine aG ?_|exact aCn|with_reducible refine Go.and ?_ ?_|((with_reducible refine Ask.mk ?_);first|exact aAsk|(exact hRa)|(exact hRk)|(exact hgm)|exact aAsk2)|(apply Go.elem;(·exact aElem))|refine aH ?_|((with_reducible refine Go.bool ?_ ?_) <;> intro hc <;> (try simp only [List.length_map,ne_eq,hcs] at hc) <;> try (exfalso;omega)))
    exact ⟨l + 1,by omega,_,_,_,Rt.refl _ _ _,by rw [hgs,List.length_append];exact aLess,by omega,fun h => by omega,aNx,⟨_,aRow⟩,⟨_,Eq.trans (b:=some (.row 3 1 _ _)) aRow (row_eq (by rw [hgs,List.map_append];rfl))⟩⟩
 ·have hfin:(if R.length = 0 then [] else grdN R u.locks.length) = grdN R l:=by
   by_cases h:R.length = 0
   ·rw [if_pos h,hz h];rfl
   ·rw [if_neg h,show l = u.locks.length by omega]
  rw [hfin]
  repeat' (first|((with_reducible refine Go.red ?_);conv => whnf)|refine aG ?_|exact aCn|with_reducible refine Go.and ?_ ?_|((with_reducible refine Ask.mk ?_);first|exact aAsk|(exact hlm)|(exact hRa)|exact aAsk2|(intro h;simp_all [UnitS.cells] <;> fail)|(simp_all [UnitS.cells] <;> fail))|(apply Go.elem;(·exact aElem))|refine aH ?_|((with_reducible refine Go.bool ?_ ?_) <;> intro hc <;> (try simp only [List.length_map,ne_eq,hcs] at hc) <;> try (exfalso;omega)))
  all_goals exact ⟨(frz_sl aRow (by simp)).trans (by rw [frz_same _ (fit_ints _ _)];rfl)⟩
theorem sevTo_next {R:List AccR} {k:Nat} (h:k < R.length):sevTo R (k + 1) = (sevTo R k || decide (((R.getD k default).1:Int) ≠ ((R.getD 0 default).1:Nat))):=by
 unfold sevTo
 rw [List.take_succ_eq_append_getElem h,List.any_append,show R.getD k default = R[k] by simp [List.getD,h],List.any_cons,List.any_nil,Bool.or_false]
theorem classTo_cat (u:UnitS) (m:Nat):(classTo u (m + 1)).map ClassV.av = (classTo u m).map ClassV.av ++ [(classR (accRU (m:Int) u u.graphs.length) u.locks.length).av]:=by
 rw [classTo_next,classR_eq,touch_accRU]
set_option maxRecDepth 4000 in
set_option maxHeartbeats 8000000 in
theorem rclasses_pure (u:UnitS) (hu:u.Wf):Pure Tryz.prog 25 [u.av] (fun r => r = if rightB u = true then .tup [classesAv u,i64 0] else .tup [.sc (.slice none 0 0),i64 60]):=by
 have hck:=rcheck_pure u hu
 by_cases hr:RightU u
 ·rw [if_pos (rightB_iff.2 hr)]
  rw [checkU_ok.2 hr] at hck
  have hfew:=hr.few
  refine pure_of_call ?_ (by simp only [fitA,fitL,classesAv];exact ⟨fit_classes _,trivial,trivial⟩)
  refine Go.fnL lf25 rfl ?_
  have hsm:(u.shared.map Decl.av).length = u.shared.length:=by simp
  have hcl:∀ v,(classTo u v).length = v:=fun v => by simp [classTo]
  repeat' (first|((with_reducible refine Go.red ?_);conv => whnf)|refine aG ?_|exact aCn|with_reducible refine Go.and ?_ ?_|((with_reducible refine Ask.mk ?_);first|exact aAsk|exact aAsk2|(intro h;simp_all [UnitS.cells] <;> fail)|(simp_all [UnitS.cells] <;> fail))|(apply Go.elem;(·exact aElem))|refine aK (hck) ?_|refine aH ?_|((with_reducible refine Go.bool ?_ ?_) <;> intro hc <;> (try simp only [List.length_map,ne_eq,hcs] at hc) <;> try (exfalso;omega)))
  all_goals first|(exfalso;simp at hc;done)|skip
  refine Go.loopF (fun x:Nat => [(1,.pt 0 1 0 0),(7,.sl 15 x),(8,i64 x)])
   (fun x H n => x ≤ u.shared.length∧16 ≤ n∧(∃ d,getH H 0 = some (.row 25 3 d [u.av]))∧∃ d,getH H 15 = some (.row 80 3 d ((classTo u x).map ClassV.av))) (fun x => u.shared.length - x) 0 ⟨_,_,_,Rt.nil 7 80 3 (by omega) rfl,aLess,Nat.zero_le _,aNx,⟨_,aRow⟩,⟨_,aRow⟩⟩ ?_
  clear hck
  rintro x H n ⟨hx,hn,⟨d0,r0⟩,d1,r1⟩
  by_cases hxl:x < u.shared.length
  ·have htp:=touched_pure u hu hr x
   have hgp:=guards_pure u hu hr x
   have hRl:=accRU_len (u:=u) (x:Int) (fun g hg => (hr.graphs g hg).len.2) (Nat.le_refl _)
   have hnx:=classTo_cat u x
   have hml:((classTo u x).map ClassV.av).length = x:=by rw [List.length_map,hcl]
   generalize hR:accRU (x:Int) u u.graphs.length = R at *
   have hRa:(R.map accAv).length = R.length:=by simp
   unfold imF at hgp
   repeat' (first|((with_reducible refine Go.red ?_);conv => whnf)|refine aG ?_|exact aCn|with_reducible refine Go.and ?_ ?_|((with_reducible refine Ask.mk ?_);first|exact aAsk|(exact hsm)|exact aAsk2|(intro h;simp_all [UnitS.cells] <;> fail)|(simp_all [UnitS.cells] <;> fail))|(apply Go.elem;(·exact aElem))|refine aK (htp) ?_|refine aH ?_|((with_reducible refine Go.bool ?_ ?_) <;> intro hc <;> (try simp only [List.length_map,ne_eq,hcs] at hc) <;> try (exfalso;omega)))
   refine Go.loop (fun σ:Nat × Bool => [(1,.pt 0 1 0 0),(7,.sl 15 x),(8,i64 x),(9,.im 2 .any (R.map accAv)),(11,bl σ.2),(12,i64 σ.1)])
    (fun σ H m => n ≤ m∧σ.1 ≤ R.length∧σ.2 = sevTo R σ.1∧(∃ d,getH H 0 = some (.row 25 3 d [u.av]))∧∃ d,getH H 15 = some (.row 80 3 d ((classTo u x).map ClassV.av))) (fun σ => R.length - σ.1) (0,false) aLess ⟨aNx,Nat.zero_le _,rfl,⟨_,aRow⟩,⟨_,aRow⟩⟩ ?_
   clear r0 r1
   rintro ⟨k,sv⟩ H2 m ⟨hm,hk,hsv,⟨d0,r0⟩,d1,r1⟩
   dsimp only at hk hsv ⊢
   by_cases hkl:k < R.length
   ·have ek:=fun d => acc_at hkl d
    have e0:∀ d,(R.map accAv).getD (0:Int).toNat d = .agg [i64 (R.getD 0 default).1,i64 (R.getD 0 default).2.1]:=fun d => acc_at (k:=0) (by omega) d
    have hs2:=sevTo_next hkl
    rw [← hsv] at hs2
    cases sv with
    | true =>
     repeat' (first|((with_reducible refine Go.red ?_);conv => whnf)|refine aG ?_|exact aCn|with_reducible refine Go.and ?_ ?_|((with_reducible refine Ask.mk ?_);first|exact aAsk|(exact hRa)|exact aAsk2)|(apply Go.elem;(·(first|exact ek _|exact e0 _|exact aElem)))|refine aH ?_|((with_reducible refine Go.bool ?_ ?_) <;> intro hc <;> (try simp only [List.length_map,ne_eq,hcs] at hc) <;> try (exfalso;omega)))
     exact ⟨(k + 1,true),by dsimp only;omega,aLess,aNx,by dsimp only;omega,by dsimp only;rw [hs2];rfl,⟨_,aRow⟩,⟨_,aRow⟩⟩
    | false =>
     repeat' (first|((with_reducible refine Go.red ?_);conv => whnf)|refine aG ?_|exact aCn|with_reducible refine Go.and ?_ ?_|((with_reducible refine Ask.mk ?_);first|exact aAsk|(exact hRa)|exact aAsk2)|(apply Go.elem;(·(first|exact ek _|exact e0 _|exact aElem)))|refine aH ?_|((with_reducible refine Go.bool ?_ ?_) <;> intro hc <;> (try simp only [List.length_map,ne_eq,hcs] at hc) <;> try (exfalso;omega)))
     exact ⟨(k + 1,decide (((R.getD k default).1:Int) ≠ ((R.getD 0 default).1:Nat))),by dsimp only;omega,aLess,aNx,by dsimp only;omega,by dsimp only;rw [hs2];rfl,⟨_,aRow⟩,⟨_,aRow⟩⟩
   ·have:k = R.length:=by omega
    subst this
    unfold classR at hnx
    by_cases hz:R.length = 0
    ·rw [if_pos hz] at hnx
     repeat' (first|((with_reducible refine Go.red ?_);conv => whnf)|refine aG ?_|exact aCn|with_reducible refine Go.and ?_ ?_|((with_reducible refine Ask.mk ?_);first|exact aAsk|(exact hRa)|(exact hml)|exact aAsk2|(intro h;simp_all [ClassV.cells] <;> fail)|(simp_all [ClassV.cells] <;> fail))|(apply Go.elem;(·exact aElem))|refine aK (hgp) ?_|refine aH ?_|((with_reducible refine Go.bool ?_ ?_) <;> intro hc <;> (try simp only [List.length_map,ne_eq,hcs] at hc) <;> try (exfalso;omega)))
     all_goals exact ⟨x + 1,by omega,_,_,_,Rt.refl _ _ _,aLess,by omega,aNx,⟨_,aRow⟩,⟨_,Eq.trans (b:=some (.row 80 3 _ _)) aRow (row_eq (by rw [hnx];rfl))⟩⟩
    ·rw [if_neg hz,← hsv] at hnx
     rw [if_neg hz] at hgp
     have e0:∀ d,(R.map accAv).getD (0:Int).toNat d = .agg [i64 (R.getD 0 default).1,i64 (R.getD 0 default).2.1]:=fun d => acc_at (k:=0) (by omega) d
     cases sv with
     | false =>
      rw [if_pos rfl] at hnx
      repeat' (first|((with_reducible refine Go.red ?_);conv => whnf)|refine aG ?_|exact aCn|with_reducible refine Go.and ?_ ?_|((with_reducible refine Ask.mk ?_);first|exact aAsk|(exact hRa)|(exact hml)|exact aAsk2|(intro h;simp_all [ClassV.cells] <;> fail)|(simp_all [ClassV.cells] <;> fail))|(apply Go.elem;(·(first|exact e0 _|exact aElem)))|refine aK (hgp) ?_|refine aH ?_|((with_reducible refine Go.bool ?_ ?_) <;> intro hc <;> (try simp only [List.length_map,ne_eq,hcs] at hc) <;> try (exfalso;omega)))
      all_goals exact ⟨x + 1,by omega,_,_,_,Rt.refl _ _ _,aLess,by omega,aNx,⟨_,aRow⟩,⟨_,Eq.trans (b:=some (.row 80 3 _ _)) aRow (row_eq (by rw [hnx];rfl))⟩⟩
     | true =>
      rw [if_neg (by decide)] at hnx
      have hgm:((grdN R u.locks.length).map i64).length = (grdN R u.locks.length).length:=by simp
      by_cases hg:0 < (grdN R u.locks.length).length
      ·rw [if_pos hg] at hnx
       have eg:∀ d,((grdN R u.locks.length).map i64).getD (0:Int).toNat d = i64 ((grdN R u.locks.length).getD 0 0):=fun d => int_at (i:=0) hg d
       repeat' (first|((with_reducible refine Go.red ?_);conv => whnf)|refine aG ?_|exact aCn|with_reducible refine Go.and ?_ ?_|((with_reducible refine Ask.mk ?_);first|exact aAsk|(exact hRa)|(exact hml)|(exact hgm)|exact aAsk2|(intro h;simp_all [ClassV.cells] <;> fail)|(simp_all [ClassV.cells] <;> fail))|(apply Go.elem;(·(first|exact eg _|exact aElem)))|refine aK (hgp) ?_|refine aH ?_|((with_reducible refine Go.bool ?_ ?_) <;> intro hc <;> (try simp only [List.length_map,ne_eq,hcs] at hc) <;> try (exfalso;omega)))
       all_goals exact ⟨x + 1,by omega,_,_,_,Rt.refl _ _ _,aLess,by omega,aNx,⟨_,aRow⟩,⟨_,Eq.trans (b:=some (.row 80 3 _ _)) aRow (row_eq (by rw [hnx];rfl))⟩⟩
      ·rw [if_neg hg] at hnx
       repeat' (first|((with_reducible refine Go.red ?_);conv => whnf)|refine aG ?_|exact aCn|with_reducible refine Go.and ?_ ?_|((with_reducible refine Ask.mk ?_);first|exact aAsk|(exact hRa)|(exact hml)|(exact hgm)|exact aAsk2|(intro h;simp_all [ClassV.cells] <;> fail)|(simp_all [ClassV.cells] <;> fail))|(apply Go.elem;(·exact aElem))|refine aK (hgp) ?_|refine aH ?_|((with_reducible refine Go.bool ?_ ?_) <;> intro hc <;> (try simp only [List.length_map,ne_eq,hcs] at hc) <;> try (exfalso;omega)))
       all_goals exact ⟨x + 1,by omega,_,_,_,Rt.refl _ _ _,aLess,by omega,aNx,⟨_,aRow⟩,⟨_,Eq.trans (b:=some (.row 80 3 _ _)) aRow (row_eq (by rw [hnx];rfl))⟩⟩
  ·have:x = u.shared.length:=by omega
   subst this
   repeat' (first|((with_reducible refine Go.red ?_);conv => whnf)|refine aG ?_|exact aCn|with_reducible refine Go.and ?_ ?_|((with_reducible refine Ask.mk ?_);first|exact aAsk|(exact hsm)|exact aAsk2|(intro h;simp_all [UnitS.cells] <;> fail)|(simp_all [UnitS.cells] <;> fail))|(apply Go.elem;(·exact aElem))|refine aH ?_|((with_reducible refine Go.bool ?_ ?_) <;> intro hc <;> (try simp only [List.length_map,ne_eq,hcs] at hc) <;> try (exfalso;omega)))
   refine ⟨?_⟩
   have e1:∀ H,Abs.frz H 6 (.tup [.sl 15 u.shared.length,i64 0]) = .tup [Abs.frz H 5 (.sl 15 u.shared.length),i64 0]:=fun H => by
    simp only [frz,List.map_cons,List.map_nil]
   refine (e1 _).trans ?_
   rw [frz_sl (b:=15) (e:=80) (sz:=3) (d:=d1) (es:=(classTo u u.shared.length).map ClassV.av) aRow (by rw [List.length_map,hcl]),frz_same _ (fit_classes _)]
   rfl
 ·rw [if_neg (mt rightB_iff.1 hr)]
  have hbad:=checkU_bad hr
  generalize checkU u = c at *
  obtain ⟨c1,c2,c3⟩:=c
  dsimp only at hbad
  subst hbad
  refine Go.pureL lf25 rfl ?_
  repeat' (first|((with_reducible refine Go.red ?_);conv => whnf)|refine aG ?_|exact aCn|with_reducible refine Go.and ?_ ?_|((with_reducible refine Ask.mk ?_);first|exact aAsk|exact aAsk2|(intro h;simp_all [UnitS.cells] <;> fail)|(simp_all [UnitS.cells] <;> fail))|(apply Go.elem;(·exact aElem))|refine aK (hck) ?_|refine aH ?_|((with_reducible refine Go.bool ?_ ?_) <;> intro hc <;> (try simp only [List.length_map,ne_eq,hcs] at hc) <;> try (exfalso;omega)))
  all_goals first|exact rfl|(exfalso;simp at hc;done)
end Go.Proofs.YtmonponfppdgfaaGreatDoor
end
section
/- What can be left out, in plain data. -/
namespace Go.Proofs.YtmonponfppdgfaaGreatDoor
open Go Go.Abs Go.Proofs
set_option linter.unusedSimpArgs false
set_option linter.unusedVariables false
abbrev tf (l:List Bool) (i:Nat):Bool:=l.getD i false
theorem tf_lt {l:List Bool} {i:Nat} (h:tf l i = true):i < l.length:=by
 apply Classical.byContradiction
 intro hn
 unfold tf at h
 rw [List.getD,List.getElem?_eq_none (by omega)] at h
 cases h
theorem nodup_sub:∀ {l m:List Nat},l.Nodup→(∀ a ∈ l,a ∈ m)→l.length ≤ m.length
 | [],_,_,_ => Nat.zero_le _
 | a :: l,m,h,hs => by
  rw [List.nodup_cons] at h
  have h1:a ∈ m:=hs a (by simp)
  have:=nodup_sub (m:=m.erase a) h.2 fun x hx => by
   have hne:x ≠ a:=fun e => h.1 (e ▸ hx)
   exact (List.mem_erase_of_ne hne).2 (hs x (by simp [hx]))
  rw [List.length_erase_of_mem h1] at this
  have:=List.length_pos_of_mem h1
  simp only [List.length_cons]
  omega
abbrev nxt (g:Graph) (i:Nat):Nat:=(g.nd i).next.toNat
def iter (g:Graph) (i:Nat):Nat→Nat
 | 0 => i
 | k + 1 => nxt g (iter g i k)
theorem iter_add (g:Graph) (i a:Nat):∀ b,iter g i (a + b) = iter g (iter g i a) b
 | 0 => rfl
 | b + 1 => by rw [← Nat.add_assoc,iter,iter,iter_add g i a b]
theorem iter_head (g:Graph) (i:Nat) (k:Nat):iter g i (k + 1) = iter g (nxt g i) k:=by
 rw [Nat.add_comm,iter_add];rfl
def Ret (l:List Bool) (g:Graph) (i:Nat):Prop:=∃ p,1 ≤ p∧iter g i p = i∧∀ q,q < p→tf l (iter g i q) = true
theorem iter_inj {g:Graph} {i p:Nat} (hp:iter g i p = i) (hmin:∀ p',1 ≤ p'→p' < p→iter g i p' ≠ i) {a b:Nat} (hab:a < b) (hb:b < p):iter g i a ≠ iter g i b:=by
 intro h
 refine hmin (a + (p - b)) (by omega) (by omega) ?_
 rw [iter_add,h,← iter_add,show b + (p - b) = p by omega,hp]
theorem exists_min {P:Nat→Prop} (h:∃ n,P n):∃ n,P n∧∀ m,m < n→¬ P m:=by
 obtain ⟨n,hn⟩:=h
 induction n using Nat.strongRecOn with
 | _ n ih =>
  by_cases h:∃ m,m < n∧P m
  ·obtain ⟨m,h1,h2⟩:=h;exact ih m h1 h2
  ·exact ⟨n,hn,fun m hm hp => h ⟨m,hm,hp⟩⟩
theorem nodup_iter {g:Graph} {i p:Nat} (h:∀ a b,a < b→b < p→iter g i a ≠ iter g i b):((List.range p).map (iter g i)).Nodup:=by
 induction p with
 | zero => simp
 | succ p ih =>
  rw [List.range_succ,List.map_append,List.nodup_append]
  refine ⟨ih fun a b h1 h2 => h a b h1 (by omega),by simp,fun x hx y hy => ?_⟩
  simp only [List.map_cons,List.map_nil,List.mem_cons,List.not_mem_nil,or_false] at hy
  subst hy
  rw [List.mem_map] at hx
  obtain ⟨a,ha,rfl⟩:=hx
  exact h a p (List.mem_range.1 ha) (by omega)
theorem ret_short {l:List Bool} {g:Graph} {i:Nat} (h:Ret l g i):∃ p,1 ≤ p∧p ≤ l.length∧iter g i p = i∧∀ q,q < p→tf l (iter g i q) = true:=by
 obtain ⟨p,⟨h1,h2,h3⟩,hmin⟩:=exists_min h
 refine ⟨p,h1,?_,h2,h3⟩
 have hm:∀ p',1 ≤ p'→p' < p→iter g i p' ≠ i:=fun p' a b e => hmin p' b ⟨a,e,fun q hq => h3 q (by omega)⟩
 have hn:=nodup_iter (g:=g) (i:=i) (p:=p) fun a b hab hb => iter_inj h2 hm hab hb
 have:=nodup_sub (m:=List.range l.length) hn fun x hx => by
  rw [List.mem_map] at hx
  obtain ⟨a,ha,rfl⟩:=hx
  exact List.mem_range.2 (tf_lt (h3 a (List.mem_range.1 ha)))
 simpa using this
open Classical in
noncomputable def idleOf (l:List Bool) (g:Graph):List Bool:=(List.range l.length).map fun i => tf l i && !decide (Ret l g i)
theorem idleOf_len (l:List Bool) (g:Graph):(idleOf l g).length = l.length:=by simp [idleOf]
theorem idleOf_get {l:List Bool} {g:Graph} {i:Nat}:tf (idleOf l g) i = true ↔ tf l i = true∧¬ Ret l g i:=by
 by_cases hi:i < l.length
 ·simp [tf,idleOf,List.getD,hi]
 ·constructor
  ·intro h;have:=tf_lt h;rw [idleOf_len] at this;omega
  ·intro h;have:=tf_lt h.1;omega
theorem idle_ends (l:List Bool) (g:Graph) (i:Nat):∃ k,k ≤ l.length∧tf (idleOf l g) (iter g i k) = false∧∀ q,q < k→tf (idleOf l g) (iter g i q) = true:=by
 have hex:∃ k,tf (idleOf l g) (iter g i k) = false:=by
  apply Classical.byContradiction
  intro hn
  have hall:∀ k,tf (idleOf l g) (iter g i k) = true:=fun k => by
   cases h:tf (idleOf l g) (iter g i k) with
   | true => rfl
   | false => exact absurd ⟨k,h⟩ hn
  have:¬ ((List.range (l.length + 1)).map (iter g i)).Nodup:=fun hd => by
   have:=nodup_sub (m:=List.range l.length) hd fun x hx => by
    rw [List.mem_map] at hx
    obtain ⟨a,ha,rfl⟩:=hx
    have:=tf_lt (hall a)
    rw [idleOf_len] at this
    exact List.mem_range.2 this
   simp at this
   omega
  refine this (nodup_iter fun a b hab hb e => ?_)
  have h1:=(idleOf_get.1 (hall a)).2
  refine h1 ⟨b - a,by omega,?_,fun q _ => ?_⟩
  ·rw [← iter_add,show a + (b - a) = b by omega,← e]
  ·rw [← iter_add];exact (idleOf_get.1 (hall _)).1
 obtain ⟨k,h1,h2⟩:=exists_min hex
 have hq:∀ q,q < k→tf (idleOf l g) (iter g i q) = true:=fun q hq => by
  have:=h2 q hq
  cases h:tf (idleOf l g) (iter g i q) with
  | true => rfl
  | false => exact absurd h this
 refine ⟨k,?_,h1,hq⟩
 have hd:((List.range k).map (iter g i)).Nodup:=nodup_iter fun a b hab hb e => by
  have h1:=(idleOf_get.1 (hq a (by omega))).2
  refine h1 ⟨b - a,by omega,?_,fun q hqb => ?_⟩
  ·rw [← iter_add,show a + (b - a) = b by omega,← e]
  ·rw [← iter_add];exact (idleOf_get.1 (hq _ (by omega))).1
 have:=nodup_sub (m:=List.range l.length) hd fun x hx => by
  rw [List.mem_map] at hx
  obtain ⟨a,ha,rfl⟩:=hx
  have:=tf_lt (hq a (List.mem_range.1 ha))
  rw [idleOf_len] at this
  exact List.mem_range.2 this
 simpa using this
def heirN (out:List Bool) (g:Graph):Nat→Nat→Nat
 | 0,i => i
 | f + 1,i => if tf out i = true then heirN out g f (nxt g i) else i
def heir (out:List Bool) (g:Graph) (i:Nat):Nat:=heirN out g out.length i
def Ends (out:List Bool) (g:Graph):Prop:=∀ i,∃ k,k ≤ out.length∧tf out (iter g i k) = false∧∀ q,q < k→tf out (iter g i q) = true
theorem ends_idle (l:List Bool) (g:Graph):Ends (idleOf l g) g:=fun i => by rw [idleOf_len];exact idle_ends l g i
theorem heirN_at (out:List Bool) (g:Graph):∀ (k f i:Nat),k ≤ f→tf out (iter g i k) = false→(∀ q,q < k→tf out (iter g i q) = true)→heirN out g f i = iter g i k
 | 0,0,i,_,_,_ => rfl
 | 0,f + 1,i,_,h,_ => by rw [heirN,if_neg (by rw [show tf out i = false from h];decide)];rfl
 | k + 1,f + 1,i,hk,h,hq => by
  rw [heirN,if_pos (show tf out i = true from hq 0 (by omega)),iter_head]
  refine heirN_at out g k f _ (by omega) ?_ fun q hqk => ?_
  ·rw [← iter_head];exact h
  ·rw [← iter_head];exact hq (q + 1) (by omega)
theorem heir_not {out:List Bool} {g:Graph} (h:Ends out g) (i:Nat):tf out (heir out g i) = false:=by
 obtain ⟨k,h1,h2,h3⟩:=h i
 rw [heir,heirN_at out g k _ i h1 h2 h3];exact h2
theorem heir_self {out:List Bool} {g:Graph} {i:Nat} (hi:tf out i = false):heir out g i = i:=heirN_at out g 0 _ i (Nat.zero_le _) hi fun q hq => by omega
theorem heir_on {out:List Bool} {g:Graph} (h:Ends out g) {i:Nat} (hi:tf out i = true):heir out g i = heir out g (nxt g i):=by
 obtain ⟨k,h1,h2,h3⟩:=h i
 cases k with
 | zero => rw [show tf out (iter g i 0) = tf out i from rfl,hi] at h2;cases h2
 | succ k =>
  rw [heir,heirN_at out g (k + 1) _ i h1 h2 h3,iter_head]
  refine (heirN_at out g k _ _ (by omega) ?_ fun q hq => ?_).symm
  ·rw [← iter_head];exact h2
  ·rw [← iter_head];exact h3 (q + 1) (by omega)
theorem heir_ind {out:List Bool} {g:Graph} (h:Ends out g) {P:Nat→Prop} (hp:∀ i,tf out i = true→P i→P (nxt g i)) {i:Nat} (hi:P i):P (heir out g i):=by
 obtain ⟨k,h1,h2,h3⟩:=h i
 rw [heir,heirN_at out g k _ i h1 h2 h3]
 clear h1 h2
 induction k with
 | zero => exact hi
 | succ k ih => exact hp _ (h3 k (by omega)) (ih fun q hq => h3 q (by omega))
noncomputable def suchB (g:Graph) (cls:List ClassV) (t:Nat) (i:Nat):Bool :=
 let n:=g.nd i
 fnd (reachL g (-1)) (i:Int) && (if n.kind = 1 then !behB (liveT g) n n.slot.toNat || (decide (n.op = 0) && n.a.isSlot && decide (n.a.slot = n.slot)) else if n.kind = 2 then decide ((cls.getD n.thing.toNat default).kind ≠ 3) && !behB (liveT g) n n.slot.toNat else if n.kind = 3 then ownB cls t n.thing.toNat && !behB (waitT g cls t) n n.thing.toNat else if n.kind = 8 then decide (n.next = n.els) else false)
noncomputable def suchTo (g:Graph) (cls:List ClassV) (t:Nat) (m:Nat):List Bool:=(List.range m).map (suchB g cls t)
noncomputable def suchL (g:Graph) (cls:List ClassV) (t:Nat):List Bool:=suchTo g cls t g.nodes.length
noncomputable def idleL (g:Graph) (cls:List ClassV) (t:Nat):List Bool:=idleOf (suchL g cls t) g
theorem suchL_len (g:Graph) (cls:List ClassV) (t:Nat):(suchL g cls t).length = g.nodes.length:=by simp [suchL,suchTo]
theorem idleL_len (g:Graph) (cls:List ClassV) (t:Nat):(idleL g cls t).length = g.nodes.length:=by rw [idleL,idleOf_len,suchL_len]
noncomputable def orderL (g:Graph) (out:List Bool):List Nat:=heir out g 0 :: (List.range g.nodes.length).filter fun i => fnd (reachL g (-1)) (i:Int) && !tf out i && decide (i ≠ heir out g 0)
def placeN (o:List Nat) (i:Nat):Nat:=(o.findIdx? (fun j => decide (j = i))).getD 0
def reNode (g:Graph) (out:List Bool) (o:List Nat) (n:Node):Node:={ n with next:=if n.kind ≠ 9 then (placeN o (heir out g n.next.toNat):Int) else n.next,els:=if n.kind = 8 then (placeN o (heir out g n.els.toNat):Int) else n.els }
noncomputable def onceG (g:Graph) (cls:List ClassV) (t:Nat):Graph:={ g with nodes:=(orderL g (idleL g cls t)).map fun i => reNode g (idleL g cls t) (orderL g (idleL g cls t)) (g.nd i) }
noncomputable def onceU (u:UnitS):UnitS:={ u with graphs:=(List.range u.graphs.length).map fun t => onceG (u.gr t) (classesU u) t }
def sizeU (u:UnitS):Nat:=(u.graphs.map fun g => g.nodes.length).sum
open Classical in
noncomputable def sweepN:Nat→UnitS→UnitS
 | 0,v => v
 | f + 1,v => if onceU v = v then v else sweepN f (onceU v)
noncomputable def sweepU (u:UnitS):UnitS:=sweepN (sizeU u) (onceU u)
end Go.Proofs.YtmonponfppdgfaaGreatDoor
end
