import Derived.Test.YtmonponfppdgfaaGreatDoorM30
import Derived.Test.YtmonponfppdgfaaGreatDoorM34
section
/- What can be left out: the walk. -/
namespace Go.Proofs.YtmonponfppdgfaaGreatDoor
open Go Go.Abs Go.Proofs
set_option linter.unusedSimpArgs false
set_option linter.unusedVariables false
theorem unGo {p:Prop} (h:Go p):p:=h
theorem TAt.keep {b:Nat} {ids:List Nat} {T:Tab} {H H':Hp} (h:TAt b ids T H) (hk:∀ x ∈ b :: ids,getH H' x = getH H x):TAt b ids T H':=QAt.keep h hk
def suchRow (l:List Bool) (m:Nat):List Bool:=l ++ List.replicate (m - l.length) false
theorem suchRow_set {l:List Bool} {m:Nat} (h:l.length < m) (v:Bool):((suchRow l m).map bl).set ((l.length:Nat):Int).toNat (bl v) = (suchRow (l ++ [v]) m).map bl:=by
 rw [Int.toNat_natCast,← List.map_set,suchRow,List.set_append,if_neg (by omega),Nat.sub_self,show m - l.length = (m - (l ++ [v]).length) + 1 by simp;omega,List.replicate_succ,suchRow]
 simp
theorem suchRow_false {l:List Bool} {m:Nat} (h:l.length < m):suchRow (l ++ [false]) m = suchRow l m:=by
 rw [suchRow,suchRow,show m - l.length = (m - (l ++ [false]).length) + 1 by simp;omega,List.replicate_succ];simp
theorem suchRow_len {l:List Bool} {m:Nat} (h:l.length ≤ m):(suchRow l m).length = m:=by simp [suchRow];omega
theorem suchRow_get {l:List Bool} {m:Nat} (h:l.length < m) (d:AV):((suchRow l m).map bl).getD ((l.length:Nat):Int).toNat d = bl false:=by
 rw [bl_at (by rw [suchRow_len (by omega)];exact h),suchRow,List.getD,List.getElem?_append_right (Nat.le_refl _),Nat.sub_self,List.getElem?_replicate,if_pos (by omega)];rfl
theorem suchTo_next (g:Graph) (cls:List ClassV) (t i:Nat):suchTo g cls t (i + 1) = suchTo g cls t i ++ [suchB g cls t i]:=by
 rw [suchTo,List.range_succ,List.map_append];rfl
theorem suchTo_len (g:Graph) (cls:List ClassV) (t i:Nat):(suchTo g cls t i).length = i:=by simp [suchTo]
theorem such_set {g:Graph} {cls:List ClassV} {t i m:Nat} (h:i < m) (v:Bool):((suchRow (suchTo g cls t i) m).map bl).set ((i:Nat):Int).toNat (bl v) = (suchRow (suchTo g cls t i ++ [v]) m).map bl:=by
 have:=suchRow_set (l:=suchTo g cls t i) (m:=m) (by rw [suchTo_len];exact h) v
 rw [suchTo_len] at this;exact this
theorem such_get {g:Graph} {cls:List ClassV} {t i m:Nat} (h:i < m) (d:AV):((suchRow (suchTo g cls t i) m).map bl).getD ((i:Nat):Int).toNat d = bl false:=by
 have:=suchRow_get (l:=suchTo g cls t i) (m:=m) (by rw [suchTo_len];exact h) d
 rw [suchTo_len] at this;exact this
theorem frz_args {b:Nat} {ids:List Nat} {T:Tab} {H H9:Hp} {m k:Nat} (h:TAt b ids T H) (hm:T.length = m) (h9:∀ x ∈ b :: ids,getH H9 x = getH H x) (nd:Node):[AV.sl b m,nd.av,i64 k].map (Abs.frz H9 6) = [.im 1 .any (T.map imB),nd.av,i64 k]:=by
 rw [List.map_cons,List.map_cons,List.map_cons,List.map_nil,← hm,tab_frz (h.keep h9),frz_fit 6 (by simp [fitA]),frz_fit 6 (by simp [fitA])]
theorem fit_args (T:Tab) (nd:Node) (k:Nat):fitL 0 [.im 1 .any (T.map imB),nd.av,i64 k]:=by
 have:fitL 0 (T.map imB):=fit_tab T
 simp only [fitL,fitA]
 exact ⟨this,fit_node _ _,trivial,trivial⟩
set_option maxRecDepth 4000 in
set_option maxHeartbeats 8000000 in
theorem such_call (u:UnitS) (g:Graph) (hg:g.Wf) (hk:GraphOk u g) (t:Nat) (cls:List ClassV) (hcl:cls.length = u.shared.length) (hcl64:cls.length ≤ 64) (H:Hp) (nx:Nat) (hr:∀ (b:Nat) (H':Hp) (n':Nat) (d:AV),getH H' b = some (.row 4 1 d ((suchL g cls t).map bl))→b < n'→CallN Tryz.prog 45 [lookX g t cls,.sl b g.nodes.length] H' n' (fun r H2 n2 => ∃ b2 d2,r = .sl b2 g.nodes.length∧n' ≤ b2∧b2 < n2∧getH H2 b2 = some (.row 4 1 d2 ((idleL g cls t).map bl))∧∀ y,y < n'→getH H2 y = getH H' y)) :
 CallN Tryz.prog 23 [lookX g t cls] H nx (fun r H2 n2 => ∃ b2 d2,r = .sl b2 g.nodes.length∧nx ≤ b2∧b2 < n2∧getH H2 b2 = some (.row 4 1 d2 ((idleL g cls t).map bl))∧∀ y,y < nx→getH H2 y = getH H y):=by
 have hl:=hg.len
 have hw:=hk.whole
 have hl0:=hw.1
 have hl1:=hw.2.1
 refine Go.fnL lf23 rfl ?_
 repeat' (first|((with_reducible refine Go.red ?_);conv => whnf)|refine aG ?_|exact aCn|with_reducible refine Go.and ?_ ?_|((with_reducible refine Ask.mk ?_);first|exact aAsk|exact aAsk2|(intro h;simp_all [lookCells] <;> fail)|(simp_all [lookCells] <;> fail))|(apply Go.elem;(·exact aElem))|refine aH ?_|((with_reducible refine Go.bool ?_ ?_) <;> intro hc <;> (try simp only [List.length_map,ne_eq,hcs] at hc) <;> try (exfalso;omega)))
 refine Go.callN (live_call u g hg hk t cls _ _) ?_
 rintro _ H1 n1 ⟨b1,rfl,hgr1⟩
 repeat' (first|((with_reducible refine Go.red ?_);conv => whnf)|refine aG ?_|exact aC|with_reducible refine Go.and ?_ ?_|(apply Go.elem;(·exact aElem))|refine aH ?_|((with_reducible refine Go.bool ?_ ?_) <;> intro hc <;> (try simp only [List.length_map,ne_eq,hcs] at hc) <;> try (exfalso;omega)))
 refine Go.callN (waits_call u g hg hk t cls hcl64 _ _) ?_
 rintro _ H2 n2 ⟨b2,rfl,hgr2⟩
 obtain ⟨ids1,hT1,hid1⟩:=hgr1.at_
 obtain ⟨ids2,hT2,hid2⟩:=hgr2.at_
 have hle1:=hgr1.le
 have hle2:=hgr2.le
 have hT1':TAt b1 ids1 (liveT g) H2:=hT1.keep fun x hx => (hgr2.keep x (Nat.lt_of_lt_of_le (hid1 x hx).2 aNx)).trans aSkip
 have hk2:∀ y,y < nx→getH H2 y = getH H y:=fun y hy => (hgr2.keep y (Nat.lt_of_lt_of_le (Nat.lt_of_lt_of_le (Nat.lt_of_lt_of_le hy aNx) hle1) aNx)).trans (Eq.trans aSkip ((hgr1.keep y (Nat.lt_of_lt_of_le hy aNx)).trans aSkip))
 have hi1:∀ x ∈ b1 :: ids1,nx ≤ x∧x < n2:=fun x hx => ⟨Nat.le_trans aNx (hid1 x hx).1,Nat.lt_of_lt_of_le (Nat.lt_of_lt_of_le (hid1 x hx).2 aNx) hle2⟩
 have hi2:∀ x ∈ b2 :: ids2,nx ≤ x∧x < n2:=fun x hx => ⟨Nat.le_trans (Nat.le_trans (Nat.le_trans aNx hle1) aNx) (hid2 x hx).1,(hid2 x hx).2⟩
 have hnn:nx ≤ n2:=Nat.le_trans (Nat.le_trans (Nat.le_trans aNx hle1) aNx) hle2
 clear hgr1 hgr2 hT1 hid1 hid2
 repeat' (first|((with_reducible refine Go.red ?_);conv => whnf)|refine aG ?_|exact aCn|with_reducible refine Go.and ?_ ?_|((with_reducible refine Ask.mk ?_);first|exact aAsk|exact aAsk2|(intro h;simp_all [lookCells] <;> fail)|(simp_all [lookCells] <;> fail))|(apply Go.elem;(·exact aElem))|refine aH ?_|((with_reducible refine Go.bool ?_ ?_) <;> intro hc <;> (try simp only [List.length_map,ne_eq,hcs] at hc) <;> try (exfalso;omega)))
 simp only [List.length_map,Int.toNat_natCast]
 have hsh1:Shape (liveT g) g.nodes.length g.slots.toNat:=shape_ahdT _ _ _ _
 have hsh2:Shape (waitT g cls t) g.nodes.length cls.length:=shape_ahdT _ _ _ _
 have hslots:=hk.slots
 have hlocals:=hk.locals
 have hrw0:suchRow (suchTo g cls t 0) g.nodes.length = List.replicate g.nodes.length false:=by simp [suchRow,suchTo]
 refine Go.loop (fun i:Nat => [(0,lookX g t cls),(3,.sl b1 g.nodes.length),(4,.sl b2 g.nodes.length),(5,.sl (n2 + 8) g.nodes.length),(23,nodesAv g.nodes),(24,i64 g.nodes.length),(25,i64 i)])
  (fun i H' n' => i ≤ g.nodes.length∧n2 + 17 ≤ n'∧TAt b1 ids1 (liveT g) H'∧TAt b2 ids2 (waitT g cls t) H'∧(∃ d,getH H' (n2 + 8) = some (.row 4 1 d ((suchRow (suchTo g cls t i) g.nodes.length).map bl)))∧∀ y,y < nx→getH H' y = getH H y) (fun i => g.nodes.length - i) 0 aLess ⟨Nat.zero_le _,aNx,hT1'.keep fun x hx => ?_,hT2.keep fun x hx => ?_,?_,fun y hy => Eq.trans aSkip (hk2 y hy)⟩ ?_
 ·have:=hi1 x hx;exact aSkip
 ·have:=hi2 x hx;exact aSkip
 ·apply Exists.intro
  rw [hrw0,List.map_replicate]
  exact aRow
 clear hT1' hT2 hk2
 rintro i H3 n3 ⟨hi,hn3,hT1,hT2,⟨d8,r8⟩,hk3⟩
 by_cases hil:i < g.nodes.length
 ·have en:=fun d => nd_at hil d
  have er:=fun d => bools_at (l:=reachL g (-1)) (k:=i) d (by rw [reachL_len];exact hil)
  have hrl:((reachL g (-1)).map bl).length = g.nodes.length:=by rw [List.length_map,reachL_len]
  have hol:((suchRow (suchTo g cls t i) g.nodes.length).map bl).length = g.nodes.length:=by rw [List.length_map,suchRow_len (by rw [suchTo_len];exact hi)]
  have eo:=fun d => such_get (g:=g) (cls:=cls) (t:=t) hil d
  have hno:=hk.node hil
  have hfol:=(hw.2.2 i hil).2.2
  have hK1:∀ {H':Hp},(∀ x,x < n2→getH H' x = getH H3 x)→TAt b1 ids1 (liveT g) H':=fun h => hT1.keep fun x hx => h x (hi1 x hx).2
  have hK2:∀ {H':Hp},(∀ x,x < n2→getH H' x = getH H3 x)→TAt b2 ids2 (waitT g cls t) H':=fun h => hT2.keep fun x hx => h x (hi2 x hx).2
  have hnxt:=suchTo_next g cls t i
  cases hrc:fnd (reachL g (-1)) (i:Int) with
  | false =>
   rw [hrc] at er
   have hsb:suchB g cls t i = false:=by unfold suchB;rw [hrc];rfl
   repeat' (first|((with_reducible refine Go.red ?_);conv => whnf)|refine aG ?_|exact aCn|with_reducible refine Go.and ?_ ?_|((with_reducible refine Ask.mk ?_);first|exact aAsk|(exact hrl)|exact aAsk2|(intro h;simp_all [Node.cells,lookCells] <;> fail)|(simp_all [Node.cells,lookCells] <;> fail))|(apply Go.elem;(·(first|exact en _|exact er _|exact aElem)))|refine aH ?_|((with_reducible refine Go.bool ?_ ?_) <;> intro hc <;> (try simp only [List.length_map,ne_eq,hcs] at hc) <;> try (exfalso;omega)))
   exact ⟨i + 1,by omega,aLess,by omega,by omega,hK1 fun x hx => aSkip,hK2 fun x hx => aSkip,⟨d8,by rw [hnxt,hsb,suchRow_false (by rw [suchTo_len];exact hil)];exact aRow⟩,fun y hy => Eq.trans aSkip (hk3 y hy)⟩
  | true =>
   rw [hrc] at er
   by_cases h1:(g.nd i).kind = 1
   ·have hsl:=hno.slot.1 (by unfold usesSlot;exact decide_eq_true (by omega))
    obtain ⟨ks,hks⟩:∃ ks:Nat,(g.nd i).slot = ks:=⟨(g.nd i).slot.toNat,by omega⟩
    have hsb:suchB g cls t i = (!behB (liveT g) (g.nd i) ks || (decide ((g.nd i).op = 0) && (g.nd i).a.isSlot && decide ((g.nd i).a.slot = ks))):=by
     unfold suchB
     simp only [hrc,h1,hks,if_true,Bool.true_and,Int.toNat_natCast]
    repeat' (first|((with_reducible refine Go.red ?_);conv => whnf)|refine aG ?_|exact aCn|with_reducible refine Go.and ?_ ?_|((with_reducible refine Ask.mk ?_);first|exact aAsk|(exact hrl)|(exact hol)|(intro h1 h2;rw [h1,h2];rfl)|exact aAsk2|(intro h;simp_all [Node.cells,lookCells] <;> fail)|(simp_all [Node.cells,lookCells] <;> fail))|(apply Go.elem;(·(first|exact en _|exact er _|exact eo _|exact aElem)))|((refine Go.lookW (behind_look (hK1 fun x hx => aSkip) hsh1 (g.nd i) hfol ks (by omega) _) ?_ ?_);(·exact True.intro))|((refine Go.lookJ (fun _ => behind_look (hK1 fun x hx => aSkip) hsh1 (g.nd i) hfol ks (by omega) _) ?_ ?_);(·exact True.intro))|(simp only [h1])|(simp only [hks])|refine aH ?_|((with_reducible refine Go.bool ?_ ?_) <;> intro hc <;> (try simp only [List.length_map,ne_eq,hcs] at hc) <;> try (exfalso;omega)))
    refine ⟨i + 1,by omega,aLess,by omega,aNx,hK1 fun x hx => ?_,hK2 fun x hx => ?_,?_,fun y hy => Eq.trans aSkip (hk3 y hy)⟩
    ·exact aSkip
    ·exact aSkip
    ·apply Exists.intro
     refine Eq.trans aRow ?_
     rw [such_set hil,hnxt,hsb]
     refine congrArg (fun v => some (Blk.row _ 1 _ ((suchRow (suchTo g cls t i ++ [v]) g.nodes.length).map bl))) ?_
     cases behB (liveT g) (g.nd i) ks <;> cases (g.nd i).a.isSlot <;> by_cases h5:(g.nd i).op = 0 <;> simp [h5]
   ·by_cases h2:(g.nd i).kind = 2
    ·have hsl:=hno.slot.1 (by unfold usesSlot;exact decide_eq_true (by omega))
     have hth:=hno.thing.1 (by unfold usesThing;exact decide_eq_true (by omega))
     rw [if_neg (by omega)] at hth
     obtain ⟨ks,hks⟩:∃ ks:Nat,(g.nd i).slot = ks:=⟨(g.nd i).slot.toNat,by omega⟩
     obtain ⟨kt,hkt⟩:∃ kt:Nat,(g.nd i).thing = kt:=⟨(g.nd i).thing.toNat,by omega⟩
     have ec:∀ d,(cls.map ClassV.av).getD ((kt:Int)).toNat d = (cls.getD kt default).av:=fun d => by rw [Int.toNat_natCast];exact getD_av ClassV.av cls kt d (by omega)
     have ec2:∀ d,(cls.map ClassV.av).getD ((g.nodes.getD i default).thing).toNat d = (cls.getD kt default).av:=fun d => by rw [show (g.nodes.getD i default).thing = kt from hkt];exact ec d
     have hcml:(cls.map ClassV.av).length = cls.length:=by simp
     have hsb:suchB g cls t i = (decide ((cls.getD kt default).kind ≠ 3) && !behB (liveT g) (g.nd i) ks):=by
      unfold suchB
      dsimp only
      rw [hrc,Bool.true_and,if_neg h1,if_pos h2,hks,hkt,Int.toNat_natCast,Int.toNat_natCast]
     repeat' (first|((with_reducible refine Go.red ?_);conv => whnf)|refine aG ?_|exact aCn|with_reducible refine Go.and ?_ ?_|((with_reducible refine Ask.mk ?_);first|exact aAsk|(exact hrl)|(exact hol)|(intro h1 h2;rw [h1,h2];rfl)|(rw [hcml];omega)|exact aAsk2|(intro h;simp_all [Node.cells,lookCells,ClassV.cells] <;> fail)|(simp_all [Node.cells,lookCells,ClassV.cells] <;> fail))|(apply Go.elem;(·(first|exact en _|exact er _|exact eo _|exact ec _|exact ec2 _|exact aElem)))|(simp only [h2])|(simp only [hks])|(simp only [hkt])|refine aH ?_|((with_reducible refine Go.bool ?_ ?_) <;> intro hc <;> (try simp only [List.length_map,ne_eq,hcs] at hc) <;> try (exfalso;omega)))
     refine Go.viewF (b1 :: ids1) (fun _ => behind_pure hsh1 (g.nd i) hfol ks (by omega)) (fun H9 h9 => ?_) (fit_args _ _ _) trivial ?_
     ·exact frz_args hT1 hsh1.len (fun x hx => (h9 x hx).trans (by have:=hi1 x hx;exact aSkip)) (g.nd i)
     refine Eq.mpr (nsW_eq (b1 :: ids1) _) (unGo ?_)
     have hn8:n2 + 8 ∉ b1 :: ids1:=fun h => by have:=hi1 _ h;omega
     repeat' (first|((with_reducible refine Go.red ?_);conv => whnf)|refine aG ?_|exact aCn|with_reducible refine Go.and ?_ ?_|((with_reducible refine Ask.mk ?_);first|exact aAsk|(exact hol)|exact aAsk2|(intro h;simp_all [Node.cells,lookCells,ClassV.cells] <;> fail)|(simp_all [Node.cells,lookCells,ClassV.cells] <;> fail))|(apply Go.elem;(·(first|exact eo _|exact aElem)))|refine aH ?_|((with_reducible refine Go.bool ?_ ?_) <;> intro hc <;> (try simp only [List.length_map,ne_eq,hcs] at hc) <;> try (exfalso;omega)))
     refine ⟨i + 1,by omega,aLess,by omega,aNx,hK1 fun x hx => ?_,hK2 fun x hx => ?_,?_,fun y hy => Eq.trans aSkip (hk3 y hy)⟩
     ·exact aSkip
     ·exact aSkip
     ·apply Exists.intro
      refine Eq.trans aRow ?_
      rw [such_set hil,hnxt,hsb]
      refine congrArg (fun v => some (Blk.row _ 1 _ ((suchRow (suchTo g cls t i ++ [v]) g.nodes.length).map bl))) ?_
      cases behB (liveT g) (g.nd i) ks <;> by_cases h5:(cls.getD kt default).kind = 3 <;> simp [h5]
    ·by_cases h3:(g.nd i).kind = 3
     ·have hth:=hno.thing.1 (by unfold usesThing;exact decide_eq_true (by omega))
      rw [if_neg (by omega)] at hth
      obtain ⟨kt,hkt⟩:∃ kt:Nat,(g.nd i).thing = kt:=⟨(g.nd i).thing.toNat,by omega⟩
      have hkc:kt < cls.length:=by omega
      have how:=own_pure g t cls kt hkc
      have hsb:suchB g cls t i = (ownB cls t kt && !behB (waitT g cls t) (g.nd i) kt):=by
       unfold suchB
       dsimp only
       rw [hrc,Bool.true_and,if_neg h1,if_neg h2,if_pos h3,hkt,Int.toNat_natCast]
      repeat' (first|((with_reducible refine Go.red ?_);conv => whnf)|refine aG ?_|exact aCn|with_reducible refine Go.and ?_ ?_|((with_reducible refine Ask.mk ?_);first|exact aAsk|(exact hrl)|(exact hol)|(intro h1 h2;rw [h1,h2];rfl)|exact aAsk2|(intro h;simp_all [Node.cells,lookCells] <;> fail)|(simp_all [Node.cells,lookCells] <;> fail))|(apply Go.elem;(·(first|exact en _|exact er _|exact eo _|exact aElem)))|refine aK (how) ?_|((refine Go.lookW (behind_look (hK2 fun x hx => aSkip) hsh2 (g.nd i) hfol kt hkc _) ?_ ?_);(·exact True.intro))|((refine Go.lookJ (fun _ => behind_look (hK2 fun x hx => aSkip) hsh2 (g.nd i) hfol kt hkc _) ?_ ?_);(·exact True.intro))|(simp only [h3])|(simp only [hkt])|refine aH ?_|((with_reducible refine Go.bool ?_ ?_) <;> intro hc <;> (try simp only [List.length_map,ne_eq,hcs] at hc) <;> try (exfalso;omega)))
      refine ⟨i + 1,by omega,aLess,by omega,aNx,hK1 fun x hx => ?_,hK2 fun x hx => ?_,?_,fun y hy => Eq.trans aSkip (hk3 y hy)⟩
      ·exact aSkip
      ·exact aSkip
      ·apply Exists.intro
       refine Eq.trans aRow ?_
       rw [such_set hil,hnxt,hsb]
       refine congrArg (fun v => some (Blk.row _ 1 _ ((suchRow (suchTo g cls t i ++ [v]) g.nodes.length).map bl))) ?_
       cases behB (waitT g cls t) (g.nd i) kt <;> cases ownB cls t kt <;> simp
     ·by_cases h8:(g.nd i).kind = 8
      ·have hsb:suchB g cls t i = decide ((g.nd i).next = (g.nd i).els):=by
        unfold suchB
        dsimp only
        rw [hrc,Bool.true_and,if_neg h1,if_neg h2,if_neg h3,if_pos h8]
       repeat' (first|((with_reducible refine Go.red ?_);conv => whnf)|refine aG ?_|exact aCn|with_reducible refine Go.and ?_ ?_|((with_reducible refine Ask.mk ?_);first|exact aAsk|(exact hrl)|(exact hol)|exact aAsk2|(intro h;simp_all [Node.cells,lookCells] <;> fail)|(simp_all [Node.cells,lookCells] <;> fail))|(apply Go.elem;(·(first|exact en _|exact er _|exact eo _|exact aElem)))|(simp only [h8])|refine aH ?_|((with_reducible refine Go.bool ?_ ?_) <;> intro hc <;> (try simp only [List.length_map,ne_eq,hcs] at hc) <;> try (exfalso;omega)))
       refine ⟨i + 1,by omega,aLess,by omega,aNx,hK1 fun x hx => ?_,hK2 fun x hx => ?_,?_,fun y hy => Eq.trans aSkip (hk3 y hy)⟩
       ·exact aSkip
       ·exact aSkip
       ·apply Exists.intro
        refine Eq.trans aRow ?_
        rw [such_set hil,hnxt,hsb]
      ·have hsb:suchB g cls t i = false:=by
        unfold suchB
        dsimp only
        rw [hrc,Bool.true_and,if_neg h1,if_neg h2,if_neg h3,if_neg h8]
       repeat' (first|((with_reducible refine Go.red ?_);conv => whnf)|refine aG ?_|exact aCn|with_reducible refine Go.and ?_ ?_|((with_reducible refine Ask.mk ?_);first|exact aAsk|(exact hrl)|exact aAsk2|(intro h;simp_all [Node.cells,lookCells] <;> fail)|(simp_all [Node.cells,lookCells] <;> fail))|(apply Go.elem;(·(first|exact en _|exact er _|exact aElem)))|(simp only [h1])|(simp only [h2])|(simp only [h3])|(simp only [h8])|refine aH ?_|((with_reducible refine Go.bool ?_ ?_) <;> intro hc <;> (try simp only [List.length_map,ne_eq,hcs] at hc) <;> try (exfalso;omega)))
       exact ⟨i + 1,by omega,aLess,by omega,aNx,hK1 fun x hx => aSkip,hK2 fun x hx => aSkip,⟨d8,by rw [hnxt,hsb,suchRow_false (by rw [suchTo_len];exact hil)];exact aRow⟩,fun y hy => Eq.trans aSkip (hk3 y hy)⟩
 ·have:i = g.nodes.length:=by omega
  subst this
  have efull:suchRow (suchTo g cls t g.nodes.length) g.nodes.length = suchL g cls t:=by
   rw [suchRow,suchTo_len,Nat.sub_self,List.replicate_zero,List.append_nil];rfl
  rw [efull] at r8
  repeat' (first|((with_reducible refine Go.red ?_);conv => whnf)|refine aG ?_|exact aC|with_reducible refine Go.and ?_ ?_|(apply Go.elem;(·exact aElem))|refine aH ?_|((with_reducible refine Go.bool ?_ ?_) <;> intro hc <;> (try simp only [List.length_map,ne_eq,hcs] at hc) <;> try (exfalso;omega)))
  refine Go.callN (hr (n2 + 8) _ _ d8 aRow aNx) ?_
  rintro _ H4 n4 ⟨b3,d3,rfl,hb3,hbn,r3,hk4⟩
  repeat' (first|((with_reducible refine Go.red ?_);conv => whnf)|refine aG ?_|exact aC|with_reducible refine Go.and ?_ ?_|(apply Go.elem;(·exact aElem))|refine aH ?_|((with_reducible refine Go.bool ?_ ?_) <;> intro hc <;> (try simp only [List.length_map,ne_eq,hcs] at hc) <;> try (exfalso;omega)))
  exact ⟨⟨b3,d3,rfl,Nat.le_trans aNx hb3,Nat.lt_of_lt_of_le hbn aNx,aRow,fun y hy => Eq.trans aSkip ((hk4 y (Nat.lt_of_lt_of_le hy aNx)).trans (Eq.trans aSkip (hk3 y hy)))⟩⟩
end Go.Proofs.YtmonponfppdgfaaGreatDoor
end
section
/- What is live: the document's walk. -/
namespace Go.Proofs.YtmonponfppdgfaaGreatDoor
open Go Go.Abs Go.Proofs
set_option linter.unusedSimpArgs false
set_option linter.unusedVariables false
set_option maxRecDepth 4000 in
set_option maxHeartbeats 1000000 in
theorem rsets_pure (n:Node):Pure Tryz.prog 68 [n.av] (fun r => r = bl (setsB n)):=by
 refine Go.pureL lf68 rfl ?_
 repeat' (first|((with_reducible refine Go.red ?_);conv => whnf)|refine aG ?_|exact aCn|with_reducible refine Go.and ?_ ?_|((with_reducible refine Ask.mk ?_);first|exact aAsk|exact aAsk2|(intro h;simp_all [Node.cells] <;> fail)|(simp_all [Node.cells] <;> fail))|(apply Go.elem;(·exact aElem))|refine aH ?_|((with_reducible refine Go.bool ?_ ?_) <;> intro hc <;> (try simp only [List.length_map,ne_eq,hcs] at hc) <;> try (exfalso;omega)))
 all_goals refine bl_eq ?_
 all_goals unfold setsB
 all_goals (by_cases a:n.kind = 1 <;> by_cases b:n.kind = 2 <;> by_cases c:n.kind = 4 <;> simp_all)
set_option maxRecDepth 4000 in
set_option maxHeartbeats 4000000 in
theorem rreads_pure (n:Node) (s:Nat):Pure Tryz.prog 67 [n.av,i64 s] (fun r => r = bl (readsB n s)):=by
 refine Go.pureL lf67 rfl ?_
 repeat' (first|((with_reducible refine Go.red ?_);conv => whnf)|refine aG ?_|exact aCn|with_reducible refine Go.and ?_ ?_|((with_reducible refine Ask.mk ?_);first|exact aAsk|exact aAsk2|(intro h;simp_all [Node.cells] <;> fail)|(simp_all [Node.cells] <;> fail))|(apply Go.elem;(·exact aElem))|((with_reducible refine Go.callW (rtwo_pure _) ?_ ?_);(·exact aFit))|((with_reducible refine Go.callJ (fun _ => rtwo_pure _) ?_ ?_);(·exact aFit))|((with_reducible refine Go.callE (rtwo_pure _) ?_ ?_);(·exact aFit))|((with_reducible refine Go.callF (fun _ => rtwo_pure _) ?_ ?_);(·exact aFit))|refine aH ?_|((with_reducible refine Go.bool ?_ ?_) <;> intro hc <;> (try simp only [List.length_map,ne_eq,hcs] at hc) <;> try (exfalso;omega)))
 all_goals refine bl_eq ?_
 all_goals unfold readsB
 all_goals first
  | (rw [hc];cases n.a.isSlot <;> cases decide (n.a.slot = (s:Int)) <;> cases operTwo n.op <;> cases n.b.isSlot <;> cases decide (n.b.slot = (s:Int)) <;> rfl)
  | (rw [decide_eq_false (show ¬ (n.kind = 1 ∨ n.kind = 3 ∨ n.kind = 4 ∨ n.kind = 7 ∨ n.kind = 8) by omega),decide_eq_false (show ¬ n.kind = 1 by omega)];rfl)
def aheadTo (T:Tab) (n:Node) (k q:Nat):Bool:=(n.fol.take q).any fun j => tget T j.toNat k
theorem aheadTo_next {T:Tab} {n:Node} {k q:Nat} (h:q < n.fol.length):aheadTo T n k (q + 1) = (aheadTo T n k q || tget T (n.fol.getD q 0).toNat k):=by
 unfold aheadTo
 rw [List.take_succ_eq_append_getElem h,List.any_append,show n.fol.getD q 0 = n.fol[q] by simp [List.getD,h],List.any_cons,List.any_nil,Bool.or_false]
theorem aheadTo_all (T:Tab) (n:Node) (k:Nat):aheadTo T n k n.fol.length = behB T n k:=by
 unfold aheadTo behB;rw [List.take_length]
set_option maxRecDepth 8000 in
set_option maxHeartbeats 16000000 in
theorem rlive_pure (g:Graph) (hg:g.Wf) (hw:Whole g) (N:Nat) (hN:N ≤ 4160) (hs:g.slots = (N:Int)):Pure Tryz.prog 38 [g.av] (fun r => r = .im 1 .any ((liveT g).map imB)):=by
 have hl:=hg.len
 have hl0:=hw.1
 have hl1:=hw.2.1
 have fT:∀ T:Tab,fitL 0 (T.map imB):=fun T => (fitL_map _ _).2 fun _ _ => by simp [imB,fitA,fitL_map]
 refine pure_of_call ?_ (by simp only [fitA];exact fT _)
 have hlv:liveT g = ahdT g readsB keepsB N:=by unfold liveT;rw [hs,Int.toNat_natCast]
 rw [hlv]
 refine Go.fnL lf38 rfl ?_
 have hnm:(g.nodes.map Node.av).length = g.nodes.length:=by simp
 have hgc:g.cells = [st g.name,i64 g.locals,i64 (N:Int),nodesAv g.nodes]:=by unfold Graph.cells;rw [hs]
 unfold Graph.av
 rw [hgc]
 repeat' (first|((with_reducible refine Go.red ?_);conv => whnf)|refine aG ?_|exact aCn|with_reducible refine Go.and ?_ ?_|((with_reducible refine Ask.mk ?_);first|exact aAsk|(exact hnm)|exact aAsk2)|(apply Go.elem;(·exact aElem))|refine aH ?_|((with_reducible refine Go.bool ?_ ?_) <;> intro hc <;> (try simp only [List.length_map,ne_eq,hcs] at hc) <;> try (exfalso;omega)))
 simp only [List.length_map,Int.toNat_natCast]
 refine Go.loop (fun ids:List Nat => [(1,.pt 0 1 0 0),(3,.sl 5 g.nodes.length),(4,i64 ids.length)])
  (fun ids H' n' => ids.length ≤ g.nodes.length∧8 ≤ n'∧QPre 5 ids g.nodes.length N H' n'∧∃ d,getH H' 0 = some (.row 40 4 d [.agg [st g.name,i64 g.locals,i64 (N:Int),nodesAv g.nodes]])) (fun ids => g.nodes.length - ids.length) [] aLess ⟨Nat.zero_le _,aNx,⟨⟨_,aRow⟩,fun x h => by simp at h,fun x h => by simp at h,List.nodup_nil⟩,⟨_,aRow⟩⟩ ?_
 rintro ids H1 n1 ⟨hi,hn1,hp,d0,r0⟩
 by_cases hil:ids.length < g.nodes.length
 ·obtain ⟨d7,r7⟩:=hp.row
  have e1:=fun d => pre_get (m:=g.nodes.length) (n:=N) hil d
  have e2:=pre_len (m:=g.nodes.length) (n:=N) hi
  repeat' (first|((with_reducible refine Go.red ?_);conv => whnf)|refine aG ?_|exact aCn|with_reducible refine Go.and ?_ ?_|((with_reducible refine Ask.mk ?_);first|exact aAsk|(exact e2)|exact aAsk2)|(apply Go.elem;(·(first|exact e1 _|exact aElem)))|refine aH ?_|((with_reducible refine Go.bool ?_ ?_) <;> intro hc <;> (try simp only [List.length_map,ne_eq,hcs] at hc) <;> try (exfalso;omega)))
  have hlt:=hp.lt
  refine ⟨ids ++ [n1 + 8],by simp;omega,aLess,by simp;omega,aNx,⟨⟨_,by rw [← pre_set hil];exact aRow⟩,fun x hx => ?_,fun x hx => ?_,?_⟩,⟨_,aRow⟩⟩
  ·rcases List.mem_append.1 hx with hx|hx
   ·obtain ⟨d,h1⟩:=hp.each x hx
    have:=hlt x hx
    exact ⟨d,Eq.trans aSkip h1⟩
   ·simp only [List.mem_cons,List.not_mem_nil,or_false] at hx
    subst hx
    exact ⟨_,aRow⟩
  ·rcases List.mem_append.1 hx with hx|hx
   ·have:=hlt x hx
    exact ⟨this.1,Nat.lt_of_lt_of_le this.2 aNx⟩
   ·simp only [List.mem_cons,List.not_mem_nil,or_false] at hx
    subst hx
    exact ⟨by omega,aNx⟩
  ·refine List.nodup_append.2 ⟨hp.nodup,by simp,fun x hx y hy => ?_⟩
   simp only [List.mem_cons,List.not_mem_nil,or_false] at hy
   have:=(hlt x hx).2
   omega
 ·have hle:ids.length = g.nodes.length:=by omega
  have hfin:=hp.fin hle
  have hlt:=hp.lt
  have hgr:=Grow.start g readsB keepsB N
  obtain ⟨d7,r7⟩:=hp.row
  have e2:=pre_len (m:=g.nodes.length) (n:=N) hi
  repeat' (first|((with_reducible refine Go.red ?_);conv => whnf)|refine aG ?_|exact aCn|with_reducible refine Go.and ?_ ?_|((with_reducible refine Ask.mk ?_);first|exact aAsk|(exact e2)|exact aAsk2)|(apply Go.elem;(·exact aElem))|refine aH ?_|((with_reducible refine Go.bool ?_ ?_) <;> intro hc <;> (try simp only [List.length_map,ne_eq,hcs] at hc) <;> try (exfalso;omega)))
  clear r7 e2
  have hids:∀ x ∈ 5 :: ids,5 ≤ x∧x < n1:=fun x hx => by
   rcases List.mem_cons.1 hx with rfl|hx
   ·omega
   ·have:=hlt x hx;omega
  clear hp hlt
  refine Go.loop (fun s:Tab × Bool => [(1,.pt 0 1 0 0),(3,.sl 5 g.nodes.length),(5,bl s.2)])
   (fun s H' n' => n1 ≤ n'∧TAt 5 ids s.1 H'∧(∃ d,getH H' 0 = some (.row 40 4 d [.agg [st g.name,i64 g.locals,i64 (N:Int),nodesAv g.nodes]]))∧Grow g readsB keepsB N s.1∧(s.2 = false→∀ i k,i < g.nodes.length→k < N→cellB g readsB keepsB s.1 i k = true→tget s.1 i k = true))
   (fun s => falses s.1 + if s.2 = true then 1 else 0) (zeros g.nodes.length N,true) aLess ⟨aNx,hfin.keep fun x hx => ?_,⟨_,aRow⟩,hgr,fun h => by cases h⟩ ?_
  ·have:=hids x hx;exact aSkip
  clear hfin hgr r0
  rintro ⟨T,again⟩ H2 n2 ⟨hn2,hT,⟨d0,r0⟩,hgr,hcl⟩
  dsimp only at hT hgr hcl ⊢
  cases again with
  | false =>
   have hfin:=hgr.fin hw (hcl rfl)
   repeat' (first|((with_reducible refine Go.red ?_);conv => whnf)|refine aG ?_|exact aC|with_reducible refine Go.and ?_ ?_|(apply Go.elem;(·exact aElem))|refine aH ?_|((with_reducible refine Go.bool ?_ ?_) <;> intro hc <;> (try simp only [List.length_map,ne_eq,hcs] at hc) <;> try (exfalso;omega)))
   refine ⟨?_⟩
   rw [← hfin,← hgr.shape.len]
   exact tab_frz (hT.keep fun x hx => aSkip) 4
  | true =>
   have hTl:=hgr.shape.len
   have hql:(qRow ids (tabS T)).length = g.nodes.length:=by rw [hT.len,tabS_len,hTl]
   obtain ⟨d7,r7⟩:=hT.row
   repeat' (first|((with_reducible refine Go.red ?_);conv => whnf)|refine aG ?_|exact aCn|with_reducible refine Go.and ?_ ?_|((with_reducible refine Ask.mk ?_);first|exact aAsk|(exact hql)|(exact hnm)|exact aAsk2)|(apply Go.elem;(·exact aElem))|refine aH ?_|((with_reducible refine Go.bool ?_ ?_) <;> intro hc <;> (try simp only [List.length_map,ne_eq,hcs] at hc) <;> try (exfalso;omega)))
   simp only [List.length_map]
   refine Go.loop (fun s:Tab × Bool × Nat => [(1,.pt 0 1 0 0),(3,.sl 5 g.nodes.length),(5,bl s.2.1),(6,i64 ((s.2.2:Int) - 1))])
    (fun s H' n' => n1 ≤ n'∧s.2.2 ≤ g.nodes.length∧TAt 5 ids s.1 H'∧(∃ d,getH H' 0 = some (.row 40 4 d [.agg [st g.name,i64 g.locals,i64 (N:Int),nodesAv g.nodes]]))∧Grow g readsB keepsB N s.1∧(falses s.1 + if s.2.1 = true then 1 else 0) ≤ falses T∧(s.2.1 = false→∀ i k,s.2.2 ≤ i→i < g.nodes.length→k < N→cellB g readsB keepsB s.1 i k = true→tget s.1 i k = true))
    (fun s => s.2.2) (T,false,g.nodes.length) aLess ⟨aNx,Nat.le_refl _,hT.keep fun x hx => ?_,⟨_,aRow⟩,hgr,by simp,fun _ i k h1 h2 => absurd h1 (by dsimp only;omega)⟩ ?_
   ·exact aSkip
   clear hT r0 hgr hcl r7 hql
   rintro ⟨T2,ag,j⟩ H3 n3 ⟨hn3,hj,hT,⟨d0,r0⟩,hgr,hfa,hcl⟩
   dsimp only at hj hT hgr hfa hcl ⊢
   have hT2l:=hgr.shape.len
   cases j with
   | zero =>
    repeat' (first|((with_reducible refine Go.red ?_);conv => whnf)|refine aG ?_|exact aC|with_reducible refine Go.and ?_ ?_|(apply Go.elem;(·exact aElem))|refine aH ?_|((with_reducible refine Go.bool ?_ ?_) <;> intro hc <;> (try simp only [List.length_map,ne_eq,hcs] at hc) <;> try (exfalso;omega)))
    exact ⟨(T2,ag),by dsimp only;simp only [if_true];omega,aLess,aNx,hT.keep fun x hx => aSkip,⟨_,aRow⟩,hgr,fun h i k h1 h2 => hcl h i k (Nat.zero_le _) h1 h2⟩
   | succ i =>
    have hi:i < g.nodes.length:=by omega
    have ei:((i + 1:Nat):Int) - 1 = (i:Int):=by omega
    have en:=fun d => nd_at hi d
    have hfo:=rfollows_pure (g.nodes.getD i default)
    rw [ei]
    repeat' (first|((with_reducible refine Go.red ?_);conv => whnf)|refine aG ?_|exact aCn|with_reducible refine Go.and ?_ ?_|((with_reducible refine Ask.mk ?_);first|exact aAsk|(exact hnm)|exact aAsk2|(intro h;simp_all [Node.cells] <;> fail)|(simp_all [Node.cells] <;> fail))|(apply Go.elem;(·(first|exact en _|exact aElem)))|refine aK (hfo) ?_|refine aH ?_|((with_reducible refine Go.bool ?_ ?_) <;> intro hc <;> (try simp only [List.length_map,ne_eq,hcs] at hc) <;> try (exfalso;omega)))
    have hnd:g.nodes.getD i default = g.nd i:=rfl
    rw [hnd] at *
    clear hfo
    refine Go.loop (fun s:Tab × Bool × Nat => [(1,.pt 0 1 0 0),(3,.sl 5 g.nodes.length),(5,bl s.2.1),(6,i64 (i:Int)),(7,.pt (n3 + 7) 1 0 0),(8,imF (g.nd i).fol),(9,i64 s.2.2)])
     (fun s H' n' => n3 + 8 ≤ n'∧s.2.2 ≤ N∧(∃ d,getH H' (n3 + 7) = some (.row 46 13 d [(g.nd i).av]))∧TAt 5 ids s.1 H'∧(∃ d,getH H' 0 = some (.row 40 4 d [.agg [st g.name,i64 g.locals,i64 (N:Int),nodesAv g.nodes]]))∧Grow g readsB keepsB N s.1∧(falses s.1 + if s.2.1 = true then 1 else 0) ≤ falses T∧(s.2.1 = false→∀ i' k,i ≤ i'→i' < g.nodes.length→k < N→(i' = i→k < s.2.2)→cellB g readsB keepsB s.1 i' k = true→tget s.1 i' k = true))
     (fun s => N - s.2.2) (T2,ag,0) aLess ⟨aNx,Nat.zero_le _,⟨_,aRow⟩,hT.keep fun x hx => ?_,⟨_,aRow⟩,hgr,hfa,fun h i' k h1 h2 h3 h4 => hcl h i' k (Classical.byContradiction fun hx => Nat.not_lt_zero _ (h4 (by omega))) h2 h3⟩ ?_
    ·have:=hids x hx;exact aSkip
    clear hT r0 hgr hfa hcl hT2l
    rintro ⟨T3,ag2,k⟩ H4 n4 ⟨hn4,hk,⟨dn,rn⟩,hT,⟨d0,r0⟩,hgr,hfa,hcl⟩
    dsimp only at hk hT hgr hfa hcl ⊢
    have hT3l:=hgr.shape.len
    by_cases hkN:k < N
    ·have hrp:=rreads_pure (g.nd i) k
     have hsp:=rsets_pure (g.nd i)
     repeat' (first|((with_reducible refine Go.red ?_);conv => whnf)|refine aG ?_|exact aCn|with_reducible refine Go.and ?_ ?_|((with_reducible refine Ask.mk ?_);first|exact aAsk|exact aAsk2|(intro h;simp_all [Node.cells] <;> fail)|(simp_all [Node.cells] <;> fail))|(apply Go.elem;(·exact aElem))|refine aK (hrp) ?_|refine aH ?_|((with_reducible refine Go.bool ?_ ?_) <;> intro hc <;> (try simp only [List.length_map,ne_eq,hcs] at hc) <;> try (exfalso;omega)))
     refine Go.loop (fun σ:Nat × Bool => [(1,.pt 0 1 0 0),(3,.sl 5 g.nodes.length),(5,bl ag2),(6,i64 (i:Int)),(7,.pt (n3 + 7) 1 0 0),(8,imF (g.nd i).fol),(9,i64 k),(10,bl σ.2),(11,i64 σ.1)])
      (fun σ H' n' => n4 ≤ n'∧σ.1 ≤ (g.nd i).fol.length∧σ.2 = (readsB (g.nd i) k || (aheadTo T3 (g.nd i) k σ.1 && keepsB (g.nd i) k))∧(∃ d,getH H' (n3 + 7) = some (.row 46 13 d [(g.nd i).av]))∧TAt 5 ids T3 H'∧(∃ d,getH H' 0 = some (.row 40 4 d [.agg [st g.name,i64 g.locals,i64 (N:Int),nodesAv g.nodes]])))
      (fun σ => (g.nd i).fol.length - σ.1) (0,readsB (g.nd i) k) aLess ⟨aNx,Nat.zero_le _,by simp [aheadTo],⟨_,aRow⟩,hT.keep fun x hx => ?_,⟨_,aRow⟩⟩ ?_
     ·exact aSkip
     clear hT rn r0
     rintro ⟨q,is⟩ H5 n5 ⟨hn5,hq,his,⟨dn,rn⟩,hT,⟨d0,r0⟩⟩
     dsimp only at hq his ⊢
     have hfm:((g.nd i).fol.map i64).length = (g.nd i).fol.length:=by simp
     have hfl:=fol_len (g.nd i)
     unfold imF
     have hql:(qRow ids (tabS T3)).length = g.nodes.length:=by rw [hT.len,tabS_len,hT3l]
     obtain ⟨d7,r7⟩:=hT.row
     by_cases hql2:q < (g.nd i).fol.length
     ·have eq0:=fun d => int_at (l:=(g.nd i).fol) hql2 d
      obtain ⟨y0,y1⟩:=(hw.2.2 i hi).2.2 _ (getD_mem' (0:Int) hql2)
      have han:=aheadTo_next (T:=T3) (k:=k) hql2
      generalize (g.nd i).fol.getD q 0 = y at *
      have hyS:y.toNat < (tabS T3).length:=by rw [tabS_len,hT3l];exact y1
      have hyT:y.toNat < T3.length:=by rw [hT3l];exact y1
      have hrow:=hgr.shape.row y.toNat y1
      obtain ⟨di,ri⟩:=hT.qs y.toNat hyS
      have e1:=fun d => hT.get hyS d
      rw [tabS_get hyT] at ri e1
      rw [List.length_map,hrow] at e1
      have hrl:((T3.getD y.toNat []).map bl).length = N:=by rw [List.length_map,hrow]
      have e2:=fun d => bl_at (l:=T3.getD y.toNat []) (k:=k) (by rw [hrow];exact hkN) d
      rw [show (T3.getD y.toNat []).getD k false = tget T3 y.toNat k from rfl] at e2
      have hxi:=hids (ids.getD y.toNat 0) (List.mem_cons_of_mem _ (getD_mem (by rw [hle];exact y1)))
      have hne:=hT.ne hyS
      cases is with
      | true =>
       repeat' (first|((with_reducible refine Go.red ?_);conv => whnf)|refine aG ?_|exact aCn|with_reducible refine Go.and ?_ ?_|((with_reducible refine Ask.mk ?_);first|exact aAsk|(exact hfm)|exact aAsk2)|(apply Go.elem;(·(first|exact eq0 _|exact aElem)))|refine aH ?_|((with_reducible refine Go.bool ?_ ?_) <;> intro hc <;> (try simp only [List.length_map,ne_eq,hcs] at hc) <;> try (exfalso;omega)))
       exact ⟨(q + 1,true),by dsimp only;omega,aLess,aNx,by dsimp only;omega,by dsimp only;rw [han];revert his;cases readsB (g.nd i) k <;> cases aheadTo T3 (g.nd i) k q <;> cases keepsB (g.nd i) k <;> simp,⟨_,aRow⟩,hT.keep fun x hx => aSkip,⟨_,aRow⟩⟩
      | false =>
       cases hv:tget T3 y.toNat k with
       | false =>
        rw [hv] at e2
        repeat' (first|((with_reducible refine Go.red ?_);conv => whnf)|refine aG ?_|exact aCn|with_reducible refine Go.and ?_ ?_|((with_reducible refine Ask.mk ?_);first|exact aAsk|(exact hfm)|(exact hql)|(exact hrl)|exact aAsk2)|(apply Go.elem;(·(first|exact eq0 _|exact e1 _|exact e2 _|exact aElem)))|refine aH ?_|((with_reducible refine Go.bool ?_ ?_) <;> intro hc <;> (try simp only [List.length_map,ne_eq,hcs] at hc) <;> try (exfalso;omega)))
        exact ⟨(q + 1,false),by dsimp only;omega,aLess,aNx,by dsimp only;omega,by dsimp only;rw [han,hv,Bool.or_false];exact his,⟨_,aRow⟩,hT.keep fun x hx => aSkip,⟨_,aRow⟩⟩
       | true =>
        rw [hv] at e2
        have hval:(readsB (g.nd i) k || (aheadTo T3 (g.nd i) k (q + 1) && keepsB (g.nd i) k)) = (!setsB (g.nd i) || decide ((g.nd i).slot ≠ (k:Int))):=by
         rw [han,hv,Bool.or_true,Bool.true_and]
         have:readsB (g.nd i) k = false:=by revert his;cases readsB (g.nd i) k <;> simp
         rw [this,Bool.false_or];rfl
        cases hst:setsB (g.nd i) with
        | false =>
         rw [hst] at hsp hval
         repeat' (first|((with_reducible refine Go.red ?_);conv => whnf)|refine aG ?_|exact aCn|with_reducible refine Go.and ?_ ?_|((with_reducible refine Ask.mk ?_);first|exact aAsk|(exact hfm)|(exact hql)|(exact hrl)|exact aAsk2|(intro h;simp_all [Node.cells] <;> fail)|(simp_all [Node.cells] <;> fail))|(apply Go.elem;(·(first|exact eq0 _|exact e1 _|exact e2 _|exact aElem)))|refine aK (hsp) ?_|refine aH ?_|((with_reducible refine Go.bool ?_ ?_) <;> intro hc <;> (try simp only [List.length_map,ne_eq,hcs] at hc) <;> try (exfalso;omega)))
         exact ⟨(q + 1,true),by dsimp only;omega,aLess,aNx,by dsimp only;omega,by dsimp only;rw [hval];rfl,⟨_,aRow⟩,hT.keep fun x hx => aSkip,⟨_,aRow⟩⟩
        | true =>
         rw [hst] at hsp hval
         repeat' (first|((with_reducible refine Go.red ?_);conv => whnf)|refine aG ?_|exact aCn|with_reducible refine Go.and ?_ ?_|((with_reducible refine Ask.mk ?_);first|exact aAsk|(exact hfm)|(exact hql)|(exact hrl)|exact aAsk2|(intro h;simp_all [Node.cells] <;> fail)|(simp_all [Node.cells] <;> fail))|(apply Go.elem;(·(first|exact eq0 _|exact e1 _|exact e2 _|exact aElem)))|refine aK (hsp) ?_|refine aH ?_|((with_reducible refine Go.bool ?_ ?_) <;> intro hc <;> (try simp only [List.length_map,ne_eq,hcs] at hc) <;> try (exfalso;omega)))
         exact ⟨(q + 1,!decide ((g.nd i).slot = (k:Int))),by dsimp only;omega,aLess,aNx,by dsimp only;omega,by dsimp only;rw [hval];simp,⟨_,aRow⟩,hT.keep fun x hx => aSkip,⟨_,aRow⟩⟩
     ·have:q = (g.nd i).fol.length:=by omega
      subst this
      rw [aheadTo_all,Bool.and_comm] at his
      have his2:is = cellB g readsB keepsB T3 i k:=his
      have hiS:i < (tabS T3).length:=by rw [tabS_len,hT3l];exact hi
      have hiT:i < T3.length:=by rw [hT3l];exact hi
      have hrow:=hgr.shape.row i hi
      obtain ⟨di,ri⟩:=hT.qs i hiS
      have e1:∀ d,(qRow ids (tabS T3)).getD (i:Int).toNat d = .sl (ids.getD i 0) N:=fun d => by
       have:=hT.get hiS d
       rw [tabS_get hiT,List.length_map,hrow] at this
       rw [Int.toNat_natCast];exact this
      rw [tabS_get hiT] at ri
      have hrl:((T3.getD i []).map bl).length = N:=by rw [List.length_map,hrow]
      have e2:=fun d => bl_at (l:=T3.getD i []) (k:=k) (by rw [hrow];exact hkN) d
      rw [show (T3.getD i []).getD k false = tget T3 i k from rfl] at e2
      have hxi:=hids (ids.getD i 0) (List.mem_cons_of_mem _ (getD_mem (by rw [hle];exact hi)))
      have hne:=hT.ne hiS
      have hmore:∀ T4 ag3,(ag3 = false→T4 = T3∧ag2 = false∧(cellB g readsB keepsB T3 i k = true→tget T3 i k = true))→ag3 = false→∀ i' k',i ≤ i'→i' < g.nodes.length→k' < N→(i' = i→k' < k + 1)→cellB g readsB keepsB T4 i' k' = true→tget T4 i' k' = true:=fun T4 ag3 h1 h2 i' k' a1 a2 a3 a4 a5 => by
       obtain ⟨rfl,b1,b2⟩:=h1 h2
       by_cases e:i' = i∧k' = k
       ·obtain ⟨rfl,rfl⟩:=e;exact b2 a5
       ·exact hcl b1 i' k' a1 a2 a3 (fun e2 => by
         have:=a4 e2
         have:¬ k' = k:=fun e3 => e ⟨e2,e3⟩
         omega) a5
      cases is with
      | false =>
       repeat' (first|((with_reducible refine Go.red ?_);conv => whnf)|refine aG ?_|exact aCn|with_reducible refine Go.and ?_ ?_|((with_reducible refine Ask.mk ?_);first|exact aAsk|(exact hfm)|exact aAsk2)|(apply Go.elem;(·exact aElem))|refine aH ?_|((with_reducible refine Go.bool ?_ ?_) <;> intro hc <;> (try simp only [List.length_map,ne_eq,hcs] at hc) <;> try (exfalso;omega)))
       exact ⟨(T3,ag2,k + 1),by dsimp only;omega,aLess,aNx,by dsimp only;omega,⟨_,aRow⟩,hT.keep fun x hx => aSkip,⟨_,aRow⟩,hgr,hfa,hmore T3 ag2 (fun h => ⟨rfl,h,fun hc => by rw [← his2] at hc;cases hc⟩)⟩
      | true =>
       cases hv:tget T3 i k with
       | true =>
        rw [hv] at e2
        repeat' (first|((with_reducible refine Go.red ?_);conv => whnf)|refine aG ?_|exact aCn|with_reducible refine Go.and ?_ ?_|((with_reducible refine Ask.mk ?_);first|exact aAsk|(exact hfm)|(exact hql)|(exact hrl)|exact aAsk2)|(apply Go.elem;(·(first|exact e1 _|exact e2 _|exact aElem)))|refine aH ?_|((with_reducible refine Go.bool ?_ ?_) <;> intro hc <;> (try simp only [List.length_map,ne_eq,hcs] at hc) <;> try (exfalso;omega)))
        exact ⟨(T3,ag2,k + 1),by dsimp only;omega,aLess,aNx,by dsimp only;omega,⟨_,aRow⟩,hT.keep fun x hx => aSkip,⟨_,aRow⟩,hgr,hfa,hmore T3 ag2 (fun h => ⟨rfl,h,fun _ => hv⟩)⟩
       | false =>
        rw [hv] at e2
        have hfs:=falses_set hgr.shape hi hkN hv
        repeat' (first|((with_reducible refine Go.red ?_);conv => whnf)|refine aG ?_|exact aCn|with_reducible refine Go.and ?_ ?_|((with_reducible refine Ask.mk ?_);first|exact aAsk|(exact hfm)|(exact hql)|(exact hrl)|exact aAsk2)|(apply Go.elem;(·(first|exact e1 _|exact e2 _|exact aElem)))|refine aH ?_|((with_reducible refine Go.bool ?_ ?_) <;> intro hc <;> (try simp only [List.length_map,ne_eq,hcs] at hc) <;> try (exfalso;omega)))
        refine ⟨(tset T3 i k,true,k + 1),by dsimp only;omega,aLess,aNx,by dsimp only;omega,⟨_,aRow⟩,hT.set hiT k ?_ ⟨_,aRow⟩ (fun x hx hxn => ?_),⟨_,aRow⟩,hgr.step hi hkN his2.symm,?_,fun h => by cases h⟩
        ·exact aSkip
        ·exact aSkip
        ·dsimp only
         simp only [if_true]
         omega
    ·have:k = N:=by omega
     subst this
     repeat' (first|((with_reducible refine Go.red ?_);conv => whnf)|refine aG ?_|exact aC|with_reducible refine Go.and ?_ ?_|(apply Go.elem;(·exact aElem))|refine aH ?_|((with_reducible refine Go.bool ?_ ?_) <;> intro hc <;> (try simp only [List.length_map,ne_eq,hcs] at hc) <;> try (exfalso;omega)))
     exact ⟨(T3,ag2,i),by dsimp only;omega,aLess,by omega,by dsimp only;omega,hT.keep fun x hx => aSkip,⟨_,aRow⟩,hgr,hfa,fun h i' k' a1 a2 a3 a5 => hcl h i' k' a1 a2 a3 (fun _ => a3) a5⟩
end Go.Proofs.YtmonponfppdgfaaGreatDoor
end
