import Derived.Test.YtmonponfppdgfaaGreatDoorM23
import Derived.Test.YtmonponfppdgfaaGreatDoorM21
section
/- What is reached. -/
namespace Go.Proofs.YtmonponfppdgfaaGreatDoor
open Go Go.Abs Go.Proofs
set_option linter.unusedSimpArgs false
set_option linter.unusedVariables false
theorem mem_fold {n:Node} {k:Int}:k ∈ n.fold ↔ k ∈ n.fol:=by
 have:=any_fold (fun j => decide (j = k)) n
 rw [Bool.eq_iff_iff,List.any_eq_true,List.any_eq_true] at this
 constructor
 ·intro h;obtain ⟨x,h1,h2⟩:=this.1 ⟨k,h,by simp⟩;rw [← of_decide_eq_true h2];exact h1
 ·intro h;obtain ⟨x,h1,h2⟩:=this.2 ⟨k,h,by simp⟩;rw [← of_decide_eq_true h2];exact h1
theorem fold_len (n:Node):n.fold.length ≤ 2:=by unfold Node.fold;split <;> (try split) <;> simp
theorem fol_len (n:Node):n.fol.length ≤ 2:=by unfold Node.fol;split <;> (try split) <;> simp
theorem gd {α:Type} {l:List α} {q:Nat} (h:q < l.length) (d:α):l.getD q d = l[q]:=by simp [List.getD,h]
theorem fit_ints (n:Nat) (l:List Int):fitL n (l.map i64):=(fitL_map _ _).2 fun _ _ => by simp [fitA]
theorem fit_bools (n:Nat) (l:List Bool):fitL n (l.map bl):=(fitL_map _ _).2 fun _ _ => by simp [fitA]
theorem nd_at {l:List Node} {i:Nat} (h:i < l.length) (d:AV):(l.map Node.av).getD ((i:Int).toNat) d = (l.getD i default).av:=by
 rw [Int.toNat_natCast];exact getD_av Node.av l i d h
theorem gr_at {l:List Graph} {i:Nat} (h:i < l.length) (d:AV):(l.map Graph.av).getD ((i:Int).toNat) d = (l.getD i default).av:=by
 rw [Int.toNat_natCast];exact getD_av Graph.av l i d h
theorem int_at {l:List Int} {i:Nat} (h:i < l.length) (d:AV):(l.map i64).getD ((i:Int).toNat) d = i64 (l.getD i 0):=by
 rw [Int.toNat_natCast];exact getD_av i64 l i d h
theorem whole_pure (g:Graph) (hg:g.Wf):Pure Tryz.prog 73 [g.av] (fun r => r = bl (wholeB g)):=by
 have hl:=hg.len
 refine Go.pureL lf73 rfl ?_
 repeat' (first|((with_reducible refine Go.red ?_);conv => whnf)|refine aG ?_|exact aCn|with_reducible refine Go.and ?_ ?_|((with_reducible refine Ask.mk ?_);first|exact aAsk|exact aAsk2|(intro h;simp_all [Graph.cells] <;> fail)|(simp_all [Graph.cells] <;> fail))|(apply Go.elem;(·exact aElem))|refine aH ?_|((with_reducible refine Go.bool ?_ ?_) <;> intro hc <;> (try simp only [List.length_map,ne_eq,hcs] at hc) <;> try (exfalso;omega)))
 ·refine bl_eq (Eq.symm ?_)
  unfold wholeB
  by_cases h1:1 ≤ g.nodes.length
  ·rw [decide_eq_false (show ¬ g.nodes.length ≤ 4096 by omega)];simp
  ·rw [decide_eq_false h1];simp
 ·simp only [List.length_map]
  refine Go.loop (fun i:Nat => [(1,.pt 0 1 0 0),(18,nodesAv g.nodes),(19,i64 g.nodes.length),(20,i64 i)])
   (fun i H n => i ≤ g.nodes.length∧16 ≤ n∧(∃ d,getH H 0 = some (.row 40 4 d [g.av]))∧∀ j,j < i→stepB g.nodes.length (g.nd j) = true) (fun i => g.nodes.length - i) 0 aLess ⟨Nat.zero_le _,aNx,⟨_,aRow⟩,fun _ h => by omega⟩ ?_
  rintro i H n ⟨hi,hn,⟨d0,r0⟩,hall⟩
  by_cases hil:i < g.nodes.length
  ·have hbad:stepB g.nodes.length (g.nd i) = false→wholeB g = false:=fun h => by
    unfold wholeB
    rw [Bool.and_eq_false_iff]
    right
    rw [Bool.eq_false_iff,ne_eq,List.all_eq_true]
    intro hA
    have:=hA _ (getD_mem' default hil)
    rw [show g.nodes.getD i default = g.nd i from rfl,h] at this;cases this
   have hf:=follows_pure (g.nd i)
   have h2:=fold_len (g.nd i)
   unfold imF at hf
   repeat' (first|((with_reducible refine Go.red ?_);conv => whnf)|refine aG ?_|exact aCn|with_reducible refine Go.and ?_ ?_|((with_reducible refine Ask.mk ?_);first|exact aAsk|exact aAsk2|(intro h;simp_all [Graph.cells,Node.cells] <;> fail)|(simp_all [Graph.cells,Node.cells] <;> fail))|(apply Go.elem;(·(first|exact nd_at hil _|exact aElem)))|refine aK (hf) ?_|refine aH ?_|((with_reducible refine Go.bool ?_ ?_) <;> intro hc <;> (try simp only [List.length_map,ne_eq,hcs] at hc) <;> try (exfalso;omega)))
   ·refine bl_eq (Eq.symm (hbad ?_))
    unfold stepB
    have hc:(g.nd i).kind = 0 ∨ 10 ≤ (g.nd i).kind:=hc
    by_cases h1:(g.nd i).kind < 10
    ·rw [decide_eq_false (show ¬ 1 ≤ (g.nd i).kind by omega)];simp
    ·rw [decide_eq_false h1];simp
   ·have hk0:0 ≤ (g.nd i).kind:=(hg.nodes _ (getD_mem' default hil)).kind.1
    have hkk:¬ (g.nd i).kind = 0∧(g.nd i).kind < 10:=hc
    clear hf
    simp only [List.length_map]
    refine Go.loop (fun j:Nat => [(1,.pt 0 1 0 0),(4,.pt (n + 3) 1 0 0),(18,nodesAv g.nodes),(19,i64 g.nodes.length),(20,i64 i),(33,imF (g.nd i).fold),(34,i64 (g.nd i).fold.length),(35,i64 j)])
     (fun j H2 n2 => j ≤ (g.nd i).fold.length∧n + 4 ≤ n2∧(∃ d,getH H2 0 = some (.row 40 4 d [g.av]))∧∀ q,q < j→0 ≤ (g.nd i).fold.getD q 0∧(g.nd i).fold.getD q 0 < g.nodes.length) (fun j => (g.nd i).fold.length - j) 0 aLess ⟨Nat.zero_le _,aNx,⟨_,aRow⟩,fun _ h => by omega⟩ ?_
    clear r0
    rintro j H2 n2 ⟨hj,hn2,⟨d02,r02⟩,hq⟩
    unfold imF
    by_cases hjl:j < (g.nd i).fold.length
    ·repeat' (first|((with_reducible refine Go.red ?_);conv => whnf)|refine aG ?_|exact aCn|with_reducible refine Go.and ?_ ?_|((with_reducible refine Ask.mk ?_);first|exact aAsk|exact aAsk2|(intro h;simp_all [Graph.cells] <;> fail)|(simp_all [Graph.cells] <;> fail))|(apply Go.elem;(·(first|exact int_at hjl _|exact aElem)))|refine aH ?_|((with_reducible refine Go.bool ?_ ?_) <;> intro hc <;> (try simp only [List.length_map,ne_eq,hcs] at hc) <;> try (exfalso;omega)))
     ·refine bl_eq (Eq.symm (hbad ?_))
      unfold stepB
      rw [Bool.and_eq_false_iff]
      right
      rw [Bool.eq_false_iff,ne_eq,List.all_eq_true]
      intro hA
      have:=hA _ (mem_fold.1 (getD_mem' 0 hjl))
      simp only [Bool.and_eq_true,decide_eq_true_eq] at this
      omega
     ·refine ⟨j + 1,by omega,aLess,by omega,by omega,⟨_,aRow⟩,fun q hq2 => ?_⟩
      by_cases e:q = j
      ·rw [e];omega
      ·exact hq q (by omega)
    ·have:j = (g.nd i).fold.length:=by omega
     subst this
     repeat' (first|((with_reducible refine Go.red ?_);conv => whnf)|refine aG ?_|exact aC|with_reducible refine Go.and ?_ ?_|(apply Go.elem;(·exact aElem))|refine aH ?_|((with_reducible refine Go.bool ?_ ?_) <;> intro hc <;> (try simp only [List.length_map,ne_eq,hcs] at hc) <;> try (exfalso;omega)))
     refine ⟨i + 1,by omega,aLess,by omega,by omega,⟨_,aRow⟩,fun j hj => ?_⟩
     by_cases e:j = i
     ·rw [e]
      unfold stepB
      rw [decide_eq_true (show 1 ≤ (g.nd i).kind by omega),decide_eq_true hkk.2]
      simp only [Bool.true_and]
      rw [List.all_eq_true]
      intro k hk
      obtain ⟨q,hq1,e⟩:=List.getElem_of_mem (mem_fold.2 hk)
      have:=hq q hq1
      rw [gd hq1,e] at this
      simp [this.1,this.2]
     ·exact hall j (by omega)
  ·have:i = g.nodes.length:=by omega
   subst this
   repeat' (first|((with_reducible refine Go.red ?_);conv => whnf)|refine aG ?_|exact aC|with_reducible refine Go.and ?_ ?_|(apply Go.elem;(·exact aElem))|refine aH ?_|((with_reducible refine Go.bool ?_ ?_) <;> intro hc <;> (try simp only [List.length_map,ne_eq,hcs] at hc) <;> try (exfalso;omega)))
   refine bl_eq (Eq.symm ?_)
   unfold wholeB
   rw [decide_eq_true (show 1 ≤ g.nodes.length by omega),decide_eq_true (show g.nodes.length ≤ 4096 by omega)]
   simp only [Bool.true_and]
   rw [List.all_eq_true]
   intro m hm
   obtain ⟨q,hq1,rfl⟩:=List.getElem_of_mem hm
   have:=hall q hq1
   rw [show g.nd q = g.nodes[q] by simp [List.getD,hq1]] at this
   exact this
theorem reached_pure (g:Graph) (hg:g.Wf) (hw:wholeB g = true) (hs:Pure Tryz.prog 74 [g.av,i64 (-1)] (fun r => r = imB (reachL g (-1)))):Pure Tryz.prog 42 [g.av] (fun r => r = imB (reachL g (-1))):=by
 refine Go.pureL lf42 rfl ?_
 have h1:=whole_pure g hg
 rw [hw] at h1
 repeat' (first|((with_reducible refine Go.red ?_);conv => whnf)|refine aG ?_|exact aCn|with_reducible refine Go.and ?_ ?_|((with_reducible refine Ask.mk ?_);first|exact aAsk|exact aAsk2|(intro h;simp_all [Graph.cells] <;> fail)|(simp_all [Graph.cells] <;> fail))|(apply Go.elem;(·exact aElem))|refine aK (h1) ?_|refine aK (hs) ?_|refine aH ?_|((with_reducible refine Go.bool ?_ ?_) <;> intro hc <;> (try simp only [List.length_map,ne_eq,hcs] at hc) <;> try (exfalso;omega)))
 exact Res.eq (by simp [fitA,imB,fitL_map]) rfl
end Go.Proofs.YtmonponfppdgfaaGreatDoor
end
