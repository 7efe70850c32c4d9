import Derived.Test.YtmonponfppdgfaaGreatDoorM27
import Derived.Test.YtmonponfppdgfaaGreatDoorM23
import Derived.Test.YtmonponfppdgfaaGreatDoorM26
section
/- Is a unit right? The walk. -/
namespace Go.Proofs.YtmonponfppdgfaaGreatDoor
open Go Go.Abs Go.Proofs
set_option linter.unusedSimpArgs false
set_option linter.unusedVariables false
theorem fstNot_get {α:Type} {p:α→Bool} {l:List α} (d:α) {i:Nat} (h:fstNot p (l.drop i) i = fstNot p l 0) (hi:i < l.length):fstNot p l 0 = if p (l.getD i d) = true then fstNot p (l.drop (i + 1)) (i + 1) else some i:=by
 rw [← h,fstNot_drop p l d hi]
theorem graphsF_next {u:UnitS} {l:List Graph} {t:Nat} (h:t < l.length):graphsF u (l.drop t) t = match graphF u (l.getD t default) with
 | some k => (60,(t:Int),k)
 | none => graphsF u (l.drop (t + 1)) (t + 1):=by
 rw [List.drop_eq_getElem_cons h,graphsF,gd h];rfl
theorem checkU_named {u:UnitS} (h:namedB u = false):checkU u = (60,0,0):=by unfold checkU;rw [if_neg (by rw [h];decide)]
abbrev check3 (r:Int × Int × Int):AV:=.tup [i64 r.1,i64 r.2.1,i64 r.2.2]
set_option maxHeartbeats 4000000 in
theorem check_pure (u:UnitS) (hu:u.Wf):Pure Tryz.prog 27 [u.av] (fun r => r = check3 (checkU u)):=by
 refine Go.pureL lf27 rfl ?_
 have hnp:=named_pure u hu
 cases hnm:namedB u with
 | false =>
  rw [hnm] at hnp
  rw [checkU_named hnm]
  repeat' (first|((with_reducible refine Go.red ?_);conv => whnf)|refine aG ?_|exact aCn|with_reducible refine Go.and ?_ ?_|((with_reducible refine Ask.mk ?_);first|exact aAsk|exact aAsk2|(intro h;simp_all [UnitS.cells] <;> fail)|(simp_all [UnitS.cells] <;> fail))|(apply Go.elem;(·exact aElem))|refine aK (hnp) ?_|refine aH ?_|((with_reducible refine Go.bool ?_ ?_) <;> intro hc <;> (try simp only [List.length_map,ne_eq,hcs] at hc) <;> try (exfalso;omega)))
  exact rfl
 | true =>
  rw [hnm] at hnp
  have hck:checkU u = graphsF u u.graphs 0:=by unfold checkU;rw [if_pos hnm]
  rw [hck]
  have hgl:u.graphs.length ≤ 8:=by
   have:=hnm
   unfold namedB at this
   simp only [Bool.and_eq_true,decide_eq_true_eq] at this
   exact this.1.1.2
  repeat' (first|((with_reducible refine Go.red ?_);conv => whnf)|refine aG ?_|exact aCn|with_reducible refine Go.and ?_ ?_|((with_reducible refine Ask.mk ?_);first|exact aAsk|exact aAsk2|(intro h;simp_all [UnitS.cells] <;> fail)|(simp_all [UnitS.cells] <;> fail))|(apply Go.elem;(·exact aElem))|refine aK (hnp) ?_|refine aH ?_|((with_reducible refine Go.bool ?_ ?_) <;> intro hc <;> (try simp only [List.length_map,ne_eq,hcs] at hc) <;> try (exfalso;omega)))
  simp only [List.length_map]
  refine Go.loop (fun t:Nat => [(1,.pt 0 1 0 0),(15,graphsAv u.graphs),(16,i64 u.graphs.length),(17,i64 t)])
   (fun t H n => t ≤ u.graphs.length∧1 ≤ n∧(∃ d,getH H 0 = some (.row 25 3 d [u.av]))∧graphsF u (u.graphs.drop t) t = graphsF u u.graphs 0) (fun t => u.graphs.length - t) 0 aLess ⟨Nat.zero_le _,aNx,⟨_,aRow⟩,rfl⟩ ?_
  rintro t H n ⟨ht,hn,⟨d0,r0⟩,hF⟩
  by_cases htl:t < u.graphs.length
  ·have hg:=hu.graphs _ (getD_mem' default htl)
   rw [graphsF_next htl] at hF
   have eg:=fun d => gr_at htl d
   generalize hG:u.graphs.getD t default = g at *
   have hl:=hg.len
   unfold graphF at hF
   by_cases hb:g.locals < 0 ∨ g.locals > 64 ∨ g.slots < g.locals ∨ g.slots > 4160 ∨ g.nodes.length < 1 ∨ g.nodes.length > 4096
   ·rw [if_pos hb] at hF
    rw [← hF]
    repeat' (first|((with_reducible refine Go.red ?_);conv => whnf)|refine aG ?_|exact aCn|with_reducible refine Go.and ?_ ?_|((with_reducible refine Ask.mk ?_);first|exact aAsk|exact aAsk2|(intro h;simp_all [UnitS.cells,Graph.cells] <;> fail)|(simp_all [UnitS.cells,Graph.cells] <;> fail))|(apply Go.elem;(·(first|exact eg _|exact aElem)))|refine aH ?_|((with_reducible refine Go.bool ?_ ?_) <;> intro hc <;> (try simp only [List.length_map,ne_eq,hcs] at hc) <;> try (exfalso;omega)))
    all_goals first|exact rfl|(exfalso;omega)
   ·rw [if_neg hb] at hF
    repeat' (first|((with_reducible refine Go.red ?_);conv => whnf)|refine aG ?_|exact aCn|with_reducible refine Go.and ?_ ?_|((with_reducible refine Ask.mk ?_);first|exact aAsk|exact aAsk2|(intro h;simp_all [UnitS.cells,Graph.cells] <;> fail)|(simp_all [UnitS.cells,Graph.cells] <;> fail))|(apply Go.elem;(·(first|exact eg _|exact aElem)))|refine aH ?_|((with_reducible refine Go.bool ?_ ?_) <;> intro hc <;> (try simp only [List.length_map,ne_eq,hcs] at hc) <;> try (exfalso;omega)))
    simp only [List.length_map]
    clear hnp
    refine Go.loop (fun i:Nat => [(1,.pt 0 1 0 0),(5,i64 t),(6,.pt (n + 4) 1 0 0),(15,graphsAv u.graphs),(16,i64 u.graphs.length),(17,i64 t),(56,nodesAv g.nodes),(57,i64 g.nodes.length),(58,i64 i)])
     (fun i H2 n2 => i ≤ g.nodes.length∧n + 5 ≤ n2∧(∃ d,getH H2 0 = some (.row 25 3 d [u.av]))∧(∃ d,getH H2 (n + 4) = some (.row 40 4 d [g.av]))∧fstNot (nodeB u g) (g.nodes.drop i) i = fstNot (nodeB u g) g.nodes 0) (fun i => g.nodes.length - i) 0 aLess ⟨Nat.zero_le _,aNx,⟨_,aRow⟩,⟨_,aRow⟩,rfl⟩ ?_
    clear r0
    rintro i H2 n2 ⟨hi,hn2,⟨d02,r0⟩,⟨d4,r4⟩,hfst⟩
    by_cases hil:i < g.nodes.length
    ·have hp:=right_pure u g (g.nodes.getD i default) (hg.nodes _ (getD_mem' default hil))
     have en:=fun d => nd_at hil d
     have hfst2:=fstNot_get default hfst hil
     cases hnb:nodeB u g (g.nodes.getD i default) with
     | false =>
      rw [hnb] at hp
      rw [if_neg (by rw [hnb];decide)] at hfst2
      rw [hfst2] at hF
      rw [← hF]
      repeat' (first|((with_reducible refine Go.red ?_);conv => whnf)|refine aG ?_|exact aCn|with_reducible refine Go.and ?_ ?_|((with_reducible refine Ask.mk ?_);first|exact aAsk|exact aAsk2|(intro h;simp_all [UnitS.cells,Graph.cells,Node.cells] <;> fail)|(simp_all [UnitS.cells,Graph.cells,Node.cells] <;> fail))|(apply Go.elem;(·(first|exact en _|exact aElem)))|refine aK (hp) ?_|refine aH ?_|((with_reducible refine Go.bool ?_ ?_) <;> intro hc <;> (try simp only [List.length_map,ne_eq,hcs] at hc) <;> try (exfalso;omega)))
      exact rfl
     | true =>
      rw [hnb] at hp
      rw [if_pos hnb] at hfst2
      repeat' (first|((with_reducible refine Go.red ?_);conv => whnf)|refine aG ?_|exact aCn|with_reducible refine Go.and ?_ ?_|((with_reducible refine Ask.mk ?_);first|exact aAsk|exact aAsk2|(intro h;simp_all [UnitS.cells,Graph.cells,Node.cells] <;> fail)|(simp_all [UnitS.cells,Graph.cells,Node.cells] <;> fail))|(apply Go.elem;(·(first|exact en _|exact aElem)))|refine aK (hp) ?_|refine aH ?_|((with_reducible refine Go.bool ?_ ?_) <;> intro hc <;> (try simp only [List.length_map,ne_eq,hcs] at hc) <;> try (exfalso;omega)))
      exact ⟨i + 1,by omega,aLess,by omega,aNx,⟨_,aRow⟩,⟨_,aRow⟩,hfst2.symm⟩
    ·have:i = g.nodes.length:=by omega
     subst this
     rw [fstNot_end _ _ (Nat.le_refl _)] at hfst
     rw [← hfst] at hF
     dsimp only at hF
     have hok:Whole g:=whole_of (u:=u) (by omega) fun m hm => nodeB_iff.1 (fstNot_none.1 hfst.symm m hm)
     have hh:=held_pure g hg hok
     unfold heldAv at hh
     by_cases hb2:0 ≤ (heldG g).2
     ·rw [if_pos hb2] at hF
      rw [← hF]
      repeat' (first|((with_reducible refine Go.red ?_);conv => whnf)|refine aG ?_|exact aCn|with_reducible refine Go.and ?_ ?_|((with_reducible refine Ask.mk ?_);first|exact aAsk|exact aAsk2|(intro h;simp_all [UnitS.cells,Graph.cells] <;> fail)|(simp_all [UnitS.cells,Graph.cells] <;> fail))|(apply Go.elem;(·exact aElem))|refine aK (hh) ?_|refine aH ?_|((with_reducible refine Go.bool ?_ ?_) <;> intro hc <;> (try simp only [List.length_map,ne_eq,hcs] at hc) <;> try (exfalso;omega)))
      exact rfl
     ·rw [if_neg hb2] at hF
      repeat' (first|((with_reducible refine Go.red ?_);conv => whnf)|refine aG ?_|exact aCn|with_reducible refine Go.and ?_ ?_|((with_reducible refine Ask.mk ?_);first|exact aAsk|exact aAsk2|(intro h;simp_all [UnitS.cells,Graph.cells] <;> fail)|(simp_all [UnitS.cells,Graph.cells] <;> fail))|(apply Go.elem;(·exact aElem))|refine aK (hh) ?_|refine aH ?_|((with_reducible refine Go.bool ?_ ?_) <;> intro hc <;> (try simp only [List.length_map,ne_eq,hcs] at hc) <;> try (exfalso;omega)))
      exact ⟨t + 1,by omega,aLess,by omega,by omega,⟨_,aRow⟩,hF⟩
  ·have:t = u.graphs.length:=by omega
   subst this
   rw [List.drop_eq_nil_of_le (Nat.le_refl _),graphsF] at hF
   rw [← hF]
   repeat' (first|((with_reducible refine Go.red ?_);conv => whnf)|refine aG ?_|exact aCn|with_reducible refine Go.and ?_ ?_|((with_reducible refine Ask.mk ?_);first|exact aAsk|exact aAsk2|(intro h;simp_all [UnitS.cells] <;> fail)|(simp_all [UnitS.cells] <;> fail))|(apply Go.elem;(·exact aElem))|refine aH ?_|((with_reducible refine Go.bool ?_ ?_) <;> intro hc <;> (try simp only [List.length_map,ne_eq,hcs] at hc) <;> try (exfalso;omega)))
   exact rfl
end Go.Proofs.YtmonponfppdgfaaGreatDoor
end
section
/- How variables are shared: the walk. -/
namespace Go.Proofs.YtmonponfppdgfaaGreatDoor
open Go Go.Abs Go.Proofs
set_option linter.unusedSimpArgs false
set_option linter.unusedVariables false
theorem wholeB_of {g:Graph} (h:Whole g):wholeB g = true:=whole_iff.2 h
theorem fit_held (L:List (List Int)):fitL 0 (L.map imF):=(fitL_map _ _).2 fun _ _ => by simp [imF,fitA,fitL_map]
theorem Held_pure (g:Graph) (hg:g.Wf) (hw:Whole g) (hh:(heldG g).2 < 0):Pure Tryz.prog 117 [g.av] (fun r => r = .tup [.im 1 .any ((heldG g).1.map imF),bl true]):=by
 refine Go.pureL lf117 rfl ?_
 have h1:=whole_pure g hg
 rw [wholeB_of hw] at h1
 have h2:=held_pure g hg hw
 unfold heldAv at h2
 have e:decide ((heldG g).2 < 0) = true:=decide_eq_true hh
 repeat' (first|((with_reducible refine Go.red ?_);conv => whnf)|refine aG ?_|exact aCn|with_reducible refine Go.and ?_ ?_|((with_reducible refine Ask.mk ?_);first|exact aAsk|exact aAsk2|(intro h;simp_all [Graph.cells] <;> fail)|(simp_all [Graph.cells] <;> fail))|(apply Go.elem;(·exact aElem))|refine aK (h1) ?_|refine aK (h2) ?_|refine aH ?_|((with_reducible refine Go.bool ?_ ?_) <;> intro hc <;> (try simp only [List.length_map,ne_eq,hcs] at hc) <;> try (exfalso;omega)))
 rw [e]
 exact Res.eq (by simp only [fitA,fitL];exact ⟨fit_held _,trivial,trivial⟩) rfl
noncomputable def lookAv (g:Graph):AV:=.agg [imB (reachL g (-1)),.im 1 .any (((heldG g).1.map hb).map u32)]
theorem hb_take {l:List Int} {j:Nat} (h:j < l.length):hb (l.take (j + 1)) = hb (l.take j) ||| 2 ^ (l.getD j 0).toNat:=by
 rw [List.take_succ_eq_append_getElem h,hb_app,gd h]
theorem shl32 {k:Int} (h0:0 ≤ k) (h1:k < 16):IntKind.u32.wrap (1 * 2 ^ (min k.toNat IntKind.u32.bits)) = ((2 ^ k.toNat:Nat):Int):=by
 have:k.toNat < 16:=by omega
 generalize k.toNat = m at *
 have hm:min m IntKind.u32.bits = m:=by show min m 32 = m;omega
 rw [hm]
 have:(2:Nat) ^ m < 2 ^ 16:=Nat.pow_lt_pow_right (by omega) this
 have e:(1:Int) * 2 ^ m = ((2 ^ m:Nat):Int):=by rw [Int.one_mul];simp
 have h2:(2:Nat) ^ m < 4294967296:=by omega
 rw [e]
 exact wrap32 (Int.natCast_nonneg _) (Int.ofNat_lt.2 h2)
def hbRow (L:List (List Int)) (i x:Nat):List Nat:=(L.take i).map hb ++ x :: List.replicate (L.length - (i + 1)) 0
theorem hbP_len {L:List (List Int)} {i:Nat} (h:i < L.length):((L.take i).map hb).length = i:=by simp;omega
theorem hbRow_len {L:List (List Int)} {i:Nat} (h:i < L.length) (x:Nat):(hbRow L i x).length = L.length:=by
 rw [hbRow,List.length_append,hbP_len h];simp;omega
theorem hbRow_get {L:List (List Int)} {i:Nat} (h:i < L.length) (x:Nat) (d:AV):((hbRow L i x).map u32).getD ((i:Int)).toNat d = u32 x:=by
 rw [Int.toNat_natCast,getD_av u32 _ _ _ (by rw [hbRow_len h];exact h),hbRow,List.getD,List.getElem?_append_right (by rw [hbP_len h];exact Nat.le_refl _),hbP_len h,Nat.sub_self];rfl
theorem hbRow_set {L:List (List Int)} {i:Nat} (h:i < L.length) (x v:Nat):((hbRow L i x).map u32).set ((i:Int)).toNat (u32 v) = (hbRow L i v).map u32:=by
 rw [Int.toNat_natCast,← List.map_set,hbRow,List.set_append,if_neg (by rw [hbP_len h];omega),hbP_len h,Nat.sub_self];rfl
theorem hbRow_zero {L:List (List Int)} {i:Nat} (h:i < L.length):(L.take i).map hb ++ List.replicate (L.length - i) 0 = hbRow L i 0:=by
 rw [hbRow,show L.length - i = (L.length - (i + 1)) + 1 by omega,List.replicate_succ]
theorem hbRow_next {L:List (List Int)} {i:Nat} (h:i < L.length):hbRow L i (hb (L.getD i [])) = (L.take (i + 1)).map hb ++ List.replicate (L.length - (i + 1)) 0:=by
 rw [hbRow,List.take_succ_eq_append_getElem h,gd h,List.map_append,List.append_assoc];rfl
theorem heldTo_len {m:Nat} {now:List Int} (hn:now.length ≤ m):∀ (l:List Int) (s s':HS),heldTo now l s = .inl s'→(∀ i,(s.locks.getD i []).length ≤ m)→∀ i,(s'.locks.getD i []).length ≤ m
 | [],s,s',h,hs => by rw [heldTo] at h;cases h;exact hs
 | k :: r,s,s',h,hs => by
  rw [heldTo] at h
  split at h
  ·refine heldTo_len hn r _ s' h fun i => ?_
   dsimp only
   rw [getD_set_eq]
   split
   ·exact hn
   ·exact hs i
  ·split at h
   ·exact heldTo_len hn r s s' h hs
   ·cases h
theorem heldNow_len {n:Node} {l now:List Int} (h:heldNow n l = some now):now.length ≤ l.length + 1:=by
 unfold heldNow at h
 split at h
 ·cases h;simp
 ·split at h
  ·split at h
   ·cases h;simp;omega
   ·cases h
  ·split at h
   ·split at h
    ·cases h;omega
    ·cases h
   ·cases h;omega
theorem heldRun_len (g:Graph):∀ (f:Nat) (s:HS) (k:Nat),(∀ i,(s.locks.getD i []).length ≤ k)→∀ i,((heldRun g f s k).1.getD i []).length ≤ k + f
 | 0,s,k,h,i => by rw [heldRun];exact h i
 | f + 1,s,k,h,i => by
  rw [heldRun]
  split
  ·split
   ·simp
   ·rename_i now hn
    have h2:=heldNow_len hn
    have h3:=h (s.todo.getD k 0).toNat
    unfold HS.l at h2
    split
    ·rename_i s' ht
     have:=heldRun_len g f s' (k + 1) (heldTo_len (m:=k + 1) (by omega) _ _ _ ht fun i => Nat.le_succ_of_le (h i)) i
     omega
    ·simp
  ·have:=h i;dsimp only;omega
theorem heldG_len (g:Graph) (i:Nat):((heldG g).1.getD i []).length ≤ g.nodes.length + 1:=by
 have:=heldRun_len g (g.nodes.length + 1) (hs0 g) 0 (fun i => by simp only [hs0,List.getD,List.getElem?_replicate];split <;> exact Nat.zero_le _) i
 rw [Nat.zero_add] at this;exact this
set_option maxHeartbeats 4000000 in
theorem looked_call {u:UnitS} (g:Graph) (hg:g.Wf) (hk:GraphOk u g) (hl16:u.locks.length ≤ 16):CallN Tryz.prog 116 [g.av] [] 0 (fun r H n => ∃ d,r = .agg [imB (reachL g (-1)),.sl 7 (heldG g).1.length]∧getH H 7 = some (.row 114 1 d (((heldG g).1.map hb).map u32))):=by
 have hw:=hk.whole
 have h1:=reached_pure g hg (wholeB_of hw) (spread_pure g hg hw (-1) (by unfold wf64;omega))
 have h2:=Held_pure g hg hw hk.held
 obtain ⟨_,hLl,_,_⟩:=heldG_ok hw hk.held
 have hin:=held_in hk
 have hlen:=hk.len
 have hgl:=hg.len
 have hlens:=heldG_len g
 generalize hL:(heldG g).1 = L at *
 refine Go.fnL lf116 rfl ?_
 repeat' (first|((with_reducible refine Go.red ?_);conv => whnf)|refine aG ?_|exact aCn|with_reducible refine Go.and ?_ ?_|((with_reducible refine Ask.mk ?_);first|exact aAsk|exact aAsk2|(intro h;simp_all [Graph.cells] <;> fail)|(simp_all [Graph.cells] <;> fail))|(apply Go.elem;(·exact aElem))|refine aK (h1) ?_|refine aK (h2) ?_|refine aH ?_|((with_reducible refine Go.bool ?_ ?_) <;> intro hc <;> (try simp only [List.length_map,ne_eq,hcs] at hc) <;> try (exfalso;omega)))
 have e0:(((L.take 0).map hb ++ List.replicate (L.length - 0) 0).map u32:List AV) = List.replicate L.length (u32 0):=by simp
 simp only [List.length_map,Int.toNat_natCast]
 refine Go.loop (fun i:Nat => [(2,.pt 1 1 0 0),(3,.pt 9 1 0 0),(22,.im 1 .any (L.map imF)),(23,i64 L.length),(24,i64 i)])
  (fun i H n => i ≤ L.length∧18 ≤ n∧(∃ d,getH H 1 = some (.row 156 2 d [.agg [.sc (.slice none 0 0),.sc (.slice none 0 0)]]))∧(∃ d,getH H 9 = some (.row 156 2 d [.agg [imB (reachL g (-1)),.sl 7 g.nodes.length]]))∧(∃ d,getH H 7 = some (.row 114 1 d (((L.take i).map hb ++ List.replicate (L.length - i) 0).map u32)))) (fun i => L.length - i) 0 aLess ⟨Nat.zero_le _,aNx,⟨_,aRow⟩,?_,?_⟩ ?_
 ·apply Exists.intro
  exact aRow
 ·apply Exists.intro
  rw [e0,hLl]
  exact aRow
 rintro i H n ⟨hi,hn,⟨d1,r1⟩,⟨d9,r9⟩,⟨d7,r7⟩⟩
 by_cases hil:i < L.length
 ·rw [hbRow_zero hil] at r7
  have hll:=hlens i
  have e1:=fun d => imF_at (l:=L) (i:=(i:Int)) (by rw [Int.toNat_natCast];exact hil) d
  rw [Int.toNat_natCast] at e1
  have hin2:=hin i
  have hnx:=hbRow_next hil
  generalize hl:L.getD i [] = l at *
  repeat' (first|((with_reducible refine Go.red ?_);conv => whnf)|refine aG ?_|exact aC|with_reducible refine Go.and ?_ ?_|(apply Go.elem;(·(first|exact e1 _|exact aElem)))|refine aH ?_|((with_reducible refine Go.bool ?_ ?_) <;> intro hc <;> (try simp only [List.length_map,ne_eq,hcs] at hc) <;> try (exfalso;omega)))
  simp only [List.length_map]
  refine Go.loop (fun j:Nat => [(2,.pt 1 1 0 0),(3,.pt 9 1 0 0),(6,i64 i),(22,.im 1 .any (L.map imF)),(23,i64 L.length),(24,i64 i),(29,.im 1 .any (l.map i64)),(30,i64 l.length),(31,i64 j)])
   (fun j H2 n2 => j ≤ l.length∧n ≤ n2∧(∃ d,getH H2 1 = some (.row 156 2 d [.agg [.sc (.slice none 0 0),.sc (.slice none 0 0)]]))∧(∃ d,getH H2 9 = some (.row 156 2 d [.agg [imB (reachL g (-1)),.sl 7 g.nodes.length]]))∧(∃ d,getH H2 7 = some (.row 114 1 d ((hbRow L i (hb (l.take j))).map u32)))) (fun j => l.length - j) 0 aLess ⟨Nat.zero_le _,aNx,⟨_,aRow⟩,⟨_,aRow⟩,⟨_,aRow⟩⟩ ?_
  clear r1 r9 r7
  rintro j H2 n2 ⟨hj,hn2,⟨d1,r1⟩,⟨d9,r9⟩,⟨d7,r7⟩⟩
  by_cases hjl:j < l.length
  ·obtain ⟨k0,k1⟩:=hin2 _ (getD_mem' 0 hjl)
   have e2:=fun d => int_at hjl d
   have e3:=fun d => hbRow_get hil (hb (l.take j)) d
   have hml:((hbRow L i (hb (l.take j))).map u32).length = g.nodes.length:=by rw [List.length_map,hbRow_len hil,hLl]
   have e4:=shl32 k0 (by omega:l.getD j 0 < 16)
   have hlt:∀ m,hb (l.take m) < 65536:=fun m => hb_lt (m:=16) fun k hk => by have:=hin2 k (List.mem_of_mem_take hk);omega
   have e5:=hb_take hjl
   have hp:2 ^ (l.getD j 0).toNat < 65536:=Nat.pow_lt_pow_right (by omega) (by omega:(l.getD j 0).toNat < 16)
   have e6:=or32 (show hb (l.take j) < 4294967296 from Nat.lt_trans (hlt j) (by omega)) (show 2 ^ (l.getD j 0).toNat < 4294967296 by omega)
   rw [← e5] at e6
   repeat' (first|((with_reducible refine Go.red ?_);conv => whnf)|refine aG ?_|exact aCn|with_reducible refine Go.and ?_ ?_|((with_reducible refine Ask.mk ?_);first|exact aAsk|(exact hml)|exact aAsk2)|(apply Go.elem;(·(first|exact e2 _|exact e3 _|exact aElem)))|(simp only [e4])|(simp only [e6])|refine aH ?_|((with_reducible refine Go.bool ?_ ?_) <;> intro hc <;> (try simp only [List.length_map,ne_eq,hcs] at hc) <;> try (exfalso;omega)))
   exact ⟨j + 1,by omega,aLess,by omega,aNx,⟨_,aRow⟩,⟨_,aRow⟩,⟨_,by rw [← hbRow_set hil (hb (l.take j)) (hb (l.take (j + 1)))];exact aRow⟩⟩
  ·have:j = l.length:=by omega
   subst this
   rw [List.take_length,hnx] at r7
   repeat' (first|((with_reducible refine Go.red ?_);conv => whnf)|refine aG ?_|exact aC|with_reducible refine Go.and ?_ ?_|(apply Go.elem;(·exact aElem))|refine aH ?_|((with_reducible refine Go.bool ?_ ?_) <;> intro hc <;> (try simp only [List.length_map,ne_eq,hcs] at hc) <;> try (exfalso;omega)))
   exact ⟨i + 1,by omega,aLess,by omega,by omega,⟨_,aRow⟩,⟨_,aRow⟩,⟨_,aRow⟩⟩
 ·have:i = L.length:=by omega
  subst this
  rw [List.take_length,Nat.sub_self,List.replicate_zero,List.append_nil] at r7
  repeat' (first|((with_reducible refine Go.red ?_);conv => whnf)|refine aG ?_|exact aC|with_reducible refine Go.and ?_ ?_|(apply Go.elem;(·exact aElem))|refine aH ?_|((with_reducible refine Go.bool ?_ ?_) <;> intro hc <;> (try simp only [List.length_map,ne_eq,hcs] at hc) <;> try (exfalso;omega)))
  rw [← hLl]
  exact ⟨⟨d7,rfl,aRow⟩⟩
theorem looked_pure {u:UnitS} (g:Graph) (hg:g.Wf) (hk:GraphOk u g) (hl16:u.locks.length ≤ 16):Pure Tryz.prog 116 [g.av] (fun r => r = lookAv g):=by
 have hfit:fitA 0 (lookAv g):=by unfold lookAv;simp [fitA,fitL,imB,fitL_map]
 refine pure_of_call ((looked_call g hg hk hl16).mono ?_) hfit
 rintro r H n ⟨d,rfl,hb⟩
 have e1:Abs.frz H 6 (.agg [imB (reachL g (-1)),.sl 7 (heldG g).1.length]) = .agg [Abs.frz H 5 (imB (reachL g (-1))),Abs.frz H 5 (.sl 7 (heldG g).1.length)]:=by
  simp only [frz,List.map_cons,List.map_nil]
 rw [e1,frz_sl hb (by simp),frz_same _ ((fitL_map _ _).2 fun _ _ => by simp [fitA]),frz_fit 5 (by simp [imB,fitA,fitL_map])]
 rfl
noncomputable def looksAv (u:UnitS) (m:Nat):List AV:=(u.graphs.take m).map lookAv
theorem looks_next {u:UnitS} {t:Nat} (h:t < u.graphs.length):looksAv u (t + 1) = looksAv u t ++ [lookAv (u.gr t)]:=by
 rw [looksAv,List.take_succ_eq_append_getElem h,looksAv,List.map_append,show u.gr t = u.graphs[t] from gd h _];rfl
theorem looks_len {u:UnitS} {t:Nat} (h:t ≤ u.graphs.length):(looksAv u t).length = t:=by simp [looksAv];omega
theorem fit_looks (u:UnitS) (m:Nat):fitL 0 (looksAv u m):=(fitL_map _ _).2 fun _ _ => by unfold lookAv;simp [fitA,fitL,imB,fitL_map]
set_option maxHeartbeats 4000000 in
theorem asked_pure (u:UnitS) (hu:u.Wf):Pure Tryz.prog 111 [u.av] (fun r => r = if rightB u = true then .tup [.im 2 .any (looksAv u u.graphs.length),i64 0] else .tup [.sc (.slice none 0 0),i64 60]):=by
 have hck:=check_pure u hu
 by_cases hr:RightU u
 ·rw [checkU_ok.2 hr] at hck
  rw [if_pos (rightB_iff.2 hr)]
  have hfew:=hr.few
  refine pure_of_call ?_ (by simp only [fitA,fitL];exact ⟨fit_looks _ _,trivial,trivial⟩)
  refine Go.fnL lf111 rfl ?_
  repeat' (first|((with_reducible refine Go.red ?_);conv => whnf)|refine aG ?_|exact aCn|with_reducible refine Go.and ?_ ?_|((with_reducible refine Ask.mk ?_);first|exact aAsk|exact aAsk2|(intro h;simp_all [UnitS.cells] <;> fail)|(simp_all [UnitS.cells] <;> fail))|(apply Go.elem;(·exact aElem))|refine aK (hck) ?_|refine aH ?_|((with_reducible refine Go.bool ?_ ?_) <;> intro hc <;> (try simp only [List.length_map,ne_eq,hcs] at hc) <;> try (exfalso;omega)))
  simp only [List.length_map]
  refine Go.loopF (fun t:Nat => [(7,.sl 18 t),(20,graphsAv u.graphs),(21,i64 u.graphs.length),(22,i64 t)])
   (fun t H n => t ≤ u.graphs.length∧19 ≤ n∧(∃ d,getH H 18 = some (.row 156 2 d (looksAv u t)))) (fun t => u.graphs.length - t) 0 ⟨_,_,_,Rt.nil 7 156 2 (by omega) rfl,aLess,Nat.zero_le _,aNx,⟨_,aRow⟩⟩ ?_
  rintro t H n ⟨ht,hn,⟨d,r18⟩⟩
  by_cases htl:t < u.graphs.length
  ·have hl:=looks_len (u:=u) ht
   have hg:=hu.graphs _ (getD_mem' default htl)
   have hlk:=looked_pure (u.gr t) hg (hr.gr htl) hfew.2.1
   have hnx:=looks_next htl
   have eg:=fun d => gr_at htl d
   repeat' (first|((with_reducible refine Go.red ?_);conv => whnf)|refine aG ?_|exact aCn|with_reducible refine Go.and ?_ ?_|((with_reducible refine Ask.mk ?_);first|exact aAsk|(exact hl)|exact aAsk2|(intro h;simp_all [Graph.cells] <;> fail)|(simp_all [Graph.cells] <;> fail))|(apply Go.elem;(·(first|exact eg _|exact aElem)))|refine aK (hlk) ?_|refine aH ?_|((with_reducible refine Go.bool ?_ ?_) <;> intro hc <;> (try simp only [List.length_map,ne_eq,hcs] at hc) <;> try (exfalso;omega)))
   exact ⟨t + 1,by omega,_,_,_,Rt.refl _ _ _,aLess,by omega,aNx,⟨_,by rw [hnx];exact aRow⟩⟩
  ·have:t = u.graphs.length:=by omega
   subst this
   repeat' (first|((with_reducible refine Go.red ?_);conv => whnf)|refine aG ?_|exact aC|with_reducible refine Go.and ?_ ?_|(apply Go.elem;(·exact aElem))|refine aH ?_|((with_reducible refine Go.bool ?_ ?_) <;> intro hc <;> (try simp only [List.length_map,ne_eq,hcs] at hc) <;> try (exfalso;omega)))
   refine ⟨?_⟩
   have e1:∀ H,Abs.frz H 6 (.tup [.sl 18 u.graphs.length,i64 0]) = .tup [Abs.frz H 5 (.sl 18 u.graphs.length),i64 0]:=fun H => by
    simp only [frz,List.map_cons,List.map_nil]
   refine (e1 _).trans ?_
   rw [frz_sl aRow (looks_len (Nat.le_refl _)),frz_same _ (fit_looks _ _)]
 ·have h1:=checkU_bad hr
  rw [if_neg (mt rightB_iff.1 hr)]
  generalize checkU u = r at *
  obtain ⟨a,b,c⟩:=r
  dsimp only at h1 hck
  subst h1
  unfold check3 at hck
  refine Go.pureL lf111 rfl ?_
  repeat' (first|((with_reducible refine Go.red ?_);conv => whnf)|refine aG ?_|exact aCn|with_reducible refine Go.and ?_ ?_|((with_reducible refine Ask.mk ?_);first|exact aAsk|exact aAsk2|(intro h;simp_all [UnitS.cells] <;> fail)|(simp_all [UnitS.cells] <;> fail))|(apply Go.elem;(·exact aElem))|refine aK (hck) ?_|refine aH ?_|((with_reducible refine Go.bool ?_ ?_) <;> intro hc <;> (try simp only [List.length_map,ne_eq,hcs] at hc) <;> try (exfalso;omega)))
  exact rfl
end Go.Proofs.YtmonponfppdgfaaGreatDoor
end
section
/- How variables are used: the walk. -/
namespace Go.Proofs.YtmonponfppdgfaaGreatDoor
open Go Go.Abs Go.Proofs
set_option linter.unusedSimpArgs false
set_option linter.unusedVariables false
abbrev useAv (p:Nat × Nat):AV:=.agg [u32 p.1,u32 p.2]
abbrev mapU (E:UseE):List AV:=mapE (fun n:Int => Value.int .i64 n) useAv E
theorem getU (E:UseE) (t:Int):mget false (.int .i64 t) (mapU E) (useAv (0,0)) = some (useAv ((lookE E t).getD (0,0)),(lookE E t).isSome):=(mget_E keyInt useAv t E (useAv (0,0))).trans (by cases lookE E t <;> rfl)
theorem putU (E:UseE) (t:Int) (v:Nat × Nat):mput false (.int .i64 t) (mapU E) (useAv v) = some (mapU (putE E t v)):=mput_E keyInt useAv t v E
theorem shl32n {t:Nat} (h1:t < 8):IntKind.u32.wrap (1 * 2 ^ (min ((t:Int)).toNat IntKind.u32.bits)) = ((2 ^ t:Nat):Int):=by
 have:=shl32 (k:=(t:Int)) (by omega) (by omega)
 rw [this,Int.toNat_natCast]
def SmallE (E:UseE):Prop:=∀ v p,lookE E v = some p→p.1 < 256∧p.2 < 65536
set_option maxHeartbeats 4000000 in
theorem uses1_call (E:UseE) (hE:SmallE E) (x:Acc) (i:Nat) (ht:x.1 < 8) (hk:∀ k ∈ x.2.2,0 ≤ k∧k < 16) (b m:Nat) (H:Hp) (nx:Nat) (e em:TypeId) (d dm:AV) (hrb:getH H b = some (.row e 1 d [.mp m])) (hm:getH H m = some (.row em 0 dm (mapA (mapU E)))) (hbn:b < nx) (hmn:m < nx) (hbm:b ≠ m) :
 CallN Tryz.prog 113 [.agg [i64 x.1,i64 i],x.2.1.av,u32 (hb x.2.2),.pt b 1 0 0] H nx (fun r H' n => r = .tup []∧nx ≤ n∧(∃ d,getH H' m = some (.row em 0 d (mapA (mapU (useStep E x)))))∧∀ y,y < nx→y ≠ m→getH H' y = getH H y):=by
 obtain ⟨t,nd,l⟩:=x
 dsimp only at ht hk ⊢
 refine Go.fnL lf113 rfl ?_
 have htp:=touches_pure nd
 cases hto:tch nd with
 | false =>
  rw [hto] at htp
  repeat' (first|((with_reducible refine Go.red ?_);conv => whnf)|refine aG ?_|exact aCn|with_reducible refine Go.and ?_ ?_|((with_reducible refine Ask.mk ?_);first|exact aAsk|exact aAsk2|(intro h;simp_all [Node.cells] <;> fail)|(simp_all [Node.cells] <;> fail))|(apply Go.elem;(·exact aElem))|refine aK (htp) ?_|refine aH ?_|((with_reducible refine Go.bool ?_ ?_) <;> intro hc <;> (try simp only [List.length_map,ne_eq,hcs] at hc) <;> try (exfalso;omega)))
  refine ⟨⟨rfl,aNx,⟨dm,?_⟩,fun y hy hym => aSkip⟩⟩
  unfold useStep
  rw [if_neg (by dsimp only;rw [hto];decide)]
  exact aRow
 | true =>
  rw [hto] at htp
  have hst:useStep E (t,nd,l) = putE E nd.thing (useOf ((lookE E nd.thing).getD (0,65535)) t l):=by unfold useStep;rw [if_pos hto]
  rw [hst]
  have hl:Go.Proofs.YtmonponfppdgfaaGreatDoor.hb l < 65536:=hb_lt (m:=16) fun k hkk => by have:=hk k hkk;omega
  have e4:=shl32n ht
  have hp2:2 ^ t < 256:=Nat.pow_lt_pow_right (by omega) (by omega:t < 8)
  have eg:=getU E nd.thing
  cases hlk:lookE E nd.thing with
  | none =>
   rw [hlk] at eg
   have e6:=or32 (a:=0) (b:=2 ^ t) (by omega) (by omega)
   have e7:=and32 (a:=65535) (b:=Go.Proofs.YtmonponfppdgfaaGreatDoor.hb l) (by omega) (by omega)
   repeat' (first|((with_reducible refine Go.red ?_);conv => whnf)|refine aG ?_|exact aCn|with_reducible refine Go.and ?_ ?_|((with_reducible refine Ask.mk ?_);first|exact aAsk|exact aAsk2|(intro h;simp_all [Node.cells] <;> fail)|(simp_all [Node.cells] <;> fail))|(apply Go.elem;(·exact aElem))|refine aK (htp) ?_|(simp only [e4])|(simp only [e6])|(simp only [e7])|(apply Go.givesG (g:=none);(·exact fun _ => eg))|(apply Go.givesG (g:=none);(·exact fun _ => putU _ _ _))|refine aH ?_|((with_reducible refine Go.bool ?_ ?_) <;> intro hc <;> (try simp only [List.length_map,ne_eq,hcs] at hc) <;> try (exfalso;omega)))
   refine Go.givesG (a:=mapU (putE E nd.thing (useOf (0,65535) t l))) (fun _ => (congrArg (mput false _ (mapU E)) (?_:_ = useAv (useOf (0,65535) t l))).trans (putU _ _ _)) ?_
   ·show AV.agg [AV.sc (.int .u32 (IntKind.u32.wrap (BitVec.ofInt IntKind.u32.bits ((0:Nat):Int) ||| BitVec.ofInt IntKind.u32.bits ((2 ^ t:Nat):Int)).toNat)),AV.sc (.int .u32 (IntKind.u32.wrap (BitVec.ofInt IntKind.u32.bits ((65535:Nat):Int) &&& BitVec.ofInt IntKind.u32.bits ((Go.Proofs.YtmonponfppdgfaaGreatDoor.hb l:Nat):Int)).toNat))] = _
    rw [e6,e7]
    rfl
   ·repeat' (first|((with_reducible refine Go.red ?_);conv => whnf)|refine aG ?_|exact aC|with_reducible refine Go.and ?_ ?_|(apply Go.elem;(·exact aElem))|refine aH ?_|((with_reducible refine Go.bool ?_ ?_) <;> intro hc <;> (try simp only [List.length_map,ne_eq,hcs] at hc) <;> try (exfalso;omega)))
    exact ⟨⟨rfl,aNx,⟨_,aRow⟩,fun y hy hym => aSkip⟩⟩
  | some p =>
   rw [hlk] at eg
   have hp:=hE _ _ hlk
   have e6:=or32 (a:=p.1) (b:=2 ^ t) (by omega) (by omega)
   have e7:=and32 (a:=p.2) (b:=Go.Proofs.YtmonponfppdgfaaGreatDoor.hb l) (by omega) (by omega)
   repeat' (first|((with_reducible refine Go.red ?_);conv => whnf)|refine aG ?_|exact aCn|with_reducible refine Go.and ?_ ?_|((with_reducible refine Ask.mk ?_);first|exact aAsk|exact aAsk2|(intro h;simp_all [Node.cells] <;> fail)|(simp_all [Node.cells] <;> fail))|(apply Go.elem;(·exact aElem))|refine aK (htp) ?_|(simp only [e4])|(simp only [e6])|(simp only [e7])|(apply Go.givesG (g:=none);(·exact fun _ => eg))|(apply Go.givesG (g:=none);(·exact fun _ => putU _ _ _))|refine aH ?_|((with_reducible refine Go.bool ?_ ?_) <;> intro hc <;> (try simp only [List.length_map,ne_eq,hcs] at hc) <;> try (exfalso;omega)))
   refine Go.givesG (a:=mapU (putE E nd.thing (useOf p t l))) (fun _ => (congrArg (mput false _ (mapU E)) (?_:_ = useAv (useOf p t l))).trans (putU _ _ _)) ?_
   ·show AV.agg [AV.sc (.int .u32 (IntKind.u32.wrap (BitVec.ofInt IntKind.u32.bits ((p.1:Nat):Int) ||| BitVec.ofInt IntKind.u32.bits ((2 ^ t:Nat):Int)).toNat)),AV.sc (.int .u32 (IntKind.u32.wrap (BitVec.ofInt IntKind.u32.bits ((p.2:Nat):Int) &&& BitVec.ofInt IntKind.u32.bits ((Go.Proofs.YtmonponfppdgfaaGreatDoor.hb l:Nat):Int)).toNat))] = _
    rw [e6,e7]
    rfl
   ·repeat' (first|((with_reducible refine Go.red ?_);conv => whnf)|refine aG ?_|exact aC|with_reducible refine Go.and ?_ ?_|(apply Go.elem;(·exact aElem))|refine aH ?_|((with_reducible refine Go.bool ?_ ?_) <;> intro hc <;> (try simp only [List.length_map,ne_eq,hcs] at hc) <;> try (exfalso;omega)))
    exact ⟨⟨rfl,aNx,⟨_,aRow⟩,fun y hy hym => aSkip⟩⟩
theorem small_uses {l:List Acc} (h:∀ x ∈ l,x.1 < 8):SmallE (usesE l):=by
 intro v p hp
 rw [usesE_look] at hp
 split at hp
 ·cases hp
 ·cases hp
  refine agg_lt fun x hx => ?_
  unfold touchL at hx
  rw [List.mem_map] at hx
  obtain ⟨y,hy,rfl⟩:=hx
  exact h y (List.mem_filter.1 hy).1
theorem accL_in (t:Nat) (g:Graph) (m:Nat):∀ x ∈ accL t g m,x.1 = t:=by
 intro x hx
 unfold accL at hx
 rw [List.mem_filterMap] at hx
 obtain ⟨i,hi,hx⟩:=hx
 unfold accG at hx
 split at hx
 ·cases hx;rfl
 ·cases hx
theorem accs_in (u:UnitS) (m:Nat):∀ x ∈ accs u m,x.1 < m:=by
 intro x hx
 unfold accs at hx
 rw [List.mem_flatMap] at hx
 obtain ⟨t,ht,hx⟩:=hx
 rw [accL_in _ _ _ x hx];exact List.mem_range.1 ht
theorem bools_at {l:List Bool} {k:Nat} (d:AV) (h:k < l.length):(l.map bl).getD ((k:Int)).toNat d = bl (fnd l (k:Int)):=bool_at (k:=(k:Int)) d (by rw [Int.toNat_natCast];exact h)
theorem hbs_at {L:List (List Int)} {i:Nat} (d:AV) (h:i < L.length):((L.map Go.Proofs.YtmonponfppdgfaaGreatDoor.hb).map u32).getD ((i:Int)).toNat d = u32 (Go.Proofs.YtmonponfppdgfaaGreatDoor.hb (L.getD i [])):=by
 rw [Int.toNat_natCast,getD_av u32 _ _ _ (by simpa using h)]
 congr 1
 simp [List.getD,h]
theorem look_at_ {u:UnitS} {t:Nat} (d:AV) (h:t < u.graphs.length):(looksAv u u.graphs.length).getD ((t:Int)).toNat d = .agg [.im 1 .any ((reachL (u.gr t) (-1)).map bl),.im 1 .any (((heldG (u.gr t)).1.map Go.Proofs.YtmonponfppdgfaaGreatDoor.hb).map u32)]:=by
 rw [Int.toNat_natCast,looksAv,List.take_length,getD_av lookAv _ _ _ h];rfl
set_option maxHeartbeats 8000000 in
theorem each_call (u:UnitS) (hu:u.Wf) (hr:RightU u) (b m:Nat) (H:Hp) (nx:Nat) (e em:TypeId) (d dm:AV) (hrb:getH H b = some (.row e 1 d [.mp m])) (hm:getH H m = some (.row em 0 dm (mapA (mapU [])))) (hbn:b < nx) (hmn:m < nx) (hbm:b ≠ m) :
 CallN Tryz.prog 112 [u.av,.im 2 .any (looksAv u u.graphs.length),.fn (.func 113) [] [.pt b 1 0 0]] H nx (fun r H' n => r = .tup []∧nx ≤ n∧(∃ d,getH H' m = some (.row em 0 d (mapA (mapU (usesE (accs u u.graphs.length))))))∧∀ y,y < nx→y ≠ m→getH H' y = getH H y):=by
 have hfew:=hr.few
 have hll:=looks_len (u:=u) (Nat.le_refl _)
 refine Go.fnL lf112 rfl ?_
 repeat' (first|((with_reducible refine Go.red ?_);conv => whnf)|refine aG ?_|exact aCn|with_reducible refine Go.and ?_ ?_|((with_reducible refine Ask.mk ?_);first|exact aAsk|exact aAsk2|(intro h;simp_all [UnitS.cells] <;> fail)|(simp_all [UnitS.cells] <;> fail))|(apply Go.elem;(·exact aElem))|refine aH ?_|((with_reducible refine Go.bool ?_ ?_) <;> intro hc <;> (try simp only [List.length_map,ne_eq,hcs] at hc) <;> try (exfalso;omega)))
 simp only [List.length_map]
 refine Go.loop (fun t:Nat => [(1,.im 2 .any (looksAv u u.graphs.length)),(2,.fn (.func 113) [] [.pt b 1 0 0]),(11,graphsAv u.graphs),(12,i64 u.graphs.length),(13,i64 t)])
  (fun t H' n => t ≤ u.graphs.length∧nx + 5 ≤ n∧(∃ d,getH H' m = some (.row em 0 d (mapA (mapU (usesE (accs u t))))))∧∀ y,y < nx→y ≠ m→getH H' y = getH H y) (fun t => u.graphs.length - t) 0 aLess ⟨Nat.zero_le _,aNx,⟨_,aRow⟩,fun y hy hym => aSkip⟩ ?_
 rintro t H1 n ⟨ht,hn,⟨d1,r1⟩,hk1⟩
 by_cases htl:t < u.graphs.length
 ·have hg:=hu.graphs _ (getD_mem' default htl)
  have eg:=fun d => gr_at htl d
  have hgo:=hr.gr htl
  have hglen:=hgo.len
  have el:=fun d => look_at_ (u:=u) d htl
  repeat' (first|((with_reducible refine Go.red ?_);conv => whnf)|refine aG ?_|exact aCn|with_reducible refine Go.and ?_ ?_|((with_reducible refine Ask.mk ?_);first|exact aAsk|exact aAsk2|(intro h;simp_all [Graph.cells] <;> fail)|(simp_all [Graph.cells] <;> fail))|(apply Go.elem;(·(first|exact eg _|exact aElem)))|refine aH ?_|((with_reducible refine Go.bool ?_ ?_) <;> intro hc <;> (try simp only [List.length_map,ne_eq,hcs] at hc) <;> try (exfalso;omega)))
  simp only [List.length_map]
  refine Go.loop (fun i:Nat => [(1,.im 2 .any (looksAv u u.graphs.length)),(2,.fn (.func 113) [] [.pt b 1 0 0]),(6,i64 t),(11,graphsAv u.graphs),(12,i64 u.graphs.length),(13,i64 t),(19,nodesAv (u.gr t).nodes),(20,i64 (u.gr t).nodes.length),(21,i64 i)])
   (fun i H' n' => i ≤ (u.gr t).nodes.length∧n ≤ n'∧(∃ d,getH H' m = some (.row em 0 d (mapA (mapU (usesE (accs u t ++ accL t (u.gr t) i))))))∧∀ y,y < nx→y ≠ m→getH H' y = getH H y) (fun i => (u.gr t).nodes.length - i) 0 aLess ⟨Nat.zero_le _,aNx,⟨_,by rw [show accs u t ++ accL t (u.gr t) 0 = accs u t by simp [accL]];exact aRow⟩,fun y hy hym => Eq.trans aSkip (hk1 y hy hym)⟩ ?_
  clear r1 hk1
  rintro i H2 n2 ⟨hi,hn2,⟨d2,r2⟩,hk2⟩
  by_cases hil:i < (u.gr t).nodes.length
  ·have en:=fun d => nd_at hil d
   have er:=fun d => bools_at (l:=reachL (u.gr t) (-1)) (k:=i) d (by rw [reachL_len];exact hil)
   have hLl:=(heldG_ok hgo.whole hgo.held).2.1
   have eh:=fun d => hbs_at (L:=(heldG (u.gr t)).1) (i:=i) d (by rw [hLl];exact hil)
   have hrl:((reachL (u.gr t) (-1)).map bl).length = (u.gr t).nodes.length:=by rw [List.length_map,reachL_len]
   have hhl:(((heldG (u.gr t)).1.map Go.Proofs.YtmonponfppdgfaaGreatDoor.hb).map u32).length = (u.gr t).nodes.length:=by rw [List.length_map,List.length_map,hLl]
   have hac:=accL_succ t (u.gr t) i
   have hb2:getH H2 b = some (.row e 1 d [.mp m]):=(hk2 b hbn hbm).trans hrb
   cases hrc:fnd (reachL (u.gr t) (-1)) (i:Int) with
   | false =>
    rw [show accG t (u.gr t) i = none by unfold accG;rw [if_neg (by rw [hrc];decide)]] at hac
    rw [hrc] at er
    repeat' (first|((with_reducible refine Go.red ?_);conv => whnf)|refine aG ?_|exact aCn|with_reducible refine Go.and ?_ ?_|((with_reducible refine Ask.mk ?_);first|exact aAsk|(exact hll)|(exact hrl)|exact aAsk2|(intro h;simp_all [Node.cells] <;> fail)|(simp_all [Node.cells] <;> fail))|(apply Go.elem;(·(first|exact en _|exact el _|exact er _|exact aElem)))|refine aH ?_|((with_reducible refine Go.bool ?_ ?_) <;> intro hc <;> (try simp only [List.length_map,ne_eq,hcs] at hc) <;> try (exfalso;omega)))
    refine ⟨i + 1,by omega,aLess,by omega,by omega,⟨_,by rw [hac,Option.toList_none,List.append_nil];exact aRow⟩,fun y hy hym => Eq.trans aSkip (hk2 y hy hym)⟩
   | true =>
    rw [show accG t (u.gr t) i = some (t,(u.gr t).nd i,(heldG (u.gr t)).1.getD i []) by unfold accG;rw [if_pos hrc]] at hac
    rw [hrc] at er
    repeat' (first|((with_reducible refine Go.red ?_);conv => whnf)|refine aG ?_|exact aCn|with_reducible refine Go.and ?_ ?_|((with_reducible refine Ask.mk ?_);first|exact aAsk|(exact hll)|(exact hrl)|(exact hhl)|exact aAsk2|(intro h;simp_all [Node.cells] <;> fail)|(simp_all [Node.cells] <;> fail))|(apply Go.elem;(·(first|exact en _|exact el _|exact er _|exact eh _|exact aElem)))|refine aH ?_|((with_reducible refine Go.bool ?_ ?_) <;> intro hc <;> (try simp only [List.length_map,ne_eq,hcs] at hc) <;> try (exfalso;omega)))
    refine Go.callN (uses1_call (usesE (accs u t ++ accL t (u.gr t) i)) (small_uses fun x hx => ?_) (t,(u.gr t).nd i,(heldG (u.gr t)).1.getD i []) i (by dsimp only;omega) (fun k hk => ?_) b m _ _ e em d d2 ?_ ?_ ?_ ?_ hbm) ?_
    ·rcases List.mem_append.1 hx with hx|hx
     ·have:=accs_in u t x hx;omega
     ·rw [accL_in _ _ _ x hx];omega
    ·have:=held_in hgo i k hk;omega
    ·exact aRow
    ·exact aRow
    ·exact aNx
    ·exact aNx
    rintro _ H3 n3 ⟨rfl,hn3,⟨d3,r3⟩,hk3⟩
    have hn23:n2 ≤ n3:=Nat.le_trans aNx hn3
    have hk4:∀ y,y < nx→y ≠ m→getH H3 y = getH H y:=fun y hy hym => (hk3 y (Nat.lt_of_lt_of_le (show y < n2 by omega) aNx) hym).trans (Eq.trans aSkip (hk2 y hy hym))
    rw [← usesE_app,List.append_assoc] at r3
    rw [Option.toList_some] at hac
    rw [← hac] at r3
    clear hk3
    repeat' (first|((with_reducible refine Go.red ?_);conv => whnf)|refine aG ?_|exact aC|with_reducible refine Go.and ?_ ?_|(apply Go.elem;(·exact aElem))|refine aH ?_|((with_reducible refine Go.bool ?_ ?_) <;> intro hc <;> (try simp only [List.length_map,ne_eq,hcs] at hc) <;> try (exfalso;omega)))
    exact ⟨i + 1,by omega,aLess,by omega,by omega,⟨_,aRow⟩,fun y hy hym => Eq.trans aSkip (hk4 y hy hym)⟩
  ·have:i = (u.gr t).nodes.length:=by omega
   subst this
   repeat' (first|((with_reducible refine Go.red ?_);conv => whnf)|refine aG ?_|exact aC|with_reducible refine Go.and ?_ ?_|(apply Go.elem;(·exact aElem))|refine aH ?_|((with_reducible refine Go.bool ?_ ?_) <;> intro hc <;> (try simp only [List.length_map,ne_eq,hcs] at hc) <;> try (exfalso;omega)))
   exact ⟨t + 1,by omega,aLess,by omega,by omega,⟨_,by rw [accs_succ];exact aRow⟩,fun y hy hym => Eq.trans aSkip (hk2 y hy hym)⟩
 ·have:t = u.graphs.length:=by omega
  subst this
  repeat' (first|((with_reducible refine Go.red ?_);conv => whnf)|refine aG ?_|exact aC|with_reducible refine Go.and ?_ ?_|(apply Go.elem;(·exact aElem))|refine aH ?_|((with_reducible refine Go.bool ?_ ?_) <;> intro hc <;> (try simp only [List.length_map,ne_eq,hcs] at hc) <;> try (exfalso;omega)))
  exact ⟨⟨rfl,aNx,⟨_,aRow⟩,fun y hy hym => Eq.trans aSkip (hk1 y hy hym)⟩⟩
set_option maxHeartbeats 4000000 in
theorem uses_call (u:UnitS) (hu:u.Wf) (hr:RightU u) (H:Hp) (nx:Nat):CallN Tryz.prog 99 [u.av] H nx (fun r H' n => ∃ m d em,r = .tup [.mp m,i64 0]∧nx ≤ m∧m < n∧getH H' m = some (.row em 0 d (mapA (mapU (usesE (accs u u.graphs.length)))))∧∀ y,y < nx→getH H' y = getH H y):=by
 have hak:=asked_pure u hu
 rw [if_pos (rightB_iff.2 hr)] at hak
 refine Go.fnL lf99 rfl ?_
 repeat' (first|((with_reducible refine Go.red ?_);conv => whnf)|refine aG ?_|exact aCn|with_reducible refine Go.and ?_ ?_|((with_reducible refine Ask.mk ?_);first|exact aAsk|exact aAsk2|(intro h;simp_all [UnitS.cells] <;> fail)|(simp_all [UnitS.cells] <;> fail))|(apply Go.elem;(·exact aElem))|refine aK (hak) ?_|refine aH ?_|((with_reducible refine Go.bool ?_ ?_) <;> intro hc <;> (try simp only [List.length_map,ne_eq,hcs] at hc) <;> try (exfalso;omega)))
 refine Go.callN (each_call u hu hr (nx + 12) (nx + 11) _ _ 138 3 (.sc (.map none)) .any ?_ ?_ ?_ ?_ (by omega)) ?_
 ·exact aRow
 ·exact aRow
 ·exact aNx
 ·exact aNx
 rintro _ H3 n3 ⟨rfl,hn3,⟨d3,r3⟩,hk3⟩
 have r12:getH H3 (nx + 12) = some (.row 138 1 (.sc (.map none)) [.mp (nx + 11)]):=(hk3 (nx + 12) aNx (by omega)).trans aRow
 have hn11:nx + 12 < n3:=Nat.lt_of_lt_of_le aNx hn3
 have hk4:∀ y,y < nx→getH H3 y = getH H y:=fun y hy => (hk3 y (Nat.lt_of_lt_of_le hy aNx) (by omega)).trans aSkip
 clear hk3
 repeat' (first|((with_reducible refine Go.red ?_);conv => whnf)|refine aG ?_|exact aC|with_reducible refine Go.and ?_ ?_|(apply Go.elem;(·exact aElem))|refine aH ?_|((with_reducible refine Go.bool ?_ ?_) <;> intro hc <;> (try simp only [List.length_map,ne_eq,hcs] at hc) <;> try (exfalso;omega)))
 exact ⟨⟨nx + 11,d3,_,rfl,aNx,aNx,aRow,fun y hy => Eq.trans aSkip (hk4 y hy)⟩⟩
theorem uses_bad (u:UnitS) (hu:u.Wf) (hr:¬ RightU u):Pure Tryz.prog 99 [u.av] (fun r => r = .tup [.sc (.map none),i64 60]):=by
 have hak:=asked_pure u hu
 rw [if_neg (mt rightB_iff.1 hr)] at hak
 refine Go.pureL lf99 rfl ?_
 repeat' (first|((with_reducible refine Go.red ?_);conv => whnf)|refine aG ?_|exact aCn|with_reducible refine Go.and ?_ ?_|((with_reducible refine Ask.mk ?_);first|exact aAsk|exact aAsk2|(intro h;simp_all [UnitS.cells] <;> fail)|(simp_all [UnitS.cells] <;> fail))|(apply Go.elem;(·exact aElem))|refine aK (hak) ?_|refine aH ?_|((with_reducible refine Go.bool ?_ ?_) <;> intro hc <;> (try simp only [List.length_map,ne_eq,hcs] at hc) <;> try (exfalso;omega)))
 exact rfl
noncomputable def classTo (u:UnitS) (m:Nat):List ClassV:=(List.range m).map fun (v:Nat) => classT u.locks.length (touchL (accs u u.graphs.length) v)
theorem classTo_next (u:UnitS) (m:Nat):(classTo u (m + 1)).map ClassV.av = (classTo u m).map ClassV.av ++ [(classT u.locks.length (touchL (accs u u.graphs.length) m)).av]:=by
 rw [classTo,List.range_succ,List.map_append,List.map_append];rfl
theorem fit_classes (l:List ClassV):fitL 0 (l.map ClassV.av):=(fitL_map _ _).2 fun _ _ => by simp [fitA,fitL,ClassV.cells]
noncomputable def classesAv (u:UnitS):AV:=.im 3 .any ((classesU u).map ClassV.av)
set_option maxHeartbeats 4000000 in
theorem told_pure (u:UnitS) (hu:u.Wf):Pure Tryz.prog 71 [u.av,.fn (.func 72) [] []] (fun r => r = if rightB u = true then .tup [classesAv u,i64 0] else .tup [.sc (.slice none 0 0),i64 60]):=by
 by_cases hr:RightU u
 ·rw [if_pos (rightB_iff.2 hr)]
  have hfew:=hr.few
  refine pure_of_call ?_ (by simp only [fitA,fitL,classesAv];exact ⟨fit_classes _,trivial,trivial⟩)
  refine Go.fnL lf71 rfl ?_
  repeat' (first|((with_reducible refine Go.red ?_);conv => whnf)|refine aG ?_|exact aCn|with_reducible refine Go.and ?_ ?_|((with_reducible refine Ask.mk ?_);first|exact aAsk|exact aAsk2|(intro h;simp_all [UnitS.cells] <;> fail)|(simp_all [UnitS.cells] <;> fail))|(apply Go.elem;(·exact aElem))|refine aH ?_|((with_reducible refine Go.bool ?_ ?_) <;> intro hc <;> (try simp only [List.length_map,ne_eq,hcs] at hc) <;> try (exfalso;omega)))
  refine Go.callN (uses_call u hu hr _ _) ?_
  rintro _ H1 n1 ⟨m,d1,em,rfl,hm1,hm2,r1,hk1⟩
  have r0:getH H1 0 = some (.row 25 3 .any [u.av]):=(hk1 0 aNx).trans aRow
  have hm0:4 ≤ m:=hm1
  clear hk1
  repeat' (first|((with_reducible refine Go.red ?_);conv => whnf)|refine aG ?_|exact aCn|with_reducible refine Go.and ?_ ?_|((with_reducible refine Ask.mk ?_);first|exact aAsk|exact aAsk2|(intro h;simp_all [UnitS.cells] <;> fail)|(simp_all [UnitS.cells] <;> fail))|(apply Go.elem;(·exact aElem))|refine aH ?_|((with_reducible refine Go.bool ?_ ?_) <;> intro hc <;> (try simp only [List.length_map,ne_eq,hcs] at hc) <;> try (exfalso;omega)))
  simp only [List.length_map]
  have hcl:∀ v,(classTo u v).length = v:=fun v => by simp [classTo]
  refine Go.loopF (fun v:Nat => [(1,.fn (.func 72) [] []),(6,.mp m),(8,.sl (n1 + 12) v),(20,i64 u.shared.length),(21,i64 v)])
   (fun v H n => v ≤ u.shared.length∧n1 + 13 ≤ n∧(∃ d,getH H m = some (.row em 0 d (mapA (mapU (usesE (accs u u.graphs.length))))))∧(∃ d,getH H (n1 + 12) = some (.row 80 3 d ((classTo u v).map ClassV.av)))) (fun v => u.shared.length - v) 0 ⟨_,_,_,Rt.nil 8 80 3 (by omega) rfl,aLess,Nat.zero_le _,aNx,⟨_,aRow⟩,⟨_,aRow⟩⟩ ?_
  clear r1 r0
  rintro v H2 n2 ⟨hv,hn2,⟨d2,r2⟩,⟨d3,r3⟩⟩
  by_cases hvl:v < u.shared.length
  ·have eg:=getU (usesE (accs u u.graphs.length)) (v:Int)
   have hce:=class_eq hr (v:Int)
   have hsm:SmallE (usesE (accs u u.graphs.length)):=small_uses fun x hx => by have:=accs_in u _ x hx;omega
   have hml:((classTo u v).map ClassV.av).length = v:=by rw [List.length_map,hcl]
   have hnx:=classTo_next u v
   have hlt:((lookE (usesE (accs u u.graphs.length)) (v:Int)).getD (0,0)).1 < 256∧((lookE (usesE (accs u u.graphs.length)) (v:Int)).getD (0,0)).2 < 65536:=by
    cases h:lookE (usesE (accs u u.graphs.length)) (v:Int) with
    | none => exact ⟨by decide,by decide⟩
    | some p => exact hsm _ _ h
   have hcp:=class_pure _ hlt.1 hlt.2
   rw [hce] at hcp
   repeat' (first|((with_reducible refine Go.red ?_);conv => whnf)|refine aG ?_|exact aCn|with_reducible refine Go.and ?_ ?_|((with_reducible refine Ask.mk ?_);first|exact aAsk|(exact hml)|exact aAsk2)|(apply Go.elem;(·exact aElem))|refine aK (hcp) ?_|(apply Go.givesG (g:=none);(·exact fun _ => eg))|refine aH ?_|((with_reducible refine Go.bool ?_ ?_) <;> intro hc <;> (try simp only [List.length_map,ne_eq,hcs] at hc) <;> try (exfalso;omega)))
   exact ⟨v + 1,by omega,_,_,_,Rt.refl _ _ _,aLess,by omega,aNx,⟨_,aRow⟩,⟨_,by rw [hnx];exact aRow⟩⟩
  ·have:v = u.shared.length:=by omega
   subst this
   repeat' (first|((with_reducible refine Go.red ?_);conv => whnf)|refine aG ?_|exact aC|with_reducible refine Go.and ?_ ?_|(apply Go.elem;(·exact aElem))|refine aH ?_|((with_reducible refine Go.bool ?_ ?_) <;> intro hc <;> (try simp only [List.length_map,ne_eq,hcs] at hc) <;> try (exfalso;omega)))
   refine ⟨?_⟩
   have e1:∀ H,Abs.frz H 6 (.tup [.sl (n1 + 12) u.shared.length,i64 0]) = .tup [Abs.frz H 5 (.sl (n1 + 12) u.shared.length),i64 0]:=fun H => by
    simp only [frz,List.map_cons,List.map_nil]
   refine (e1 _).trans ?_
   rw [frz_sl aRow (by rw [List.length_map,hcl]),frz_same _ (fit_classes _)]
   rfl
 ·rw [if_neg (mt rightB_iff.1 hr)]
  have hub:=uses_bad u hu hr
  refine Go.pureL lf71 rfl ?_
  repeat' (first|((with_reducible refine Go.red ?_);conv => whnf)|refine aG ?_|exact aCn|with_reducible refine Go.and ?_ ?_|((with_reducible refine Ask.mk ?_);first|exact aAsk|exact aAsk2|(intro h;simp_all [UnitS.cells] <;> fail)|(simp_all [UnitS.cells] <;> fail))|(apply Go.elem;(·exact aElem))|refine aK (hub) ?_|refine aH ?_|((with_reducible refine Go.bool ?_ ?_) <;> intro hc <;> (try simp only [List.length_map,ne_eq,hcs] at hc) <;> try (exfalso;omega)))
  exact rfl
theorem classes_pure (u:UnitS) (hu:u.Wf):Pure Tryz.prog 41 [u.av] (fun r => r = if rightB u = true then .tup [classesAv u,i64 0] else .tup [.sc (.slice none 0 0),i64 60]):=by
 have h:=told_pure u hu
 refine Go.pureL lf41 rfl ?_
 by_cases hr:RightU u
 ·rw [if_pos (rightB_iff.2 hr)] at h ⊢
  unfold classesAv at h ⊢
  repeat' (first|((with_reducible refine Go.red ?_);conv => whnf)|refine aG ?_|exact aCn|with_reducible refine Go.and ?_ ?_|((with_reducible refine Ask.mk ?_);first|exact aAsk|exact aAsk2|(intro h;simp_all [UnitS.cells] <;> fail)|(simp_all [UnitS.cells] <;> fail))|(apply Go.elem;(·exact aElem))|refine aK (h) ?_|refine aH ?_|((with_reducible refine Go.bool ?_ ?_) <;> intro hc <;> (try simp only [List.length_map,ne_eq,hcs] at hc) <;> try (exfalso;omega)))
  exact Res.eq (by simp only [fitA,fitL];exact ⟨fit_classes _,trivial,trivial⟩) rfl
 ·rw [if_neg (mt rightB_iff.1 hr)] at h ⊢
  repeat' (first|((with_reducible refine Go.red ?_);conv => whnf)|refine aG ?_|exact aCn|with_reducible refine Go.and ?_ ?_|((with_reducible refine Ask.mk ?_);first|exact aAsk|exact aAsk2|(intro h;simp_all [UnitS.cells] <;> fail)|(simp_all [UnitS.cells] <;> fail))|(apply Go.elem;(·exact aElem))|refine aK (h) ?_|refine aH ?_|((with_reducible refine Go.bool ?_ ?_) <;> intro hc <;> (try simp only [List.length_map,ne_eq,hcs] at hc) <;> try (exfalso;omega)))
  exact rfl
end Go.Proofs.YtmonponfppdgfaaGreatDoor
end
section
/- What kinds of nodes do: the walk. -/
namespace Go.Proofs.YtmonponfppdgfaaGreatDoor
open Go Go.Abs Go.Proofs
set_option linter.unusedSimpArgs false
set_option linter.unusedVariables false
def loadsB (n:Node):Bool:=decide (n.kind = 2 ∨ n.kind = 4)
def manAv (n:Node):AV:=.agg [bl (usesA n.kind),bl (decide (n.kind = 1) && operTwo n.op),bl (setsB n),bl (loadsB n)]
set_option maxRecDepth 100000 in
theorem manner_pure (n:Node) (ho:0 ≤ n.op) (h:1 ≤ n.kind∧n.kind < 10) (hop:(n.kind = 1→n.op < 19)∧(n.kind ≠ 1→n.op = 0)):Pure Tryz.prog 66 [n.av] (fun r => r = manAv n):=by
 obtain ⟨h0,h1⟩:=h
 obtain ⟨kind,op,slot,thing,a,b,next,els,origin⟩:=n
 simp only at h0 h1 ho hop
 by_cases hk1:kind = 1
 ·subst hk1
  have h19:=hop.1 rfl
  have hk:op = 0 ∨ op = 1 ∨ op = 2 ∨ op = 3 ∨ op = 4 ∨ op = 5 ∨ op = 6 ∨ op = 7 ∨ op = 8 ∨ op = 9 ∨ op = 10 ∨ op = 11 ∨ op = 12 ∨ op = 13 ∨ op = 14 ∨ op = 15 ∨ op = 16 ∨ op = 17 ∨ op = 18:=by omega
  rcases hk with rfl|rfl|rfl|rfl|rfl|rfl|rfl|rfl|rfl|rfl|rfl|rfl|rfl|rfl|rfl|rfl|rfl|rfl|rfl
  all_goals exact run_pure2 (by simp [fitA,fitL,manAv]) (by kernel_rfl)
 ·have hk:kind = 2 ∨ kind = 3 ∨ kind = 4 ∨ kind = 5 ∨ kind = 6 ∨ kind = 7 ∨ kind = 8 ∨ kind = 9:=by omega
  have h2:=hop.2 hk1
  subst h2
  rcases hk with rfl|rfl|rfl|rfl|rfl|rfl|rfl|rfl
  all_goals exact run_pure2 (by simp [fitA,fitL,manAv]) (by kernel_rfl)
theorem dreads_pure (n:Node) (ho:0 ≤ n.op) (h:1 ≤ n.kind∧n.kind < 10) (hop:(n.kind = 1→n.op < 19)∧(n.kind ≠ 1→n.op = 0)) (s:Nat):Pure Tryz.prog 64 [n.av,i64 s] (fun r => r = bl (readsB n s)):=by
 have hm:=manner_pure n ho h hop
 unfold manAv at hm
 refine Go.pureL lf64 rfl ?_
 repeat' (first|((with_reducible refine Go.red ?_);conv => whnf)|refine aG ?_|exact aCn|with_reducible refine Go.and ?_ ?_|((with_reducible refine Ask.mk ?_);first|exact aAsk|(intro h1 h2;rw [h1,h2];rfl)|exact aAsk2|(intro h;simp_all [Node.cells] <;> fail)|(simp_all [Node.cells] <;> fail))|(apply Go.elem;(·exact aElem))|refine aK (hm) ?_|refine aH ?_|((with_reducible refine Go.bool ?_ ?_) <;> intro hc <;> (try simp only [List.length_map,ne_eq,hcs] at hc) <;> try (exfalso;omega)))
 refine bl_eq ?_
 unfold readsB
 rw [show decide (n.kind = 1 ∨ n.kind = 3 ∨ n.kind = 4 ∨ n.kind = 7 ∨ n.kind = 8) = usesA n.kind from rfl]
 cases usesA n.kind <;> cases n.a.isSlot <;> cases (decide (n.kind = 1) && operTwo n.op) <;> cases n.b.isSlot <;> simp
theorem live1_pure (n:Node) (ho:0 ≤ n.op) (h:1 ≤ n.kind∧n.kind < 10) (hop:(n.kind = 1→n.op < 19)∧(n.kind ≠ 1→n.op = 0)) (s:Nat):Pure Tryz.prog 65 [n.av,i64 s] (fun r => r = bl (keepsB n s)):=by
 have hm:=manner_pure n ho h hop
 unfold manAv at hm
 refine Go.pureL lf65 rfl ?_
 repeat' (first|((with_reducible refine Go.red ?_);conv => whnf)|refine aG ?_|exact aCn|with_reducible refine Go.and ?_ ?_|((with_reducible refine Ask.mk ?_);first|exact aAsk|(intro h1 h2;rw [h1,h2];rfl)|exact aAsk2|(intro h;simp_all [Node.cells] <;> fail)|(simp_all [Node.cells] <;> fail))|(apply Go.elem;(·exact aElem))|refine aK (hm) ?_|refine aH ?_|((with_reducible refine Go.bool ?_ ?_) <;> intro hc <;> (try simp only [List.length_map,ne_eq,hcs] at hc) <;> try (exfalso;omega)))
 refine bl_eq ?_
 unfold keepsB
 cases setsB n <;> simp
noncomputable def lookCells (g:Graph) (t:Nat) (cls:List ClassV):List AV:=[st g.name,i64 g.locals,i64 g.slots,nodesAv g.nodes,i64 t,.im 3 .any (cls.map ClassV.av),.im 1 .any ((reachL g (-1)).map bl)]
noncomputable abbrev lookX (g:Graph) (t:Nat) (cls:List ClassV):AV:=.ip 7 .any [.agg (lookCells g t cls)] 0 0
theorem class_at {l:List ClassV} {v:Int} (h:v.toNat < l.length) (d:AV):(l.map ClassV.av).getD v.toNat d = (l.getD v.toNat default).av:=getD_av ClassV.av l _ d h
theorem own_pure (g:Graph) (t:Nat) (cls:List ClassV) (v:Nat) (hv:v < cls.length):Pure Tryz.prog 44 [lookX g t cls,i64 v] (fun r => r = bl (ownB cls t v)):=by
 have ec:=fun d => class_at (l:=cls) (v:=(v:Int)) (by rw [Int.toNat_natCast];exact hv) d
 refine Go.pureL lf44 rfl ?_
 repeat' (first|((with_reducible refine Go.red ?_);conv => whnf)|refine aG ?_|exact aCn|with_reducible refine Go.and ?_ ?_|((with_reducible refine Ask.mk ?_);first|exact aAsk|exact aAsk2|(intro h;simp_all [lookCells,ClassV.cells] <;> fail)|(simp_all [lookCells,ClassV.cells] <;> fail))|(apply Go.elem;(·(first|exact ec _|exact aElem)))|refine aH ?_|((with_reducible refine Go.bool ?_ ?_) <;> intro hc <;> (try simp only [List.length_map,ne_eq,hcs] at hc) <;> try (exfalso;omega)))
 rw [Int.toNat_natCast]
 refine bl_eq ?_
 unfold ownB
 cases decide ((cls.getD v default).kind = 1) <;> simp
end Go.Proofs.YtmonponfppdgfaaGreatDoor
end
