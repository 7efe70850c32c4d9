import Derived.Test.YtmonponfppdgfaaGreatDoorM28
section
/- What is behind a node: the walk. -/
namespace Go.Proofs.YtmonponfppdgfaaGreatDoor
open Go Go.Abs Go.Proofs
set_option linter.unusedSimpArgs false
set_option linter.unusedVariables false
theorem imB_at {T:Tab} {i:Int} (h:i.toNat < T.length) (d:AV):(T.map imB).getD i.toNat d = .im 1 .any ((T.getD i.toNat []).map bl):=getD_av imB T _ d h
theorem bl_at {l:List Bool} {k:Nat} (h:k < l.length) (d:AV):(l.map bl).getD ((k:Int)).toNat d = bl (l.getD k false):=by
 rw [Int.toNat_natCast];exact getD_av bl l k d h
theorem behind1_look {T:Tab} {m n:Nat} (hT:Shape T m n) (to:Int) (h0:0 ≤ to) (h1:to.toNat < m) (k:Nat) (hk:k < n) (b1 b2:Nat) (H:Hp) (nx:Nat) (e1 e2:TypeId) (d1 d2:AV) (hb1:getH H b1 = some (.row e1 1 d1 [.im 1 .any (T.map imB)])) (hb2:getH H b2 = some (.row e2 1 d2 [i64 k])) (hn1:b1 < nx) (hn2:b2 < nx) :
 Look Tryz.prog 77 [i64 to,.pt b1 1 0 0,.pt b2 1 0 0] H nx (bl (tget T to.toNat k)):=by
 have eT:=fun d => imB_at (T:=T) (i:=to) (by rw [hT.len];exact h1) d
 have ek:=fun d => bl_at (l:=T.getD to.toNat []) (k:=k) (by rw [hT.row _ h1];exact hk) d
 have hl1:(T.map imB).length = m:=by rw [List.length_map,hT.len]
 have hl2:((T.getD to.toNat []).map bl).length = n:=by rw [List.length_map,hT.row _ h1]
 refine Go.lookAtL lf77 rfl ?_
 repeat' (first|((with_reducible refine Go.red ?_);conv => whnf)|refine aG ?_|exact aCn|with_reducible refine Go.and ?_ ?_|((with_reducible refine Ask.mk ?_);first|exact aAsk|(exact hl1)|(exact hl2)|exact aAsk2)|(apply Go.elem;(·(first|exact eT _|exact ek _|exact aElem)))|refine aH ?_|((with_reducible refine Go.bool ?_ ?_) <;> intro hc <;> (try simp only [List.length_map,ne_eq,hcs] at hc) <;> try (exfalso;omega)))
 exact ResN.look rfl aKeep
def fstYes (p:Int→Bool):List Int→Nat→Int
 | [],_ => -1
 | x :: r,i => if p x = true then (i:Int) else fstYes p r (i + 1)
theorem fstYes_drop (p:Int→Bool) (l:List Int) {i:Nat} (h:i < l.length):fstYes p (l.drop i) i = if p (l.getD i 0) = true then (i:Int) else fstYes p (l.drop (i + 1)) (i + 1):=by
 rw [List.drop_eq_getElem_cons h,fstYes,gd h]
theorem fstYes_any (p:Int→Bool):∀ (l:List Int) (i:Nat),decide (0 ≤ fstYes p l i) = l.any p
 | [],i => by simp [fstYes]
 | x :: r,i => by
  rw [fstYes]
  by_cases h:p x = true
  ·rw [if_pos h];simp [h]
  ·rw [if_neg h,fstYes_any p r];simp [h]
theorem index_look {T:Tab} {m n:Nat} (hT:Shape T m n) (l:List Int) (hl2:l.length ≤ 2) (hl:∀ to ∈ l,0 ≤ to∧to.toNat < m) (k:Nat) (hk:k < n) (b1 b2:Nat) (H:Hp) (nx:Nat) (e1 e2:TypeId) (d1 d2:AV) (hb1:getH H b1 = some (.row e1 1 d1 [.im 1 .any (T.map imB)])) (hb2:getH H b2 = some (.row e2 1 d2 [i64 k])) (hn1:b1 < nx) (hn2:b2 < nx) :
 Look Tryz.prog 101 [.im 1 .any (l.map i64),.fn (.func 77) [] [.pt b1 1 0 0,.pt b2 1 0 0]] H nx (i64 (fstYes (fun j => tget T j.toNat k) l 0)):=by
 refine Go.lookAtL lf101 rfl ?_
 repeat' (first|((with_reducible refine Go.red ?_);conv => whnf)|refine aG ?_|exact aC|with_reducible refine Go.and ?_ ?_|(apply Go.elem;(·exact aElem))|refine aH ?_|((with_reducible refine Go.bool ?_ ?_) <;> intro hc <;> (try simp only [List.length_map,ne_eq,hcs] at hc) <;> try (exfalso;omega)))
 simp only [List.length_map]
 refine Go.loop (fun i:Nat => [(0,.im 1 .any (l.map i64)),(1,.fn (.func 77) [] [.pt b1 1 0 0,.pt b2 1 0 0]),(7,i64 l.length),(8,i64 i)])
  (fun i H' n' => i ≤ l.length∧nx ≤ n'∧(∀ y,y < nx→getH H' y = getH H y)∧fstYes (fun j => tget T j.toNat k) (l.drop i) i = fstYes (fun j => tget T j.toNat k) l 0) (fun i => l.length - i) 0 aLess ⟨Nat.zero_le _,aNx,fun y hy => aSkip,rfl⟩ ?_
 rintro i H1 n1 ⟨hi,hn,hk1,hf⟩
 by_cases hil:i < l.length
 ·obtain ⟨t0,t1⟩:=hl _ (getD_mem' 0 hil)
  have e:=fun d => int_at hil d
  rw [fstYes_drop _ _ hil] at hf
  have g1:=(hk1 b1 hn1).trans hb1
  have g2:=(hk1 b2 hn2).trans hb2
  cases ht:tget T (l.getD i 0).toNat k with
  | true =>
   rw [if_pos ht] at hf
   repeat' (first|((with_reducible refine Go.red ?_);conv => whnf)|refine aG ?_|exact aC|with_reducible refine Go.and ?_ ?_|(apply Go.elem;(·(first|exact e _|exact aElem)))|((refine Go.lookW ((ht ▸ behind1_look hT (l.getD i 0) t0 t1 k hk b1 b2 _ _ e1 e2 d1 d2 (by exact aRow) (by exact aRow) aNx aNx)) ?_ ?_);(·exact True.intro))|((refine Go.lookJ (fun _ => (ht ▸ behind1_look hT (l.getD i 0) t0 t1 k hk b1 b2 _ _ e1 e2 d1 d2 (by exact aRow) (by exact aRow) aNx aNx)) ?_ ?_);(·exact True.intro))|refine aH ?_|((with_reducible refine Go.bool ?_ ?_) <;> intro hc <;> (try simp only [List.length_map,ne_eq,hcs] at hc) <;> try (exfalso;omega)))
   exact ResN.look (by rw [← hf]) (fun y hy => Eq.trans aSkip (hk1 y hy))
  | false =>
   rw [if_neg (by rw [ht];decide)] at hf
   repeat' (first|((with_reducible refine Go.red ?_);conv => whnf)|refine aG ?_|exact aC|with_reducible refine Go.and ?_ ?_|(apply Go.elem;(·(first|exact e _|exact aElem)))|((refine Go.lookW ((ht ▸ behind1_look hT (l.getD i 0) t0 t1 k hk b1 b2 _ _ e1 e2 d1 d2 (by exact aRow) (by exact aRow) aNx aNx)) ?_ ?_);(·exact True.intro))|((refine Go.lookJ (fun _ => (ht ▸ behind1_look hT (l.getD i 0) t0 t1 k hk b1 b2 _ _ e1 e2 d1 d2 (by exact aRow) (by exact aRow) aNx aNx)) ?_ ?_);(·exact True.intro))|refine aH ?_|((with_reducible refine Go.bool ?_ ?_) <;> intro hc <;> (try simp only [List.length_map,ne_eq,hcs] at hc) <;> try (exfalso;omega)))
   exact ⟨i + 1,by omega,aLess,by omega,by omega,fun y hy => Eq.trans aSkip (hk1 y hy),hf⟩
 ·have:i = l.length:=by omega
  subst this
  rw [List.drop_eq_nil_of_le (Nat.le_refl _),fstYes] at hf
  repeat' (first|((with_reducible refine Go.red ?_);conv => whnf)|refine aG ?_|exact aC|with_reducible refine Go.and ?_ ?_|(apply Go.elem;(·exact aElem))|refine aH ?_|((with_reducible refine Go.bool ?_ ?_) <;> intro hc <;> (try simp only [List.length_map,ne_eq,hcs] at hc) <;> try (exfalso;omega)))
  exact ResN.look (by rw [← hf]) (fun y hy => Eq.trans aSkip (hk1 y hy))
theorem contains_look {T:Tab} {m n:Nat} (hT:Shape T m n) (l:List Int) (hl2:l.length ≤ 2) (hl:∀ to ∈ l,0 ≤ to∧to.toNat < m) (k:Nat) (hk:k < n) (b1 b2:Nat) (H:Hp) (nx:Nat) (e1 e2:TypeId) (d1 d2:AV) (hb1:getH H b1 = some (.row e1 1 d1 [.im 1 .any (T.map imB)])) (hb2:getH H b2 = some (.row e2 1 d2 [i64 k])) (hn1:b1 < nx) (hn2:b2 < nx) :
 Look Tryz.prog 75 [.im 1 .any (l.map i64),.fn (.func 77) [] [.pt b1 1 0 0,.pt b2 1 0 0]] H nx (bl (l.any fun j => tget T j.toNat k)):=by
 refine Go.lookAtL lf75 rfl ?_
 repeat' (first|((with_reducible refine Go.red ?_);conv => whnf)|refine aG ?_|exact aC|with_reducible refine Go.and ?_ ?_|(apply Go.elem;(·exact aElem))|((refine Go.lookW (index_look hT l hl2 hl k hk b1 b2 _ _ e1 e2 d1 d2 (by exact aRow) (by exact aRow) aNx aNx) ?_ ?_);(·exact True.intro))|((refine Go.lookJ (fun _ => index_look hT l hl2 hl k hk b1 b2 _ _ e1 e2 d1 d2 (by exact aRow) (by exact aRow) aNx aNx) ?_ ?_);(·exact True.intro))|refine aH ?_|((with_reducible refine Go.bool ?_ ?_) <;> intro hc <;> (try simp only [List.length_map,ne_eq,hcs] at hc) <;> try (exfalso;omega)))
 refine ResN.look ?_ aKeep
 exact bl_eq (fstYes_any _ _ _)
theorem behind_pure {T:Tab} {m n:Nat} (hT:Shape T m n) (nd:Node) (hl:∀ to ∈ nd.fol,0 ≤ to∧to.toNat < m) (k:Nat) (hk:k < n):Pure Tryz.prog 43 [.im 1 .any (T.map imB),nd.av,i64 k] (fun r => r = bl (behB T nd k)):=by
 have hf:=dfollows_pure nd
 unfold imF at hf
 refine Go.pureL lf43 rfl ?_
 repeat' (first|((with_reducible refine Go.red ?_);conv => whnf)|refine aG ?_|exact aCn|with_reducible refine Go.and ?_ ?_|((with_reducible refine Ask.mk ?_);first|exact aAsk|exact aAsk2|(intro h;simp_all [Node.cells] <;> fail)|(simp_all [Node.cells] <;> fail))|(apply Go.elem;(·exact aElem))|refine aK (hf) ?_|((refine Go.lookW (contains_look hT nd.fold (fold_len nd) (fun to h => hl to (mem_fold.1 h)) k hk _ _ _ _ _ _ _ _ (by exact aRow) (by exact aRow) aNx aNx) ?_ ?_);(·exact True.intro))|((refine Go.lookJ (fun _ => contains_look hT nd.fold (fold_len nd) (fun to h => hl to (mem_fold.1 h)) k hk _ _ _ _ _ _ _ _ (by exact aRow) (by exact aRow) aNx aNx) ?_ ?_);(·exact True.intro))|refine aH ?_|((with_reducible refine Go.bool ?_ ?_) <;> intro hc <;> (try simp only [List.length_map,ne_eq,hcs] at hc) <;> try (exfalso;omega)))
 exact bl_eq (any_fold _ _)
end Go.Proofs.YtmonponfppdgfaaGreatDoor
end
section
/- Tables in rows of rows; how they grow: the walk. -/
namespace Go.Proofs.YtmonponfppdgfaaGreatDoor
open Go Go.Abs Go.Proofs
set_option linter.unusedSimpArgs false
set_option linter.unusedVariables false
def tabS (T:Tab):List (List AV):=T.map fun l => l.map bl
abbrev TAt (b:Nat) (ids:List Nat) (T:Tab) (H:Hp):Prop:=QAt 26 4 1 b ids (tabS T) H
theorem tabS_len (T:Tab):(tabS T).length = T.length:=by simp [tabS]
theorem tabS_get {T:Tab} {i:Nat} (h:i < T.length):(tabS T).getD i [] = (T.getD i []).map bl:=by simp [tabS,List.getD,h]
theorem tab_frz {b:Nat} {ids:List Nat} {T:Tab} {H:Hp} (h:TAt b ids T H) (k:Nat):Abs.frz H (k + 2) (.sl b T.length) = .im 1 .any (T.map imB):=by
 obtain ⟨d,h1⟩:=h.row
 rw [frz_sl h1 (by rw [h.len,tabS_len])]
 congr 1
 apply List.ext_getElem
 ·rw [List.length_map,h.len,tabS_len,List.length_map]
 ·intro i h2 h3
  have hi:i < T.length:=by simpa using h3
  have hi2:i < (tabS T).length:=by rw [tabS_len];exact hi
  rw [List.getElem_map,List.getElem_map]
  have e1:(qRow ids (tabS T))[i]'(by rw [h.len];exact hi2) = .sl (ids.getD i 0) ((tabS T).getD i []).length:=by
   rw [← h.get hi2 .any];exact (gd _ _).symm
  rw [e1,tabS_get hi]
  obtain ⟨d2,h4⟩:=h.qs i hi2
  rw [tabS_get hi] at h4
  rw [frz_sl h4 rfl,frz_same _ (fit_bools _ _),gd hi]
  rfl
theorem behind_look {b:Nat} {ids:List Nat} {T:Tab} {H:Hp} {m n:Nat} (h:TAt b ids T H) (hT:Shape T m n) (nd:Node) (hl:∀ to ∈ nd.fol,0 ≤ to∧to.toNat < m) (k:Nat) (hk:k < n) (nx:Nat):Look Tryz.prog 43 [.sl b m,nd.av,i64 k] H nx (bl (behB T nd k)):=by
 refine Pure.view (args2:=[.im 1 .any (T.map imB),nd.av,i64 k]) (behind_pure hT nd hl k hk) ?_ ?_ trivial ⟨rfl,fun _ _ => rfl⟩
 ·rw [List.map_cons,List.map_cons,List.map_cons,List.map_nil,← hT.len,tab_frz h,frz_fit 6 (by simp [fitA]),frz_fit 6 (by simp [fitA])]
 ·have:fitL 0 (T.map imB):=(fitL_map _ _).2 fun _ _ => by simp [imB,fitA,fitL_map]
  simp only [fitL,fitA]
  exact ⟨this,fit_node _ _,trivial,trivial⟩
theorem qRow_len {ids:List Nat} {S S2:List (List AV)} (h:S.map List.length = S2.map List.length):qRow ids S = qRow ids S2:=by
 have:∀ (ids:List Nat) (S:List (List AV)),qRow ids S = List.zipWith (fun x n => AV.sl x n) ids (S.map List.length):=by
  intro ids S
  simp [qRow,List.zipWith_map_right]
 rw [this,this,h]
theorem tset_len {T:Tab} {i k:Nat}:(tset T i k).map List.length = T.map List.length:=by
 apply List.ext_getElem
 ·simp [tset]
 ·intro j h1 h2
  have hj:j < T.length:=by simpa using h2
  simp only [List.getElem_map,tset,List.getElem_set]
  split
  ·rename_i e;subst e;rw [List.length_set,gd hj]
  ·rfl
theorem tabS_map (T:Tab):(tabS T).map List.length = T.map List.length:=by simp [tabS,Function.comp_def]
theorem TAt.set {b:Nat} {ids:List Nat} {T:Tab} {H H':Hp} (h:TAt b ids T H) {i:Nat} (hi:i < T.length) (k:Nat) (h1:getH H' b = getH H b)
 (h2:∃ d,getH H' (ids.getD i 0) = some (.row 4 1 d (((T.getD i []).map bl).set k (bl true)))) (h3:∀ x ∈ ids,x ≠ ids.getD i 0→getH H' x = getH H x):TAt b ids (tset T i k) H':=by
 have el:(tset T i k).length = T.length:=by simp [tset]
 have hl:ids.length = T.length:=by rw [h.lens,tabS_len]
 refine ⟨?_,fun j hj => ?_,by rw [hl,tabS_len,el],h.nodup⟩
 ·obtain ⟨d,hr⟩:=h.row
  exact ⟨d,(h1.trans hr).trans (by rw [show qRow ids (tabS (tset T i k)) = qRow ids (tabS T) from qRow_len (by rw [tabS_map,tabS_map,tset_len])])⟩
 ·rw [tabS_len,el] at hj
  have hjS:j < (tabS T).length:=by rw [tabS_len];exact hj
  rw [tabS_get (by rw [el];exact hj)]
  unfold tset
  rw [getD_set_eq]
  by_cases e:i = j
  ·subst e
   rw [if_pos ⟨rfl,hi⟩]
   obtain ⟨d,h4⟩:=h2
   exact ⟨d,by rw [h4,bool_set]⟩
  ·rw [if_neg (fun h => e h.1)]
   obtain ⟨d,h4⟩:=h.qs j hjS
   rw [tabS_get hj] at h4
   exact ⟨d,(h3 _ (getD_mem (by rw [hl];exact hj)) (h.other (by rw [tabS_len];exact hi) hjS (Ne.symm e))).trans h4⟩
structure QPre (b:Nat) (ids:List Nat) (m n:Nat) (H:Hp) (nx:Nat):Prop where
 row:∃ d,getH H b = some (.row 26 1 d (ids.map (fun x => AV.sl x n) ++ List.replicate (m - ids.length) (.sc (.slice none 0 0))))
 each:∀ x ∈ ids,∃ d,getH H x = some (.row 4 1 d (List.replicate n (bl false)))
 lt:∀ x ∈ ids,b < x∧x < nx
 nodup:ids.Nodup
theorem QPre.fin {b:Nat} {ids:List Nat} {m n:Nat} {H:Hp} {nx:Nat} (h:QPre b ids m n H nx) (hl:ids.length = m):TAt b ids (zeros m n) H:=by
 have ez:tabS (zeros m n) = List.replicate m (List.replicate n (bl false)):=by simp [tabS,zeros]
 refine ⟨?_,fun i hi => ?_,by rw [ez,List.length_replicate,hl],List.nodup_cons.2 ⟨fun hm => by have:=(h.lt b hm).1;omega,h.nodup⟩⟩
 ·obtain ⟨d,h1⟩:=h.row
  refine ⟨d,?_⟩
  rw [h1,ez,hl,Nat.sub_self,List.replicate_zero,List.append_nil]
  congr 3
  apply List.ext_getElem
  ·simp [qRow,hl]
  ·intro i h2 h3;simp [qRow]
 ·rw [ez] at hi ⊢
  rw [List.length_replicate] at hi
  have e1:(List.replicate m (List.replicate n (bl false))).getD i [] = List.replicate n (bl false):=by simp [List.getD,List.getElem?_replicate,hi]
  rw [e1]
  exact h.each _ (getD_mem (by rw [hl];exact hi))
theorem pre_set {ids:List Nat} {m n x:Nat} (h:ids.length < m):(ids.map (fun x => AV.sl x n) ++ List.replicate (m - ids.length) (AV.sc (.slice none 0 0))).set ids.length (.sl x n) = (ids ++ [x]).map (fun x => AV.sl x n) ++ List.replicate (m - (ids ++ [x]).length) (AV.sc (.slice none 0 0)):=by
 rw [List.set_append,if_neg (by simp),List.length_map,Nat.sub_self,show m - ids.length = (m - (ids ++ [x]).length) + 1 by simp;omega,List.replicate_succ]
 simp
theorem pre_len {ids:List Nat} {m n:Nat} (h:ids.length ≤ m):(ids.map (fun x => AV.sl x n) ++ List.replicate (m - ids.length) (AV.sc (.slice none 0 0))).length = m:=by simp;omega
theorem pre_get {ids:List Nat} {m n:Nat} (h:ids.length < m) (d:AV):(ids.map (fun x => AV.sl x n) ++ List.replicate (m - ids.length) (AV.sc (.slice none 0 0))).getD ids.length d = .sc (.slice none 0 0):=by
 rw [List.getD,List.getElem?_append_right (by simp),List.length_map,Nat.sub_self]
 rw [List.getElem?_replicate,if_pos (by omega)];rfl
structure GrownAt (b:Nat) (T:Tab) (H0:Hp) (nx:Nat) (H:Hp) (n:Nat):Prop where
 at_:∃ ids,TAt b ids T H∧∀ x ∈ b :: ids,nx ≤ x∧x < n
 keep:∀ y,y < nx→getH H y = getH H0 y
 le:nx ≤ n
set_option maxRecDepth 4000 in
set_option maxHeartbeats 8000000 in
theorem grown_call (g:Graph) (hg:g.Wf) (hw:Whole g) (t:Nat) (cls:List ClassV) (N:Nat) (hN:N ≤ 4160) (fb fk:FuncId) (beg keep:Node→Nat→Bool) (H:Hp) (nx:Nat)
 (hbeg:∀ i,i < g.nodes.length→∀ k,k < N→∀ H' nx',nx ≤ nx'→(∀ y,y < nx→getH H' y = getH H y)→Look Tryz.prog fb ((g.nd i).av :: i64 k :: []) H' nx' (bl (beg (g.nd i) k)))
 (hkeep:∀ i,i < g.nodes.length→∀ k,k < N→∀ H' nx',nx ≤ nx'→(∀ y,y < nx→getH H' y = getH H y)→Look Tryz.prog fk ((g.nd i).av :: i64 k :: []) H' nx' (bl (keep (g.nd i) k))) :
 CallN Tryz.prog 63 [lookX g t cls,i64 N,.fn (.func fb) [] [],.fn (.func fk) [] []] H nx (fun r H' n' => r = .sl (nx + 7) g.nodes.length∧GrownAt (nx + 7) (ahdT g beg keep N) H nx H' n'):=by
 have hl:=hg.len
 have hl0:=hw.1
 have hl1:=hw.2.1
 refine Go.fnL lf63 rfl ?_
 repeat' (first|((with_reducible refine Go.red ?_);conv => whnf)|refine aG ?_|exact aCn|with_reducible refine Go.and ?_ ?_|((with_reducible refine Ask.mk ?_);first|exact aAsk|exact aAsk2|(intro h;simp_all [lookCells] <;> fail)|(simp_all [lookCells] <;> fail))|(apply Go.elem;(·exact aElem))|refine aH ?_|((with_reducible refine Go.bool ?_ ?_) <;> intro hc <;> (try simp only [List.length_map,ne_eq,hcs] at hc) <;> try (exfalso;omega)))
 simp only [List.length_map,Int.toNat_natCast]
 refine Go.loop (fun ids:List Nat => [(0,lookX g t cls),(1,i64 N),(2,.fn (.func fb) [] []),(3,.fn (.func fk) [] []),(9,.sl (nx + 7) g.nodes.length),(23,i64 g.nodes.length),(24,i64 ids.length)])
  (fun ids H' n' => ids.length ≤ g.nodes.length∧nx + 12 ≤ n'∧QPre (nx + 7) ids g.nodes.length N H' n'∧∀ y,y < nx→getH H' y = getH H y) (fun ids => g.nodes.length - ids.length) [] aLess ⟨Nat.zero_le _,aNx,⟨⟨_,aRow⟩,fun x h => by simp at h,fun x h => by simp at h,List.nodup_nil⟩,fun y hy => aSkip⟩ ?_
 rintro ids H1 n1 ⟨hi,hn1,hp,hk1⟩
 by_cases hil:ids.length < g.nodes.length
 ·obtain ⟨d7,r7⟩:=hp.row
  have e1:=fun d => pre_get (m:=g.nodes.length) (n:=N) hil d
  have e2:=pre_len (m:=g.nodes.length) (n:=N) hi
  repeat' (first|((with_reducible refine Go.red ?_);conv => whnf)|refine aG ?_|exact aCn|with_reducible refine Go.and ?_ ?_|((with_reducible refine Ask.mk ?_);first|exact aAsk|(exact e2)|exact aAsk2)|(apply Go.elem;(·(first|exact e1 _|exact aElem)))|refine aH ?_|((with_reducible refine Go.bool ?_ ?_) <;> intro hc <;> (try simp only [List.length_map,ne_eq,hcs] at hc) <;> try (exfalso;omega)))
  have hlt:=hp.lt
  refine ⟨ids ++ [n1 + 6],by simp;omega,aLess,by simp;omega,aNx,⟨⟨_,by rw [← pre_set hil];exact aRow⟩,fun x hx => ?_,fun x hx => ?_,?_⟩,fun y hy => Eq.trans aSkip (hk1 y hy)⟩
  ·rcases List.mem_append.1 hx with hx|hx
   ·obtain ⟨d,h1⟩:=hp.each x hx
    have:=hlt x hx
    exact ⟨d,Eq.trans aSkip h1⟩
   ·simp only [List.mem_cons,List.not_mem_nil,or_false] at hx
    subst hx
    exact ⟨_,aRow⟩
  ·rcases List.mem_append.1 hx with hx|hx
   ·have:=hlt x hx
    exact ⟨this.1,Nat.lt_of_lt_of_le this.2 aNx⟩
   ·simp only [List.mem_cons,List.not_mem_nil,or_false] at hx
    subst hx
    exact ⟨by omega,aNx⟩
  ·refine List.nodup_append.2 ⟨hp.nodup,by simp,fun x hx y hy => ?_⟩
   simp only [List.mem_cons,List.not_mem_nil,or_false] at hy
   have:=(hlt x hx).2
   omega
 ·have hle:ids.length = g.nodes.length:=by omega
  have hfin:=hp.fin hle
  have hlt:=hp.lt
  have hgr:=Grow.start g beg keep N
  repeat' (first|((with_reducible refine Go.red ?_);conv => whnf)|refine aG ?_|exact aC|with_reducible refine Go.and ?_ ?_|(apply Go.elem;(·exact aElem))|refine aH ?_|((with_reducible refine Go.bool ?_ ?_) <;> intro hc <;> (try simp only [List.length_map,ne_eq,hcs] at hc) <;> try (exfalso;omega)))
  have hids:∀ x ∈ (nx + 7) :: ids,nx ≤ x∧x < n1:=fun x hx => by
   rcases List.mem_cons.1 hx with rfl|hx
   ·omega
   ·have:=hlt x hx;omega
  clear hp hlt
  refine Go.loop (fun s:Tab × Bool => [(0,lookX g t cls),(1,i64 N),(2,.fn (.func fb) [] []),(3,.fn (.func fk) [] []),(9,.sl (nx + 7) g.nodes.length),(11,bl s.2)])
   (fun s H' n' => n1 ≤ n'∧TAt (nx + 7) ids s.1 H'∧(∀ y,y < nx→getH H' y = getH H y)∧Grow g beg keep N s.1∧(s.2 = false→∀ i k,i < g.nodes.length→k < N→cellB g beg keep s.1 i k = true→tget s.1 i k = true))
   (fun s => falses s.1 + if s.2 = true then 1 else 0) (zeros g.nodes.length N,true) aLess ⟨aNx,hfin.keep fun x hx => ?_,fun y hy => Eq.trans aSkip (hk1 y hy),hgr,fun h => by cases h⟩ ?_
  ·exact aSkip
  clear hfin hgr hk1
  rintro ⟨T,again⟩ H2 n2 ⟨hn2,hT,hk2,hgr,hcl⟩
  dsimp only at hT hgr hcl ⊢
  cases again with
  | false =>
   have hfin:=hgr.fin hw (hcl rfl)
   repeat' (first|((with_reducible refine Go.red ?_);conv => whnf)|refine aG ?_|exact aC|with_reducible refine Go.and ?_ ?_|(apply Go.elem;(·exact aElem))|refine aH ?_|((with_reducible refine Go.bool ?_ ?_) <;> intro hc <;> (try simp only [List.length_map,ne_eq,hcs] at hc) <;> try (exfalso;omega)))
   refine ⟨rfl,⟨⟨ids,?_,fun x hx => ⟨(hids x hx).1,Nat.lt_of_lt_of_le (hids x hx).2 aNx⟩⟩,fun y hy => Eq.trans aSkip (hk2 y hy),aNx⟩⟩
   rw [← hfin]
   exact hT.keep fun x hx => aSkip
  | true =>
   have hTl:=hgr.shape.len
   have hql:(qRow ids (tabS T)).length = g.nodes.length:=by rw [hT.len,tabS_len,hTl]
   obtain ⟨d7,r7⟩:=hT.row
   repeat' (first|((with_reducible refine Go.red ?_);conv => whnf)|refine aG ?_|exact aCn|with_reducible refine Go.and ?_ ?_|((with_reducible refine Ask.mk ?_);first|exact aAsk|(exact hql)|exact aAsk2)|(apply Go.elem;(·exact aElem))|refine aH ?_|((with_reducible refine Go.bool ?_ ?_) <;> intro hc <;> (try simp only [List.length_map,ne_eq,hcs] at hc) <;> try (exfalso;omega)))
   refine Go.loop (fun s:Tab × Bool × Nat => [(0,lookX g t cls),(1,i64 N),(2,.fn (.func fb) [] []),(3,.fn (.func fk) [] []),(9,.sl (nx + 7) g.nodes.length),(11,bl s.2.1),(12,i64 ((s.2.2:Int) - 1))])
    (fun s H' n' => n1 ≤ n'∧s.2.2 ≤ g.nodes.length∧TAt (nx + 7) ids s.1 H'∧(∀ y,y < nx→getH H' y = getH H y)∧Grow g beg keep N s.1∧(falses s.1 + if s.2.1 = true then 1 else 0) ≤ falses T∧(s.2.1 = false→∀ i k,s.2.2 ≤ i→i < g.nodes.length→k < N→cellB g beg keep s.1 i k = true→tget s.1 i k = true))
    (fun s => s.2.2) (T,false,g.nodes.length) aLess ⟨aNx,Nat.le_refl _,hT.keep fun x hx => ?_,fun y hy => Eq.trans aSkip (hk2 y hy),hgr,by simp,fun _ i k h1 h2 => absurd h1 (by dsimp only;omega)⟩ ?_
   ·exact aSkip
   clear hT hk2 hgr hcl r7 hql
   rintro ⟨T2,ag,j⟩ H3 n3 ⟨hn3,hj,hT,hk3,hgr,hfa,hcl⟩
   dsimp only at hj hT hgr hfa hcl ⊢
   have hT2l:=hgr.shape.len
   cases j with
   | zero =>
    repeat' (first|((with_reducible refine Go.red ?_);conv => whnf)|refine aG ?_|exact aC|with_reducible refine Go.and ?_ ?_|(apply Go.elem;(·exact aElem))|refine aH ?_|((with_reducible refine Go.bool ?_ ?_) <;> intro hc <;> (try simp only [List.length_map,ne_eq,hcs] at hc) <;> try (exfalso;omega)))
    exact ⟨(T2,ag),by dsimp only;rw [if_pos rfl];omega,aLess,aNx,hT.keep fun x hx => aSkip,fun y hy => Eq.trans aSkip (hk3 y hy),hgr,fun h i k h1 h2 => hcl h i k (Nat.zero_le _) h1 h2⟩
   | succ i =>
    have hi:i < g.nodes.length:=by omega
    have ei:((i + 1:Nat):Int) - 1 = (i:Int):=by omega
    have en:=fun d => nd_at hi d
    rw [ei]
    repeat' (first|((with_reducible refine Go.red ?_);conv => whnf)|refine aG ?_|exact aCn|with_reducible refine Go.and ?_ ?_|((with_reducible refine Ask.mk ?_);first|exact aAsk|exact aAsk2|(intro h;simp_all [Node.cells,lookCells] <;> fail)|(simp_all [Node.cells,lookCells] <;> fail))|(apply Go.elem;(·(first|exact en _|exact aElem)))|refine aH ?_|((with_reducible refine Go.bool ?_ ?_) <;> intro hc <;> (try simp only [List.length_map,ne_eq,hcs] at hc) <;> try (exfalso;omega)))
    refine Go.loop (fun s:Tab × Bool × Nat => [(0,lookX g t cls),(1,i64 N),(2,.fn (.func fb) [] []),(3,.fn (.func fk) [] []),(9,.sl (nx + 7) g.nodes.length),(11,bl s.2.1),(12,i64 (i:Int)),(13,.pt (n3 + 10) 1 0 0),(49,i64 N),(50,i64 s.2.2)])
     (fun s H' n' => n3 + 11 ≤ n'∧s.2.2 ≤ N∧(∃ d,getH H' (n3 + 10) = some (.row 46 13 d [(g.nd i).av]))∧TAt (nx + 7) ids s.1 H'∧(∀ y,y < nx→getH H' y = getH H y)∧Grow g beg keep N s.1∧(falses s.1 + if s.2.1 = true then 1 else 0) ≤ falses T∧(s.2.1 = false→∀ i' k,i ≤ i'→i' < g.nodes.length→k < N→(i' = i→k < s.2.2)→cellB g beg keep s.1 i' k = true→tget s.1 i' k = true))
     (fun s => N - s.2.2) (T2,ag,0) aLess ⟨aNx,Nat.zero_le _,⟨_,aRow⟩,hT.keep fun x hx => ?_,fun y hy => Eq.trans aSkip (hk3 y hy),hgr,hfa,fun h i' k h1 h2 h3 h4 => hcl h i' k (Classical.byContradiction fun hx => Nat.not_lt_zero _ (h4 (by omega))) h2 h3⟩ ?_
    ·have:=hids x hx;exact aSkip
    clear hT hk3 hgr hfa hcl hT2l
    rintro ⟨T3,ag2,k⟩ H4 n4 ⟨hn4,hk,⟨dn,rn⟩,hT,hk4,hgr,hfa,hcl⟩
    dsimp only at hk hT hgr hfa hcl ⊢
    have hT3l:=hgr.shape.len
    by_cases hkN:k < N
    ·have hiS:i < (tabS T3).length:=by rw [tabS_len,hT3l];exact hi
     have hiT:i < T3.length:=by rw [hT3l];exact hi
     have hql:(qRow ids (tabS T3)).length = g.nodes.length:=by rw [hT.len,tabS_len,hT3l]
     have hrow:=hgr.shape.row i hi
     obtain ⟨d7,r7⟩:=hT.row
     obtain ⟨di,ri⟩:=hT.qs i hiS
     have e1:=fun d => hT.get hiS d
     rw [tabS_get hiT] at ri e1
     rw [List.length_map,hrow] at e1
     have hrl:((T3.getD i []).map bl).length = N:=by rw [List.length_map,hrow]
     have e2:=fun d => bl_at (l:=T3.getD i []) (k:=k) (by rw [hrow];exact hkN) d
     have hfol:=(hw.2.2 i hi).2.2
     have hxi:=hids (ids.getD i 0) (List.mem_cons_of_mem _ (getD_mem (by rw [hle];exact hi)))
     have hne:=hT.ne hiS
     repeat' (first|((with_reducible refine Go.red ?_);conv => whnf)|refine aG ?_|exact aCn|with_reducible refine Go.and ?_ ?_|((with_reducible refine Ask.mk ?_);first|exact aAsk|(exact hql)|(exact hrl)|exact aAsk2)|(apply Go.elem;(·(first|exact e1 _|exact e2 _|exact aElem)))|((refine Go.lookW (hbeg i hi k hkN _ _ aNx (fun y hy => Eq.trans aSkip (hk4 y hy))) ?_ ?_);(·exact True.intro))|((refine Go.lookJ (fun _ => hbeg i hi k hkN _ _ aNx (fun y hy => Eq.trans aSkip (hk4 y hy))) ?_ ?_);(·exact True.intro))|((refine Go.lookW (hkeep i hi k hkN _ _ aNx (fun y hy => Eq.trans aSkip (hk4 y hy))) ?_ ?_);(·exact True.intro))|((refine Go.lookJ (fun _ => hkeep i hi k hkN _ _ aNx (fun y hy => Eq.trans aSkip (hk4 y hy))) ?_ ?_);(·exact True.intro))|((refine Go.lookW (behind_look (hT.keep fun x hx => aSkip) hgr.shape (g.nd i) hfol k hkN _) ?_ ?_);(·exact True.intro))|((refine Go.lookJ (fun _ => behind_look (hT.keep fun x hx => aSkip) hgr.shape (g.nd i) hfol k hkN _) ?_ ?_);(·exact True.intro))|refine aH ?_|((with_reducible refine Go.bool ?_ ?_) <;> intro hc <;> (try simp only [List.length_map,ne_eq,hcs] at hc) <;> try (exfalso;omega)))
     ·refine ⟨(T3,ag2,k + 1),by dsimp only;omega,aLess,by omega,by dsimp only;omega,⟨_,aRow⟩,hT.keep fun x hx => ?_,fun y hy => Eq.trans aSkip (hk4 y hy),hgr,hfa,fun h i' k' a1 a2 a3 a4 a5 => ?_⟩
      ·exact aSkip
      ·by_cases e:i' = i∧k' = k
       ·obtain ⟨rfl,rfl⟩:=e
        unfold cellB at a5
        rcases hc with hc|⟨c1,c2|c2⟩
        ·exact hc
        ·rw [c1,c2] at a5;cases a5
        ·rw [c1,c2,Bool.and_false] at a5;cases a5
       ·refine hcl h i' k' a1 a2 a3 (fun e2 => ?_) a5
        have:=a4 e2
        have:¬ k' = k:=fun e3 => e ⟨e2,e3⟩
        dsimp only at *
        omega
     ·have hf0:tget T3 i k = false:=hc.1
      have hcell:cellB g beg keep T3 i k = true:=by
       unfold cellB
       rcases hc.2 with c1|⟨c1,c2⟩
       ·rw [Bool.not_eq_false] at c1;rw [c1];rfl
       ·rw [c1,c2];simp
      have hfs:=falses_set hgr.shape hi hkN hf0
      refine ⟨(tset T3 i k,true,k + 1),by dsimp only;omega,aLess,by omega,by dsimp only;omega,⟨_,aRow⟩,hT.set hiT k ?_ ⟨_,aRow⟩ (fun x hx hxn => ?_),fun y hy => Eq.trans aSkip (hk4 y hy),hgr.step hi hkN hcell,?_,fun h => by cases h⟩
      ·exact aSkip
      ·exact aSkip
      ·dsimp only
       rw [if_pos rfl]
       omega
    ·have:k = N:=by omega
     subst this
     repeat' (first|((with_reducible refine Go.red ?_);conv => whnf)|refine aG ?_|exact aC|with_reducible refine Go.and ?_ ?_|(apply Go.elem;(·exact aElem))|refine aH ?_|((with_reducible refine Go.bool ?_ ?_) <;> intro hc <;> (try simp only [List.length_map,ne_eq,hcs] at hc) <;> try (exfalso;omega)))
     exact ⟨(T3,ag2,i),by dsimp only;omega,aLess,by omega,by dsimp only;omega,hT.keep fun x hx => aSkip,fun y hy => Eq.trans aSkip (hk4 y hy),hgr,hfa,fun h i' k' a1 a2 a3 a5 => hcl h i' k' a1 a2 a3 (fun _ => a3) a5⟩
set_option maxRecDepth 4000 in
set_option maxHeartbeats 8000000 in
theorem grown_call1 (g:Graph) (hg:g.Wf) (hw:Whole g) (t:Nat) (cls:List ClassV) (N:Nat) (hN:N ≤ 4160) (fb fk:FuncId) (bb:Nat) (beg keep:Node→Nat→Bool) (H:Hp) (nx:Nat)
 (hbeg:∀ i,i < g.nodes.length→∀ k,k < N→∀ H' nx',nx ≤ nx'→(∀ y,y < nx→getH H' y = getH H y)→Look Tryz.prog fb ((g.nd i).av :: i64 k :: [.pt bb 1 0 0]) H' nx' (bl (beg (g.nd i) k)))
 (hkeep:∀ i,i < g.nodes.length→∀ k,k < N→∀ H' nx',nx ≤ nx'→(∀ y,y < nx→getH H' y = getH H y)→Look Tryz.prog fk ((g.nd i).av :: i64 k :: [.pt bb 1 0 0]) H' nx' (bl (keep (g.nd i) k))) :
 CallN Tryz.prog 63 [lookX g t cls,i64 N,.fn (.func fb) [] [.pt bb 1 0 0],.fn (.func fk) [] [.pt bb 1 0 0]] H nx (fun r H' n' => r = .sl (nx + 7) g.nodes.length∧GrownAt (nx + 7) (ahdT g beg keep N) H nx H' n'):=by
 have hl:=hg.len
 have hl0:=hw.1
 have hl1:=hw.2.1
 refine Go.fnL lf63 rfl ?_
 repeat' (first|((with_reducible refine Go.red ?_);conv => whnf)|refine aG ?_|exact aCn|with_reducible refine Go.and ?_ ?_|((with_reducible refine Ask.mk ?_);first|exact aAsk|exact aAsk2|(intro h;simp_all [lookCells] <;> fail)|(simp_all [lookCells] <;> fail))|(apply Go.elem;(·exact aElem))|refine aH ?_|((with_reducible refine Go.bool ?_ ?_) <;> intro hc <;> (try simp only [List.length_map,ne_eq,hcs] at hc) <;> try (exfalso;omega)))
 simp only [List.length_map,Int.toNat_natCast]
 refine Go.loop (fun ids:List Nat => [(0,lookX g t cls),(1,i64 N),(2,.fn (.func fb) [] [.pt bb 1 0 0]),(3,.fn (.func fk) [] [.pt bb 1 0 0]),(9,.sl (nx + 7) g.nodes.length),(23,i64 g.nodes.length),(24,i64 ids.length)])
  (fun ids H' n' => ids.length ≤ g.nodes.length∧nx + 12 ≤ n'∧QPre (nx + 7) ids g.nodes.length N H' n'∧∀ y,y < nx→getH H' y = getH H y) (fun ids => g.nodes.length - ids.length) [] aLess ⟨Nat.zero_le _,aNx,⟨⟨_,aRow⟩,fun x h => by simp at h,fun x h => by simp at h,List.nodup_nil⟩,fun y hy => aSkip⟩ ?_
 rintro ids H1 n1 ⟨hi,hn1,hp,hk1⟩
 by_cases hil:ids.length < g.nodes.length
 ·obtain ⟨d7,r7⟩:=hp.row
  have e1:=fun d => pre_get (m:=g.nodes.length) (n:=N) hil d
  have e2:=pre_len (m:=g.nodes.length) (n:=N) hi
  repeat' (first|((with_reducible refine Go.red ?_);conv => whnf)|refine aG ?_|exact aCn|with_reducible refine Go.and ?_ ?_|((with_reducible refine Ask.mk ?_);first|exact aAsk|(exact e2)|exact aAsk2)|(apply Go.elem;(·(first|exact e1 _|exact aElem)))|refine aH ?_|((with_reducible refine Go.bool ?_ ?_) <;> intro hc <;> (try simp only [List.length_map,ne_eq,hcs] at hc) <;> try (exfalso;omega)))
  have hlt:=hp.lt
  refine ⟨ids ++ [n1 + 6],by simp;omega,aLess,by simp;omega,aNx,⟨⟨_,by rw [← pre_set hil];exact aRow⟩,fun x hx => ?_,fun x hx => ?_,?_⟩,fun y hy => Eq.trans aSkip (hk1 y hy)⟩
  ·rcases List.mem_append.1 hx with hx|hx
   ·obtain ⟨d,h1⟩:=hp.each x hx
    have:=hlt x hx
    exact ⟨d,Eq.trans aSkip h1⟩
   ·simp only [List.mem_cons,List.not_mem_nil,or_false] at hx
    subst hx
    exact ⟨_,aRow⟩
  ·rcases List.mem_append.1 hx with hx|hx
   ·have:=hlt x hx
    exact ⟨this.1,Nat.lt_of_lt_of_le this.2 aNx⟩
   ·simp only [List.mem_cons,List.not_mem_nil,or_false] at hx
    subst hx
    exact ⟨by omega,aNx⟩
  ·refine List.nodup_append.2 ⟨hp.nodup,by simp,fun x hx y hy => ?_⟩
   simp only [List.mem_cons,List.not_mem_nil,or_false] at hy
   have:=(hlt x hx).2
   omega
 ·have hle:ids.length = g.nodes.length:=by omega
  have hfin:=hp.fin hle
  have hlt:=hp.lt
  have hgr:=Grow.start g beg keep N
  repeat' (first|((with_reducible refine Go.red ?_);conv => whnf)|refine aG ?_|exact aC|with_reducible refine Go.and ?_ ?_|(apply Go.elem;(·exact aElem))|refine aH ?_|((with_reducible refine Go.bool ?_ ?_) <;> intro hc <;> (try simp only [List.length_map,ne_eq,hcs] at hc) <;> try (exfalso;omega)))
  have hids:∀ x ∈ (nx + 7) :: ids,nx ≤ x∧x < n1:=fun x hx => by
   rcases List.mem_cons.1 hx with rfl|hx
   ·omega
   ·have:=hlt x hx;omega
  clear hp hlt
  refine Go.loop (fun s:Tab × Bool => [(0,lookX g t cls),(1,i64 N),(2,.fn (.func fb) [] [.pt bb 1 0 0]),(3,.fn (.func fk) [] [.pt bb 1 0 0]),(9,.sl (nx + 7) g.nodes.length),(11,bl s.2)])
   (fun s H' n' => n1 ≤ n'∧TAt (nx + 7) ids s.1 H'∧(∀ y,y < nx→getH H' y = getH H y)∧Grow g beg keep N s.1∧(s.2 = false→∀ i k,i < g.nodes.length→k < N→cellB g beg keep s.1 i k = true→tget s.1 i k = true))
   (fun s => falses s.1 + if s.2 = true then 1 else 0) (zeros g.nodes.length N,true) aLess ⟨aNx,hfin.keep fun x hx => ?_,fun y hy => Eq.trans aSkip (hk1 y hy),hgr,fun h => by cases h⟩ ?_
  ·exact aSkip
  clear hfin hgr hk1
  rintro ⟨T,again⟩ H2 n2 ⟨hn2,hT,hk2,hgr,hcl⟩
  dsimp only at hT hgr hcl ⊢
  cases again with
  | false =>
   have hfin:=hgr.fin hw (hcl rfl)
   repeat' (first|((with_reducible refine Go.red ?_);conv => whnf)|refine aG ?_|exact aC|with_reducible refine Go.and ?_ ?_|(apply Go.elem;(·exact aElem))|refine aH ?_|((with_reducible refine Go.bool ?_ ?_) <;> intro hc <;> (try simp only [List.length_map,ne_eq,hcs] at hc) <;> try (exfalso;omega)))
   refine ⟨rfl,⟨⟨ids,?_,fun x hx => ⟨(hids x hx).1,Nat.lt_of_lt_of_le (hids x hx).2 aNx⟩⟩,fun y hy => Eq.trans aSkip (hk2 y hy),aNx⟩⟩
   rw [← hfin]
   exact hT.keep fun x hx => aSkip
  | true =>
   have hTl:=hgr.shape.len
   have hql:(qRow ids (tabS T)).length = g.nodes.length:=by rw [hT.len,tabS_len,hTl]
   obtain ⟨d7,r7⟩:=hT.row
   repeat' (first|((with_reducible refine Go.red ?_);conv => whnf)|refine aG ?_|exact aCn|with_reducible refine Go.and ?_ ?_|((with_reducible refine Ask.mk ?_);first|exact aAsk|(exact hql)|exact aAsk2)|(apply Go.elem;(·exact aElem))|refine aH ?_|((with_reducible refine Go.bool ?_ ?_) <;> intro hc <;> (try simp only [List.length_map,ne_eq,hcs] at hc) <;> try (exfalso;omega)))
   refine Go.loop (fun s:Tab × Bool × Nat => [(0,lookX g t cls),(1,i64 N),(2,.fn (.func fb) [] [.pt bb 1 0 0]),(3,.fn (.func fk) [] [.pt bb 1 0 0]),(9,.sl (nx + 7) g.nodes.length),(11,bl s.2.1),(12,i64 ((s.2.2:Int) - 1))])
    (fun s H' n' => n1 ≤ n'∧s.2.2 ≤ g.nodes.length∧TAt (nx + 7) ids s.1 H'∧(∀ y,y < nx→getH H' y = getH H y)∧Grow g beg keep N s.1∧(falses s.1 + if s.2.1 = true then 1 else 0) ≤ falses T∧(s.2.1 = false→∀ i k,s.2.2 ≤ i→i < g.nodes.length→k < N→cellB g beg keep s.1 i k = true→tget s.1 i k = true))
    (fun s => s.2.2) (T,false,g.nodes.length) aLess ⟨aNx,Nat.le_refl _,hT.keep fun x hx => ?_,fun y hy => Eq.trans aSkip (hk2 y hy),hgr,by simp,fun _ i k h1 h2 => absurd h1 (by dsimp only;omega)⟩ ?_
   ·exact aSkip
   clear hT hk2 hgr hcl r7 hql
   rintro ⟨T2,ag,j⟩ H3 n3 ⟨hn3,hj,hT,hk3,hgr,hfa,hcl⟩
   dsimp only at hj hT hgr hfa hcl ⊢
   have hT2l:=hgr.shape.len
   cases j with
   | zero =>
    repeat' (first|((with_reducible refine Go.red ?_);conv => whnf)|refine aG ?_|exact aC|with_reducible refine Go.and ?_ ?_|(apply Go.elem;(·exact aElem))|refine aH ?_|((with_reducible refine Go.bool ?_ ?_) <;> intro hc <;> (try simp only [List.length_map,ne_eq,hcs] at hc) <;> try (exfalso;omega)))
    exact ⟨(T2,ag),by dsimp only;rw [if_pos rfl];omega,aLess,aNx,hT.keep fun x hx => aSkip,fun y hy => Eq.trans aSkip (hk3 y hy),hgr,fun h i k h1 h2 => hcl h i k (Nat.zero_le _) h1 h2⟩
   | succ i =>
    have hi:i < g.nodes.length:=by omega
    have ei:((i + 1:Nat):Int) - 1 = (i:Int):=by omega
    have en:=fun d => nd_at hi d
    rw [ei]
    repeat' (first|((with_reducible refine Go.red ?_);conv => whnf)|refine aG ?_|exact aCn|with_reducible refine Go.and ?_ ?_|((with_reducible refine Ask.mk ?_);first|exact aAsk|exact aAsk2|(intro h;simp_all [Node.cells,lookCells] <;> fail)|(simp_all [Node.cells,lookCells] <;> fail))|(apply Go.elem;(·(first|exact en _|exact aElem)))|refine aH ?_|((with_reducible refine Go.bool ?_ ?_) <;> intro hc <;> (try simp only [List.length_map,ne_eq,hcs] at hc) <;> try (exfalso;omega)))
    refine Go.loop (fun s:Tab × Bool × Nat => [(0,lookX g t cls),(1,i64 N),(2,.fn (.func fb) [] [.pt bb 1 0 0]),(3,.fn (.func fk) [] [.pt bb 1 0 0]),(9,.sl (nx + 7) g.nodes.length),(11,bl s.2.1),(12,i64 (i:Int)),(13,.pt (n3 + 10) 1 0 0),(49,i64 N),(50,i64 s.2.2)])
     (fun s H' n' => n3 + 11 ≤ n'∧s.2.2 ≤ N∧(∃ d,getH H' (n3 + 10) = some (.row 46 13 d [(g.nd i).av]))∧TAt (nx + 7) ids s.1 H'∧(∀ y,y < nx→getH H' y = getH H y)∧Grow g beg keep N s.1∧(falses s.1 + if s.2.1 = true then 1 else 0) ≤ falses T∧(s.2.1 = false→∀ i' k,i ≤ i'→i' < g.nodes.length→k < N→(i' = i→k < s.2.2)→cellB g beg keep s.1 i' k = true→tget s.1 i' k = true))
     (fun s => N - s.2.2) (T2,ag,0) aLess ⟨aNx,Nat.zero_le _,⟨_,aRow⟩,hT.keep fun x hx => ?_,fun y hy => Eq.trans aSkip (hk3 y hy),hgr,hfa,fun h i' k h1 h2 h3 h4 => hcl h i' k (Classical.byContradiction fun hx => Nat.not_lt_zero _ (h4 (by omega))) h2 h3⟩ ?_
    ·have:=hids x hx;exact aSkip
    clear hT hk3 hgr hfa hcl hT2l
    rintro ⟨T3,ag2,k⟩ H4 n4 ⟨hn4,hk,⟨dn,rn⟩,hT,hk4,hgr,hfa,hcl⟩
    dsimp only at hk hT hgr hfa hcl ⊢
    have hT3l:=hgr.shape.len
    by_cases hkN:k < N
    ·have hiS:i < (tabS T3).length:=by rw [tabS_len,hT3l];exact hi
     have hiT:i < T3.length:=by rw [hT3l];exact hi
     have hql:(qRow ids (tabS T3)).length = g.nodes.length:=by rw [hT.len,tabS_len,hT3l]
     have hrow:=hgr.shape.row i hi
     obtain ⟨d7,r7⟩:=hT.row
     obtain ⟨di,ri⟩:=hT.qs i hiS
     have e1:=fun d => hT.get hiS d
     rw [tabS_get hiT] at ri e1
     rw [List.length_map,hrow] at e1
     have hrl:((T3.getD i []).map bl).length = N:=by rw [List.length_map,hrow]
     have e2:=fun d => bl_at (l:=T3.getD i []) (k:=k) (by rw [hrow];exact hkN) d
     have hfol:=(hw.2.2 i hi).2.2
     have hxi:=hids (ids.getD i 0) (List.mem_cons_of_mem _ (getD_mem (by rw [hle];exact hi)))
     have hne:=hT.ne hiS
     repeat' (first|((with_reducible refine Go.red ?_);conv => whnf)|refine aG ?_|exact aCn|with_reducible refine Go.and ?_ ?_|((with_reducible refine Ask.mk ?_);first|exact aAsk|(exact hql)|(exact hrl)|exact aAsk2)|(apply Go.elem;(·(first|exact e1 _|exact e2 _|exact aElem)))|((refine Go.lookW (hbeg i hi k hkN _ _ aNx (fun y hy => Eq.trans aSkip (hk4 y hy))) ?_ ?_);(·exact True.intro))|((refine Go.lookJ (fun _ => hbeg i hi k hkN _ _ aNx (fun y hy => Eq.trans aSkip (hk4 y hy))) ?_ ?_);(·exact True.intro))|((refine Go.lookW (hkeep i hi k hkN _ _ aNx (fun y hy => Eq.trans aSkip (hk4 y hy))) ?_ ?_);(·exact True.intro))|((refine Go.lookJ (fun _ => hkeep i hi k hkN _ _ aNx (fun y hy => Eq.trans aSkip (hk4 y hy))) ?_ ?_);(·exact True.intro))|((refine Go.lookW (behind_look (hT.keep fun x hx => aSkip) hgr.shape (g.nd i) hfol k hkN _) ?_ ?_);(·exact True.intro))|((refine Go.lookJ (fun _ => behind_look (hT.keep fun x hx => aSkip) hgr.shape (g.nd i) hfol k hkN _) ?_ ?_);(·exact True.intro))|refine aH ?_|((with_reducible refine Go.bool ?_ ?_) <;> intro hc <;> (try simp only [List.length_map,ne_eq,hcs] at hc) <;> try (exfalso;omega)))
     ·refine ⟨(T3,ag2,k + 1),by dsimp only;omega,aLess,by omega,by dsimp only;omega,⟨_,aRow⟩,hT.keep fun x hx => ?_,fun y hy => Eq.trans aSkip (hk4 y hy),hgr,hfa,fun h i' k' a1 a2 a3 a4 a5 => ?_⟩
      ·exact aSkip
      ·by_cases e:i' = i∧k' = k
       ·obtain ⟨rfl,rfl⟩:=e
        unfold cellB at a5
        rcases hc with hc|⟨c1,c2|c2⟩
        ·exact hc
        ·rw [c1,c2] at a5;cases a5
        ·rw [c1,c2,Bool.and_false] at a5;cases a5
       ·refine hcl h i' k' a1 a2 a3 (fun e2 => ?_) a5
        have:=a4 e2
        have:¬ k' = k:=fun e3 => e ⟨e2,e3⟩
        dsimp only at *
        omega
     ·have hf0:tget T3 i k = false:=hc.1
      have hcell:cellB g beg keep T3 i k = true:=by
       unfold cellB
       rcases hc.2 with c1|⟨c1,c2⟩
       ·rw [Bool.not_eq_false] at c1;rw [c1];rfl
       ·rw [c1,c2];simp
      have hfs:=falses_set hgr.shape hi hkN hf0
      refine ⟨(tset T3 i k,true,k + 1),by dsimp only;omega,aLess,by omega,by dsimp only;omega,⟨_,aRow⟩,hT.set hiT k ?_ ⟨_,aRow⟩ (fun x hx hxn => ?_),fun y hy => Eq.trans aSkip (hk4 y hy),hgr.step hi hkN hcell,?_,fun h => by cases h⟩
      ·exact aSkip
      ·exact aSkip
      ·dsimp only
       rw [if_pos rfl]
       omega
    ·have:k = N:=by omega
     subst this
     repeat' (first|((with_reducible refine Go.red ?_);conv => whnf)|refine aG ?_|exact aC|with_reducible refine Go.and ?_ ?_|(apply Go.elem;(·exact aElem))|refine aH ?_|((with_reducible refine Go.bool ?_ ?_) <;> intro hc <;> (try simp only [List.length_map,ne_eq,hcs] at hc) <;> try (exfalso;omega)))
     exact ⟨(T3,ag2,i),by dsimp only;omega,aLess,by omega,by dsimp only;omega,hT.keep fun x hx => aSkip,fun y hy => Eq.trans aSkip (hk4 y hy),hgr,hfa,fun h i' k' a1 a2 a3 a5 => hcl h i' k' a1 a2 a3 (fun _ => a3) a5⟩
end Go.Proofs.YtmonponfppdgfaaGreatDoor
end
section
/- What is live, and what waits: the walk. -/
namespace Go.Proofs.YtmonponfppdgfaaGreatDoor
open Go Go.Abs Go.Proofs
set_option linter.unusedSimpArgs false
set_option linter.unusedVariables false
theorem live_call (u:UnitS) (g:Graph) (hg:g.Wf) (hk:GraphOk u g) (t:Nat) (cls:List ClassV) (H:Hp) (nx:Nat):CallN Tryz.prog 37 [lookX g t cls] H nx (fun r H' n' => ∃ b,r = .sl b g.nodes.length∧GrownAt b (liveT g) H nx H' n'):=by
 have hs:=hk.slots
 have hlo:=hk.locals
 obtain ⟨N,hN⟩:∃ N:Nat,g.slots = N:=⟨g.slots.toNat,by omega⟩
 refine Go.fnL lf37 rfl ?_
 repeat' (first|((with_reducible refine Go.red ?_);conv => whnf)|refine aG ?_|exact aCn|with_reducible refine Go.and ?_ ?_|((with_reducible refine Ask.mk ?_);first|exact aAsk|exact aAsk2|(intro h;simp_all [lookCells] <;> fail)|(simp_all [lookCells] <;> fail))|(apply Go.elem;(·exact aElem))|(simp only [hN])|refine aH ?_|((with_reducible refine Go.bool ?_ ?_) <;> intro hc <;> (try simp only [List.length_map,ne_eq,hcs] at hc) <;> try (exfalso;omega)))
 refine Go.callN (grown_call g hg hk.whole t cls N (by omega) _ _ readsB keepsB _ _ (fun i hi k hkN H' nx' _ _ => ?_) (fun i hi k hkN H' nx' _ _ => ?_)) ?_
 ·exact (dreads_pure (g.nd i) (hg.nodes _ (getD_mem' default hi)).op.1 (hk.node hi).kind (hk.node hi).op k).view (args2:=[(g.nd i).av,i64 k]) (by rw [List.map_cons,List.map_cons,List.map_nil,frz_fit 6 (by simp [fitA]),frz_fit 6 (by simp [fitA])]) (by simp [fitL,fitA]) trivial ⟨rfl,fun _ _ => rfl⟩
 ·exact (live1_pure (g.nd i) (hg.nodes _ (getD_mem' default hi)).op.1 (hk.node hi).kind (hk.node hi).op k).view (args2:=[(g.nd i).av,i64 k]) (by rw [List.map_cons,List.map_cons,List.map_nil,frz_fit 6 (by simp [fitA]),frz_fit 6 (by simp [fitA])]) (by simp [fitL,fitA]) trivial ⟨rfl,fun _ _ => rfl⟩
 rintro _ H2 n2 ⟨rfl,hgr⟩
 repeat' (first|((with_reducible refine Go.red ?_);conv => whnf)|refine aG ?_|exact aC|with_reducible refine Go.and ?_ ?_|(apply Go.elem;(·exact aElem))|refine aH ?_|((with_reducible refine Go.bool ?_ ?_) <;> intro hc <;> (try simp only [List.length_map,ne_eq,hcs] at hc) <;> try (exfalso;omega)))
 have el:ahdT g readsB keepsB N = liveT g:=by unfold liveT;rw [hN,Int.toNat_natCast]
 rw [el] at hgr
 obtain ⟨ids,h1,h2⟩:=hgr.at_
 have hle:=hgr.le
 exact ⟨⟨_,rfl,⟨⟨ids,h1.keep fun x hx => aSkip,fun x hx => ⟨Nat.le_trans aNx (h2 x hx).1,Nat.lt_of_lt_of_le (h2 x hx).2 aNx⟩⟩,fun y hy => Eq.trans aSkip ((hgr.keep y (Nat.lt_of_lt_of_le hy aNx)).trans aSkip),aNx⟩⟩⟩
@[simp] theorem fit_lookCells (n:Nat) (g:Graph) (t:Nat) (cls:List ClassV):fitL n (lookCells g t cls):=by simp [lookCells,fitA,fitL,fitL_map,ClassV.cells]
theorem fit_lookX (g:Graph) (t:Nat) (cls:List ClassV):fitA 0 (lookX g t cls):=by simp [lookX,lookCells,fitA,fitL,fitL_map,ClassV.cells]
set_option maxRecDepth 4000 in
set_option maxHeartbeats 4000000 in
theorem waits1_look (g:Graph) (n:Node) (ho:0 ≤ n.op) (h:1 ≤ n.kind∧n.kind < 10) (hop:(n.kind = 1→n.op < 19)∧(n.kind ≠ 1→n.op = 0)) (t:Nat) (cls:List ClassV) (v:Nat) (hv:v < cls.length) (b:Nat) (H:Hp) (nx:Nat) (e:TypeId) (d:AV) (hrb:getH H b = some (.row e 1 d [lookX g t cls])) (hbn:b < nx) :
 Look Tryz.prog 69 [n.av,i64 v,.pt b 1 0 0] H nx (bl (waitB cls t n v)):=by
 have hm:=manner_pure n ho h hop
 unfold manAv at hm
 refine Go.lookAtL lf69 rfl ?_
 have how:=own_pure g t cls v hv
 unfold waitB
 cases hob:ownB cls t v with
 | false =>
  rw [hob] at how
  repeat' (first|((with_reducible refine Go.red ?_);conv => whnf)|refine aG ?_|exact aCn|with_reducible refine Go.and ?_ ?_|((with_reducible refine Ask.mk ?_);first|exact aAsk|(intro h1 h2;rw [h1,h2];rfl)|exact aAsk2|(intro h;simp_all [Node.cells] <;> fail)|(simp_all [Node.cells] <;> fail))|(apply Go.elem;(·exact aElem))|refine aK (how) ?_|refine aK (hm) ?_|refine aH ?_|((with_reducible refine Go.bool ?_ ?_) <;> intro hc <;> (try simp only [List.length_map,ne_eq,hcs] at hc) <;> try (exfalso;omega)))
  exact ResN.look rfl aKeep
 | true =>
  rw [hob] at how
  repeat' (first|((with_reducible refine Go.red ?_);conv => whnf)|refine aG ?_|exact aCn|with_reducible refine Go.and ?_ ?_|((with_reducible refine Ask.mk ?_);first|exact aAsk|(intro h1 h2;rw [h1,h2];rfl)|exact aAsk2|(intro h;simp_all [Node.cells] <;> fail)|(simp_all [Node.cells] <;> fail))|(apply Go.elem;(·exact aElem))|refine aK (how) ?_|refine aK (hm) ?_|refine aH ?_|((with_reducible refine Go.bool ?_ ?_) <;> intro hc <;> (try simp only [List.length_map,ne_eq,hcs] at hc) <;> try (exfalso;omega)))
  refine ResN.look ?_ aKeep
  refine bl_eq ?_
  rw [show decide (n.kind = 2 ∨ n.kind = 4) = loadsB n from rfl]
  cases decide (n.kind = 9) <;> cases decide (n.kind = 5) <;> cases loadsB n <;> simp
set_option maxRecDepth 4000 in
set_option maxHeartbeats 4000000 in
theorem waits2_look (g:Graph) (n:Node) (t:Nat) (cls:List ClassV) (v:Nat) (hv:v < cls.length) (b:Nat) (H:Hp) (nx:Nat) (e:TypeId) (d:AV) (hrb:getH H b = some (.row e 1 d [lookX g t cls])) (hbn:b < nx) :
 Look Tryz.prog 70 [n.av,i64 v,.pt b 1 0 0] H nx (bl (holdB cls t n v)):=by
 refine Go.lookAtL lf70 rfl ?_
 have how:=own_pure g t cls v hv
 repeat' (first|((with_reducible refine Go.red ?_);conv => whnf)|refine aG ?_|exact aCn|with_reducible refine Go.and ?_ ?_|((with_reducible refine Ask.mk ?_);first|exact aAsk|(intro h1 h2;rw [h1,h2];rfl)|exact aAsk2|(intro h;simp_all [Node.cells] <;> fail)|(simp_all [Node.cells] <;> fail))|(apply Go.elem;(·exact aElem))|refine aK (how) ?_|refine aH ?_|((with_reducible refine Go.bool ?_ ?_) <;> intro hc <;> (try simp only [List.length_map,ne_eq,hcs] at hc) <;> try (exfalso;omega)))
 refine ResN.look ?_ aKeep
 refine bl_eq ?_
 unfold holdB
 cases ownB cls t v <;> by_cases h3:n.kind = 3 <;> by_cases h4:n.thing = v <;> simp [h3,h4]
set_option maxRecDepth 4000 in
set_option maxHeartbeats 4000000 in
theorem waits_call (u:UnitS) (g:Graph) (hg:g.Wf) (hk:GraphOk u g) (t:Nat) (cls:List ClassV) (hcl:cls.length ≤ 64) (H:Hp) (nx:Nat):CallN Tryz.prog 39 [lookX g t cls] H nx (fun r H' n' => ∃ b,r = .sl b g.nodes.length∧GrownAt b (waitT g cls t) H nx H' n'):=by
 refine Go.fnL lf39 rfl ?_
 repeat' (first|((with_reducible refine Go.red ?_);conv => whnf)|refine aG ?_|exact aCn|with_reducible refine Go.and ?_ ?_|((with_reducible refine Ask.mk ?_);first|exact aAsk|exact aAsk2|(intro h;simp_all [lookCells] <;> fail)|(simp_all [lookCells] <;> fail))|(apply Go.elem;(·exact aElem))|refine aH ?_|((with_reducible refine Go.bool ?_ ?_) <;> intro hc <;> (try simp only [List.length_map,ne_eq,hcs] at hc) <;> try (exfalso;omega)))
 rw [List.length_map]
 refine Go.callN (grown_call1 g hg hk.whole t cls cls.length (by omega) _ _ nx (waitB cls t) (holdB cls t) _ _ (fun i hi k hkN H' nx' h1 h2 => ?_) (fun i hi k hkN H' nx' h1 h2 => ?_)) ?_
 ·exact waits1_look g (g.nd i) (hg.nodes _ (getD_mem' default hi)).op.1 (hk.node hi).kind (hk.node hi).op t cls k hkN nx H' nx' 53 .any ((h2 nx aNx).trans aRow) (Nat.lt_of_lt_of_le aNx h1)
 ·exact waits2_look g (g.nd i) t cls k hkN nx H' nx' 53 .any ((h2 nx aNx).trans aRow) (Nat.lt_of_lt_of_le aNx h1)
 rintro _ H2 n2 ⟨rfl,hgr⟩
 repeat' (first|((with_reducible refine Go.red ?_);conv => whnf)|refine aG ?_|exact aC|with_reducible refine Go.and ?_ ?_|(apply Go.elem;(·exact aElem))|refine aH ?_|((with_reducible refine Go.bool ?_ ?_) <;> intro hc <;> (try simp only [List.length_map,ne_eq,hcs] at hc) <;> try (exfalso;omega)))
 have el:ahdT g (waitB cls t) (holdB cls t) cls.length = waitT g cls t:=rfl
 rw [el] at hgr
 obtain ⟨ids,h1,h2⟩:=hgr.at_
 exact ⟨⟨_,rfl,⟨⟨ids,h1.keep fun x hx => aSkip,fun x hx => ⟨Nat.le_trans aNx (h2 x hx).1,Nat.lt_of_lt_of_le (h2 x hx).2 aNx⟩⟩,fun y hy => Eq.trans aSkip ((hgr.keep y (Nat.lt_of_lt_of_le hy aNx)).trans aSkip),Nat.le_trans aNx (Nat.le_trans hgr.le aNx)⟩⟩⟩
end Go.Proofs.YtmonponfppdgfaaGreatDoor
end
