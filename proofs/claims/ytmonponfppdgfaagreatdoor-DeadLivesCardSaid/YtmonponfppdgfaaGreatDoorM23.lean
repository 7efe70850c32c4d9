import Derived.Test.YtmonponfppdgfaaGreatDoorM22
section
/- Are names and numbers right? -/
namespace Go.Proofs.YtmonponfppdgfaaGreatDoor
open Go Go.Abs Go.Proofs
set_option linter.unusedSimpArgs false
set_option linter.unusedVariables false
abbrev mapS (E:List (ByteArray × Bool)):List AV:=mapE (fun s:ByteArray => Value.string s) bl E
theorem getS (E:List (ByteArray × Bool)) (t:ByteArray):mget true (.string t) (mapS E) (bl false) = some (bl ((lookE E t).getD false),(lookE E t).isSome):=(mget_E keyStr bl t E (bl false)).trans (by cases lookE E t <;> rfl)
theorem putS (E:List (ByteArray × Bool)) (t:ByteArray) (v:Bool):mput true (.string t) (mapS E) (bl v) = some (mapS (putE E t v)):=mput_E keyStr bl t v E
def seenE (l:List ByteArray):List (ByteArray × Bool):=l.map fun s => (s,true)
def memS:List ByteArray→ByteArray→Bool
 | [],_ => false
 | a :: l,s => if s = a then true else memS l s
theorem memS_iff (l:List ByteArray) (s:ByteArray):memS l s = true ↔ s ∈ l:=by
 induction l with
 | nil => simp [memS]
 | cons a l ih =>
  rw [memS]
  by_cases h:s = a
  ·simp [h]
  ·simp [h,ih]
theorem seen_look (l:List ByteArray) (s:ByteArray):(lookE (seenE l) s).getD false = memS l s:=by
 induction l with
 | nil => rfl
 | cons a l ih =>
  show ((if s = a then some true else lookE (seenE l) s)).getD false = (if s = a then true else memS l s)
  by_cases h:s = a
  ·rw [if_pos h,if_pos h];rfl
  ·rw [if_neg h,if_neg h,ih]
theorem seen_put (l:List ByteArray) (s:ByteArray) (h:memS l s = false):putE (seenE l) s true = seenE (l ++ [s]):=by
 induction l with
 | nil => rfl
 | cons a l ih =>
  rw [memS] at h
  by_cases e:s = a
  ·rw [if_pos e] at h;cases h
  ·rw [if_neg e] at h
   show (if s = a then (s,true) :: seenE l else (a,true) :: putE (seenE l) s true) = _
   rw [if_neg e,ih h];rfl
theorem add_call (s:ByteArray) (hs:s.size ≤ 140737488351232) (l:List ByteArray) (b m:Nat) (H:Hp) (nx:Nat) (e em:TypeId) (d dm:AV) (hb:getH H b = some (.row e 1 d [.mp m])) (hm:getH H m = some (.row em 0 dm (mapA (mapS (seenE l))))) (hbn:b < nx) (hmn:m < nx) (hbm:b ≠ m) :
 CallN Tryz.prog 84 [st s,.pt b 1 0 0] H nx (fun r H' n => r = bl (nameB s && !memS l s)∧nx ≤ n∧(memS l s = false→getH H' m = some (.row em 0 dm (mapA (mapS (seenE (l ++ [s]))))))∧∀ y,y < nx→y ≠ m→getH H' y = getH H y):=by
 refine Go.fnL lf84 rfl ?_
 repeat' (first|((with_reducible refine Go.red ?_);conv => whnf)|refine aG ?_|exact aC|with_reducible refine Go.and ?_ ?_|(apply Go.elem;(·exact aElem))|refine aK (name_pure s hs) ?_|(apply Go.givesG (g:=some _);(·exact fun _ => getS _ _))|(apply Go.givesG (g:=none);(·exact fun _ => putS _ _ _))|refine aH ?_|((with_reducible refine Go.bool ?_ ?_) <;> intro hc <;> (try simp only [List.length_map,ne_eq,hcs] at hc) <;> try (exfalso;omega)))
 refine ⟨⟨?_,aNx,fun h => ?_,fun y hy hym => ?_⟩⟩
 ·rw [seen_look]
  refine bl_eq ?_
  cases nameB s <;> cases memS l s <;> rfl
 ·rw [← seen_put l s h]
  exact aRow
 ·exact aSkip
def addAll:List ByteArray→List ByteArray→Bool
 | _,[] => true
 | acc,s :: r => if (nameB s && !memS acc s) = true then addAll (acc ++ [s]) r else false
def namesU (u:UnitS):List ByteArray:=u.shared.map Decl.name ++ (u.locks.map Decl.name ++ u.graphs.map Graph.name)
def namedB (u:UnitS):Bool:=decide (u.shared.length ≤ 64) && decide (u.locks.length ≤ 16) && decide (u.graphs.length ≤ 8) && addAll [] (namesU u) && u.locks.all (fun d => decide (d.word = 0))
theorem addAll_next (u:UnitS) {k:Nat} (hk:k < (namesU u).length) (h:addAll ((namesU u).take k) ((namesU u).drop k) = addAll [] (namesU u)) {s:ByteArray} (hs:(namesU u).getD k default = s) :
 (addAll [] (namesU u) = if (nameB s && !memS ((namesU u).take k) s) = true then addAll ((namesU u).take (k + 1)) ((namesU u).drop (k + 1)) else false)∧(namesU u).take (k + 1) = (namesU u).take k ++ [s]:=by
 have e:(namesU u)[k] = s:=by rw [← hs];simp [List.getD,hk]
 have e2:(namesU u).take (k + 1) = (namesU u).take k ++ [s]:=by rw [List.take_succ_eq_append_getElem hk,e]
 refine ⟨?_,e2⟩
 rw [← h,List.drop_eq_getElem_cons hk,addAll,e,e2]
theorem name_sh (u:UnitS) {i:Nat} (h:i < u.shared.length):(namesU u).getD i default = (u.shared.getD i default).name:=by
 simp [namesU,List.getD,List.getElem?_append,h]
theorem name_lk (u:UnitS) {i:Nat} (h:i < u.locks.length):(namesU u).getD (u.shared.length + i) default = (u.locks.getD i default).name:=by
 unfold namesU
 rw [List.getD,List.getElem?_append_right (by simp),List.length_map,Nat.add_sub_cancel_left,List.getElem?_append_left (by simpa using h)]
 simp [List.getD,h]
theorem name_gr (u:UnitS) {i:Nat} (h:i < u.graphs.length):(namesU u).getD (u.shared.length + u.locks.length + i) default = (u.graphs.getD i default).name:=by
 unfold namesU
 rw [List.getD,List.getElem?_append_right (by simp;omega),List.getElem?_append_right (by simp;omega)]
 simp only [List.length_map]
 rw [show u.shared.length + u.locks.length + i - u.shared.length - u.locks.length = i by omega]
 simp [List.getD,h]
set_option maxHeartbeats 4000000 in
theorem named_pure (u:UnitS) (hu:u.Wf):Pure Tryz.prog 51 [u.av] (fun r => r = bl (namedB u)):=by
 refine Go.pureL lf51 rfl ?_
 have h1:=hu.sharedlen
 have h2:=hu.lockslen
 have h3:=hu.graphslen
 by_cases hl:u.shared.length ≤ 64∧u.locks.length ≤ 16∧u.graphs.length ≤ 8
 ·repeat' (first|((with_reducible refine Go.red ?_);conv => whnf)|refine aG ?_|exact aCn|with_reducible refine Go.and ?_ ?_|((with_reducible refine Ask.mk ?_);first|exact aAsk|exact aAsk2|(intro h;simp_all [UnitS.cells] <;> fail)|(simp_all [UnitS.cells] <;> fail))|(apply Go.elem;(·exact aElem))|refine aH ?_|((with_reducible refine Go.bool ?_ ?_) <;> intro hc <;> (try simp only [List.length_map,ne_eq,hcs] at hc) <;> try (exfalso;omega)))
  clear hc
  simp only [List.length_map]
  refine Go.loop (fun i:Nat => [(1,.pt 0 1 0 0),(4,.fn (.func 84) [] [.pt 19 1 0 0]),(30,declsAv u.shared),(31,i64 u.shared.length),(32,i64 i)]) (fun i H n => i ≤ u.shared.length∧20 ≤ n∧(∃ d,getH H 0 = some (.row 25 3 d [u.av]))∧(∃ d,getH H 19 = some (.row 122 1 d [.mp 18]))∧(∃ d,getH H 18 = some (.row 9 0 d (mapA (mapS (seenE ((namesU u).take (i)))))))∧addAll ((namesU u).take (i)) ((namesU u).drop (i)) = addAll [] (namesU u)) (fun i => u.shared.length - i) 0 aLess ⟨Nat.zero_le _,aNx,⟨_,aRow⟩,⟨_,aRow⟩,⟨_,aRow⟩,rfl⟩ ?_
  rintro i H n ⟨hi,hn,⟨d0,r0⟩,⟨d19,r19⟩,⟨d18,r18⟩,hq⟩
  by_cases hil:i < u.shared.length
  ·have hk:i < (namesU u).length:=by simp only [namesU,List.length_append,List.length_map];omega
   have hs:(namesU u).getD (i) default = (u.shared.getD i default).name:=name_sh u hil
   obtain ⟨ha,ht⟩:=addAll_next u hk hq hs
   have hsz:=(hu.shared _ (getD_mem' default hil)).name
   repeat' (first|((with_reducible refine Go.red ?_);conv => whnf)|refine aG ?_|exact aCn|with_reducible refine Go.and ?_ ?_|((with_reducible refine Ask.mk ?_);first|exact aAsk|exact aAsk2|(intro h;simp_all [UnitS.cells,Decl.cells] <;> fail)|(simp_all [UnitS.cells,Decl.cells] <;> fail))|(apply Go.elem;(·(first|exact dc_get|exact aElem)))|refine aH ?_|((with_reducible refine Go.bool ?_ ?_) <;> intro hc <;> (try simp only [List.length_map,ne_eq,hcs] at hc) <;> try (exfalso;omega)))
   refine Go.callN (add_call _ hsz ((namesU u).take (i)) 19 18 _ _ _ _ _ _ aRow aRow aNx aNx (by decide)) ?_
   rintro _ H2 n2 ⟨rfl,hn2,hput,hf⟩
   have hn12:n ≤ n2:=Nat.le_trans aNx hn2
   have r02:getH H2 0 = some (.row 25 3 d0 [u.av]):=(hf 0 (Nat.lt_of_lt_of_le (by omega:0 < n) aNx) (by decide)).trans aRow
   have r192:getH H2 19 = some (.row 122 1 d19 [.mp 18]):=(hf 19 (Nat.lt_of_lt_of_le (by omega:19 < n) aNx) (by decide)).trans aRow
   cases hg:(nameB (u.shared.getD i default).name && !memS ((namesU u).take (i)) (u.shared.getD i default).name) with
   | false =>
    rw [hg,if_neg (by decide)] at ha
    have hb:namedB u = false:=by unfold namedB;rw [ha];simp
    rw [hb]
    repeat' (first|((with_reducible refine Go.red ?_);conv => whnf)|refine aG ?_|exact aCn|with_reducible refine Go.and ?_ ?_|((with_reducible refine Ask.mk ?_);first|exact aAsk|exact aAsk2|(intro h;simp_all [UnitS.cells,Decl.cells] <;> fail)|(simp_all [UnitS.cells,Decl.cells] <;> fail))|(apply Go.elem;(·exact aElem))|refine aH ?_|((with_reducible refine Go.bool ?_ ?_) <;> intro hc <;> (try simp only [List.length_map,ne_eq,hcs] at hc) <;> try (exfalso;omega)))
    exact rfl
   | true =>
    rw [hg,if_pos rfl] at ha
    have hnm:memS ((namesU u).take (i)) (u.shared.getD i default).name = false:=by revert hg;cases memS ((namesU u).take (i)) (u.shared.getD i default).name <;> simp
    have r182:=hput hnm
    rw [← ht] at r182
    clear hf hput
    repeat' (first|((with_reducible refine Go.red ?_);conv => whnf)|refine aG ?_|exact aCn|with_reducible refine Go.and ?_ ?_|((with_reducible refine Ask.mk ?_);first|exact aAsk|exact aAsk2|(intro h;simp_all [UnitS.cells,Decl.cells] <;> fail)|(simp_all [UnitS.cells,Decl.cells] <;> fail))|(apply Go.elem;(·exact aElem))|refine aH ?_|((with_reducible refine Go.bool ?_ ?_) <;> intro hc <;> (try simp only [List.length_map,ne_eq,hcs] at hc) <;> try (exfalso;omega)))
    exact ⟨i + 1,by omega,aLess,by omega,by omega,⟨_,aRow⟩,⟨_,aRow⟩,⟨_,aRow⟩,ha.symm⟩
  ·have hie:i = u.shared.length:=by omega
   subst hie
   repeat' (first|((with_reducible refine Go.red ?_);conv => whnf)|refine aG ?_|exact aCn|with_reducible refine Go.and ?_ ?_|((with_reducible refine Ask.mk ?_);first|exact aAsk|exact aAsk2|(intro h;simp_all [UnitS.cells] <;> fail)|(simp_all [UnitS.cells] <;> fail))|(apply Go.elem;(·exact aElem))|refine aH ?_|((with_reducible refine Go.bool ?_ ?_) <;> intro hc <;> (try simp only [List.length_map,ne_eq,hcs] at hc) <;> try (exfalso;omega)))
   refine Go.loop (fun i:Nat => [(1,.pt 0 1 0 0),(4,.fn (.func 84) [] [.pt 19 1 0 0]),(43,declsAv u.locks),(44,i64 u.locks.length),(45,i64 i)]) (fun i H n => i ≤ u.locks.length∧20 ≤ n∧(∃ d,getH H 0 = some (.row 25 3 d [u.av]))∧(∃ d,getH H 19 = some (.row 122 1 d [.mp 18]))∧(∃ d,getH H 18 = some (.row 9 0 d (mapA (mapS (seenE ((namesU u).take (u.shared.length + i)))))))∧addAll ((namesU u).take (u.shared.length + i)) ((namesU u).drop (u.shared.length + i)) = addAll [] (namesU u)∧∀ j,j < i→(u.locks.getD j default).word = 0) (fun i => u.locks.length - i) 0 aLess ⟨Nat.zero_le _,aNx,⟨_,aRow⟩,⟨_,aRow⟩,⟨_,by rw [Nat.add_zero];exact aRow⟩,by rw [Nat.add_zero];exact hq,fun _ h => by omega⟩ ?_
   clear r0 r19 r18 hq hc
   rintro i H n ⟨hi,hn,⟨d0,r0⟩,⟨d19,r19⟩,⟨d18,r18⟩,hq,hw⟩
   by_cases hil:i < u.locks.length
   ·have hk:u.shared.length + i < (namesU u).length:=by simp only [namesU,List.length_append,List.length_map];omega
    have hs:(namesU u).getD (u.shared.length + i) default = (u.locks.getD i default).name:=name_lk u hil
    obtain ⟨ha,ht⟩:=addAll_next u hk hq hs
    have hsz:=(hu.locks _ (getD_mem' default hil)).name
    repeat' (first|((with_reducible refine Go.red ?_);conv => whnf)|refine aG ?_|exact aCn|with_reducible refine Go.and ?_ ?_|((with_reducible refine Ask.mk ?_);first|exact aAsk|exact aAsk2|(intro h;simp_all [UnitS.cells,Decl.cells] <;> fail)|(simp_all [UnitS.cells,Decl.cells] <;> fail))|(apply Go.elem;(·(first|exact dc_get|exact aElem)))|refine aH ?_|((with_reducible refine Go.bool ?_ ?_) <;> intro hc <;> (try simp only [List.length_map,ne_eq,hcs] at hc) <;> try (exfalso;omega)))
    refine Go.callN (add_call _ hsz ((namesU u).take (u.shared.length + i)) 19 18 _ _ _ _ _ _ aRow aRow aNx aNx (by decide)) ?_
    rintro _ H2 n2 ⟨rfl,hn2,hput,hf⟩
    have hn12:n ≤ n2:=Nat.le_trans aNx hn2
    have r02:getH H2 0 = some (.row 25 3 d0 [u.av]):=(hf 0 (Nat.lt_of_lt_of_le (by omega:0 < n) aNx) (by decide)).trans aRow
    have r192:getH H2 19 = some (.row 122 1 d19 [.mp 18]):=(hf 19 (Nat.lt_of_lt_of_le (by omega:19 < n) aNx) (by decide)).trans aRow
    cases hg:(nameB (u.locks.getD i default).name && !memS ((namesU u).take (u.shared.length + i)) (u.locks.getD i default).name) with
    | false =>
     rw [hg,if_neg (by decide)] at ha
     have hb:namedB u = false:=by unfold namedB;rw [ha];simp
     rw [hb]
     clear hf hput
     repeat' (first|((with_reducible refine Go.red ?_);conv => whnf)|refine aG ?_|exact aCn|with_reducible refine Go.and ?_ ?_|((with_reducible refine Ask.mk ?_);first|exact aAsk|exact aAsk2|(intro h;simp_all [UnitS.cells,Decl.cells] <;> fail)|(simp_all [UnitS.cells,Decl.cells] <;> fail))|(apply Go.elem;(·exact aElem))|refine aH ?_|((with_reducible refine Go.bool ?_ ?_) <;> intro hc <;> (try simp only [List.length_map,ne_eq,hcs] at hc) <;> try (exfalso;omega)))
     exact rfl
    | true =>
     rw [hg,if_pos rfl] at ha
     have hnm:memS ((namesU u).take (u.shared.length + i)) (u.locks.getD i default).name = false:=by revert hg;cases memS ((namesU u).take (u.shared.length + i)) (u.locks.getD i default).name <;> simp
     have r182:=hput hnm
     rw [← ht] at r182
     obtain ⟨d4,r4⟩:∃ d,getH H2 (n + 3) = some (.row 48 3 d [(u.locks.getD i default).av]):=⟨_,(hf (n + 3) aNx (by omega)).trans aRow⟩
     clear hf hput
     repeat' (first|((with_reducible refine Go.red ?_);conv => whnf)|refine aG ?_|exact aCn|with_reducible refine Go.and ?_ ?_|((with_reducible refine Ask.mk ?_);first|exact aAsk|exact aAsk2|(intro h;simp_all [UnitS.cells,Decl.cells] <;> fail)|(simp_all [UnitS.cells,Decl.cells] <;> fail))|(apply Go.elem;(·exact aElem))|refine aH ?_|((with_reducible refine Go.bool ?_ ?_) <;> intro hc <;> (try simp only [List.length_map,ne_eq,hcs] at hc) <;> try (exfalso;omega)))
     ·have hb:namedB u = false:=by
       unfold namedB
       rw [Bool.and_eq_false_iff]
       right
       rw [Bool.eq_false_iff,ne_eq,List.all_eq_true]
       exact fun h => (hc.resolve_left (by decide)) (of_decide_eq_true (h _ (getD_mem' default hil)))
      rw [hb]
     ·exact ⟨i + 1,by omega,aLess,by omega,by omega,⟨_,aRow⟩,⟨_,aRow⟩,⟨_,aRow⟩,ha.symm,fun j hj => by
       by_cases hji:j = i
       ·rw [hji];exact hc.2
       ·exact hw j (by omega)⟩
   ·have hie:i = u.locks.length:=by omega
    subst hie
    repeat' (first|((with_reducible refine Go.red ?_);conv => whnf)|refine aG ?_|exact aCn|with_reducible refine Go.and ?_ ?_|((with_reducible refine Ask.mk ?_);first|exact aAsk|exact aAsk2|(intro h;simp_all [UnitS.cells] <;> fail)|(simp_all [UnitS.cells] <;> fail))|(apply Go.elem;(·exact aElem))|refine aH ?_|((with_reducible refine Go.bool ?_ ?_) <;> intro hc <;> (try simp only [List.length_map,ne_eq,hcs] at hc) <;> try (exfalso;omega)))
    refine Go.loop (fun i:Nat => [(1,.pt 0 1 0 0),(4,.fn (.func 84) [] [.pt 19 1 0 0]),(61,graphsAv u.graphs),(62,i64 u.graphs.length),(63,i64 i)]) (fun i H n => i ≤ u.graphs.length∧20 ≤ n∧(∃ d,getH H 0 = some (.row 25 3 d [u.av]))∧(∃ d,getH H 19 = some (.row 122 1 d [.mp 18]))∧(∃ d,getH H 18 = some (.row 9 0 d (mapA (mapS (seenE ((namesU u).take (u.shared.length + u.locks.length + i)))))))∧addAll ((namesU u).take (u.shared.length + u.locks.length + i)) ((namesU u).drop (u.shared.length + u.locks.length + i)) = addAll [] (namesU u)∧∀ j,j < u.locks.length→(u.locks.getD j default).word = 0) (fun i => u.graphs.length - i) 0 aLess ⟨Nat.zero_le _,aNx,⟨_,aRow⟩,⟨_,aRow⟩,⟨_,by rw [Nat.add_zero];exact aRow⟩,by rw [Nat.add_zero];exact hq,hw⟩ ?_
    clear r0 r19 r18 hq hc hw
    rintro i H n ⟨hi,hn,⟨d0,r0⟩,⟨d19,r19⟩,⟨d18,r18⟩,hq,hw⟩
    by_cases hil:i < u.graphs.length
    ·have hk:u.shared.length + u.locks.length + i < (namesU u).length:=by simp only [namesU,List.length_append,List.length_map];omega
     have hs:(namesU u).getD (u.shared.length + u.locks.length + i) default = (u.graphs.getD i default).name:=name_gr u hil
     obtain ⟨ha,ht⟩:=addAll_next u hk hq hs
     have hsz:=(hu.graphs _ (getD_mem' default hil)).name
     repeat' (first|((with_reducible refine Go.red ?_);conv => whnf)|refine aG ?_|exact aCn|with_reducible refine Go.and ?_ ?_|((with_reducible refine Ask.mk ?_);first|exact aAsk|exact aAsk2|(intro h;simp_all [UnitS.cells,Graph.cells] <;> fail)|(simp_all [UnitS.cells,Graph.cells] <;> fail))|(apply Go.elem;(·(first|exact gr_get|exact aElem)))|refine aH ?_|((with_reducible refine Go.bool ?_ ?_) <;> intro hc <;> (try simp only [List.length_map,ne_eq,hcs] at hc) <;> try (exfalso;omega)))
     refine Go.callN (add_call _ hsz ((namesU u).take (u.shared.length + u.locks.length + i)) 19 18 _ _ _ _ _ _ aRow aRow aNx aNx (by decide)) ?_
     rintro _ H2 n2 ⟨rfl,hn2,hput,hf⟩
     have hn12:n ≤ n2:=Nat.le_trans aNx hn2
     have r02:getH H2 0 = some (.row 25 3 d0 [u.av]):=(hf 0 (Nat.lt_of_lt_of_le (by omega:0 < n) aNx) (by decide)).trans aRow
     have r192:getH H2 19 = some (.row 122 1 d19 [.mp 18]):=(hf 19 (Nat.lt_of_lt_of_le (by omega:19 < n) aNx) (by decide)).trans aRow
     cases hg:(nameB (u.graphs.getD i default).name && !memS ((namesU u).take (u.shared.length + u.locks.length + i)) (u.graphs.getD i default).name) with
     | false =>
      rw [hg,if_neg (by decide)] at ha
      have hb:namedB u = false:=by unfold namedB;rw [ha];simp
      rw [hb]
      repeat' (first|((with_reducible refine Go.red ?_);conv => whnf)|refine aG ?_|exact aCn|with_reducible refine Go.and ?_ ?_|((with_reducible refine Ask.mk ?_);first|exact aAsk|exact aAsk2|(intro h;simp_all [UnitS.cells,Graph.cells] <;> fail)|(simp_all [UnitS.cells,Graph.cells] <;> fail))|(apply Go.elem;(·exact aElem))|refine aH ?_|((with_reducible refine Go.bool ?_ ?_) <;> intro hc <;> (try simp only [List.length_map,ne_eq,hcs] at hc) <;> try (exfalso;omega)))
      exact rfl
     | true =>
      rw [hg,if_pos rfl] at ha
      have hnm:memS ((namesU u).take (u.shared.length + u.locks.length + i)) (u.graphs.getD i default).name = false:=by revert hg;cases memS ((namesU u).take (u.shared.length + u.locks.length + i)) (u.graphs.getD i default).name <;> simp
      have r182:=hput hnm
      rw [← ht] at r182
      clear hf hput
      repeat' (first|((with_reducible refine Go.red ?_);conv => whnf)|refine aG ?_|exact aCn|with_reducible refine Go.and ?_ ?_|((with_reducible refine Ask.mk ?_);first|exact aAsk|exact aAsk2|(intro h;simp_all [UnitS.cells,Graph.cells] <;> fail)|(simp_all [UnitS.cells,Graph.cells] <;> fail))|(apply Go.elem;(·exact aElem))|refine aH ?_|((with_reducible refine Go.bool ?_ ?_) <;> intro hc <;> (try simp only [List.length_map,ne_eq,hcs] at hc) <;> try (exfalso;omega)))
      exact ⟨i + 1,by omega,aLess,by omega,by omega,⟨_,aRow⟩,⟨_,aRow⟩,⟨_,aRow⟩,ha.symm,hw⟩
    ·have hie:i = u.graphs.length:=by omega
     subst hie
     repeat' (first|((with_reducible refine Go.red ?_);conv => whnf)|refine aG ?_|exact aCn|with_reducible refine Go.and ?_ ?_|((with_reducible refine Ask.mk ?_);first|exact aAsk|exact aAsk2|(intro h;simp_all [UnitS.cells] <;> fail)|(simp_all [UnitS.cells] <;> fail))|(apply Go.elem;(·exact aElem))|refine aH ?_|((with_reducible refine Go.bool ?_ ?_) <;> intro hc <;> (try simp only [List.length_map,ne_eq,hcs] at hc) <;> try (exfalso;omega)))
     refine bl_eq (Eq.symm ?_)
     have e:u.shared.length + u.locks.length + u.graphs.length = (namesU u).length:=by simp only [namesU,List.length_append,List.length_map];omega
     have hall:addAll [] (namesU u) = true:=by
      rw [← hq,e,List.drop_eq_nil_of_le (Nat.le_refl _)]
      cases (namesU u).take (namesU u).length <;> rfl
     unfold namedB
     rw [decide_eq_true hl.1,decide_eq_true hl.2.1,decide_eq_true hl.2.2,hall]
     simp only [Bool.true_and]
     rw [List.all_eq_true]
     intro d hd
     obtain ⟨j,hj,rfl⟩:=List.getElem_of_mem hd
     have:=hw j hj
     rw [show u.locks.getD j default = u.locks[j] by simp [List.getD,hj]] at this
     exact decide_eq_true this
 ·have hb:namedB u = false:=by
   unfold namedB
   by_cases a1:u.shared.length ≤ 64
   ·by_cases a2:u.locks.length ≤ 16
    ·rw [decide_eq_false (fun a3 => hl ⟨a1,a2,a3⟩:¬ u.graphs.length ≤ 8)];simp
    ·rw [decide_eq_false a2];simp
   ·rw [decide_eq_false a1];simp
  rw [hb]
  repeat' (first|((with_reducible refine Go.red ?_);conv => whnf)|refine aG ?_|exact aCn|with_reducible refine Go.and ?_ ?_|((with_reducible refine Ask.mk ?_);first|exact aAsk|exact aAsk2|(intro h;simp_all [UnitS.cells] <;> fail)|(simp_all [UnitS.cells] <;> fail))|(apply Go.elem;(·exact aElem))|refine aH ?_|((with_reducible refine Go.bool ?_ ?_) <;> intro hc <;> (try simp only [List.length_map,ne_eq,hcs] at hc) <;> try (exfalso;omega)))
  exact rfl
end Go.Proofs.YtmonponfppdgfaaGreatDoor
end
section
/- What is so of right units, in plain data. -/
namespace Go.Proofs.YtmonponfppdgfaaGreatDoor
open Go Go.Abs Go.Proofs
set_option linter.unusedSimpArgs false
set_option linter.unusedVariables false
def checkU (u:UnitS):Int × Int × Int:=if namedB u = true then graphsF u u.graphs 0 else (60,0,0)
structure NodeOk (u:UnitS) (g:Graph) (n:Node):Prop where
 kind:1 ≤ n.kind∧n.kind < 10
 origin:0 ≤ n.origin∧n.origin < 4096
 op:(n.kind = 1→n.op < 19)∧(n.kind ≠ 1→n.op = 0)
 slot:(usesSlot n.kind = true→0 ≤ n.slot∧n.slot < g.slots)∧(usesSlot n.kind = false→n.slot = 0)
 thing:(usesThing n.kind = true→0 ≤ n.thing∧n.thing < (if n.kind = 5 ∨ n.kind = 6 then u.locks.length else u.shared.length:Nat))∧(usesThing n.kind = false→n.thing = 0)
 a:valB n.a (usesA n.kind) g.slots = true
 b:valB n.b (decide (n.kind = 1) && operTwo n.op) g.slots = true
 next:(usesNext n.kind = true→0 ≤ n.next∧n.next < g.nodes.length)∧(usesNext n.kind = false→n.next = 0)
 els:(n.kind = 8→0 ≤ n.els∧n.els < g.nodes.length)∧(n.kind ≠ 8→n.els = 0)
theorem numB_iff {n most:Int} {b:Bool}:numB n b most = true ↔ (b = true→0 ≤ n∧n < most)∧(b = false→n = 0):=by
 unfold numB
 cases b <;> simp
theorem nodeB_iff {u:UnitS} {g:Graph} {n:Node}:nodeB u g n = true ↔ NodeOk u g n:=by
 unfold nodeB
 simp only [Bool.and_eq_true,decide_eq_true_eq,numB_iff,Bool.ite_eq_true_distrib]
 constructor
 ·rintro ⟨⟨⟨⟨⟨⟨⟨⟨h1,h2,h3,h4⟩,h5⟩,h6⟩,h7⟩,h8⟩,h9⟩,h10⟩,h11⟩
  refine ⟨⟨h1,h2⟩,⟨h3,h4⟩,?_,h6,?_,h8,h9,h10,?_⟩
  ·by_cases h:n.kind = 1
   ·rw [if_pos h] at h5;exact ⟨fun _ => h5,fun e => absurd h e⟩
   ·rw [if_neg h] at h5;exact ⟨fun e => absurd e h,fun _ => h5⟩
  ·refine ⟨fun e => ?_,h7.2⟩
   have:=h7.1 e
   split at this <;> rename_i hh
   ·rw [if_pos hh];exact this
   ·rw [if_neg hh];exact this
  ·exact ⟨fun e => h11.1 (by simp [e]),fun e => h11.2 (by simp [e])⟩
 ·intro h
  refine ⟨⟨⟨⟨⟨⟨⟨⟨h.kind.1,h.kind.2,h.origin.1,h.origin.2⟩,?_⟩,h.slot⟩,⟨fun e => ?_,h.thing.2⟩⟩,h.a⟩,h.b⟩,h.next⟩,?_⟩
  ·by_cases e:n.kind = 1
   ·rw [if_pos e];exact h.op.1 e
   ·rw [if_neg e];exact h.op.2 e
  ·have:=h.thing.1 e
   split at this <;> rename_i hh
   ·rw [if_pos hh];exact this
   ·rw [if_neg hh];exact this
  ·exact ⟨fun e => h.els.1 (by simpa using e),fun e => h.els.2 (by simpa using e)⟩
theorem fstNot_none {α:Type} {p:α→Bool}:∀ {l:List α} {i:Nat},fstNot p l i = none ↔ ∀ x ∈ l,p x = true
 | [],i => by simp [fstNot]
 | x :: l,i => by
  rw [fstNot]
  by_cases h:p x = true
  ·rw [if_pos h,fstNot_none];simp [h]
  ·rw [if_neg h];simp [h]
structure GraphOk (u:UnitS) (g:Graph):Prop where
 locals:0 ≤ g.locals∧g.locals ≤ 64
 slots:g.locals ≤ g.slots∧g.slots ≤ 4160
 len:1 ≤ g.nodes.length∧g.nodes.length ≤ 4096
 nodes:∀ n ∈ g.nodes,NodeOk u g n
 held:(heldG g).2 < 0
theorem fol_ok {u:UnitS} {g:Graph} {n:Node} (h:NodeOk u g n) {k:Int} (hk:k ∈ n.fol):0 ≤ k∧k < g.nodes.length:=by
 unfold Node.fol at hk
 have hkd:=h.kind
 split at hk
 ·simp at hk
 ·rename_i h9
  have hn:=h.next.1 (by unfold usesNext;exact decide_eq_true (by omega))
  split at hk
  ·rename_i h8
   have he:=h.els.1 h8
   simp only [List.mem_cons,List.not_mem_nil,or_false] at hk
   rcases hk with rfl|rfl
   ·exact hn
   ·exact he
  ·simp only [List.mem_cons,List.not_mem_nil,or_false] at hk
   subst hk;exact hn
theorem whole_of {u:UnitS} {g:Graph} (hl:1 ≤ g.nodes.length∧g.nodes.length ≤ 4096) (h:∀ n ∈ g.nodes,NodeOk u g n):Whole g :=
 ⟨hl.1,hl.2,fun i hi => by
  have hn:=h _ (getD_mem' default hi)
  exact ⟨hn.kind.1,hn.kind.2,fun k hk => by have:=fol_ok hn hk;omega⟩⟩
theorem GraphOk.whole {u:UnitS} {g:Graph} (h:GraphOk u g):Whole g:=whole_of h.len h.nodes
theorem GraphOk.node {u:UnitS} {g:Graph} (h:GraphOk u g) {i:Nat} (hi:i < g.nodes.length):NodeOk u g (g.nd i):=h.nodes _ (getD_mem' default hi)
theorem graphF_none {u:UnitS} {g:Graph}:graphF u g = none ↔ GraphOk u g:=by
 unfold graphF
 constructor
 ·intro h
  split at h
  ·cases h
  ·rename_i h1
   cases hf:fstNot (nodeB u g) g.nodes 0 with
   | some i => rw [hf] at h;cases h
   | none =>
    rw [hf] at h
    simp only at h
    split at h
    ·cases h
    ·rename_i h2
     exact ⟨by omega,by omega,by omega,fun n hn => nodeB_iff.1 (fstNot_none.1 hf n hn),by omega⟩
 ·intro h
  have h1:=h.locals
  have h2:=h.slots
  have h3:=h.len
  have h4:=h.held
  rw [if_neg (by omega),fstNot_none.2 fun n hn => nodeB_iff.2 (h.nodes n hn)]
  simp only
  rw [if_neg (by omega)]
theorem graphsF_ok {u:UnitS}:∀ {l:List Graph} {t:Nat},graphsF u l t = (0,0,0) ↔ ∀ g ∈ l,GraphOk u g
 | [],t => by simp [graphsF]
 | g :: r,t => by
  rw [graphsF]
  cases h:graphF u g with
  | some k =>
   have:¬ GraphOk u g:=fun e => by rw [graphF_none.2 e] at h;cases h
   simp [this]
  | none =>
   have:=graphF_none.1 h
   simp [graphsF_ok,this]
theorem graphsF_bad {u:UnitS}:∀ {l:List Graph} {t:Nat},graphsF u l t ≠ (0,0,0)→(graphsF u l t).1 = 60
 | [],t,h => absurd rfl h
 | g :: r,t,h => by
  rw [graphsF] at h ⊢
  cases hg:graphF u g with
  | some k => rfl
  | none => rw [hg] at h;exact graphsF_bad h
structure RightU (u:UnitS):Prop where
 named:namedB u = true
 graphs:∀ g ∈ u.graphs,GraphOk u g
theorem checkU_ok {u:UnitS}:checkU u = (0,0,0) ↔ RightU u:=by
 unfold checkU
 constructor
 ·intro h
  split at h
  ·rename_i hn;exact ⟨hn,graphsF_ok.1 h⟩
  ·cases h
 ·intro h;rw [if_pos h.named,graphsF_ok.2 h.graphs]
theorem checkU_bad {u:UnitS} (h:¬ RightU u):(checkU u).1 = 60:=by
 have h2:=mt checkU_ok.1 h
 unfold checkU at h2 ⊢
 split
 ·rename_i hn;rw [if_pos hn] at h2;exact graphsF_bad h2
 ·rfl
open Classical in
noncomputable def rightB (u:UnitS):Bool:=decide (RightU u)
open Classical in
theorem rightB_iff {u:UnitS}:rightB u = true ↔ RightU u:=by unfold rightB;rw [decide_eq_true_eq]
theorem RightU.few {u:UnitS} (h:RightU u):u.shared.length ≤ 64∧u.locks.length ≤ 16∧u.graphs.length ≤ 8:=by
 have:=h.named
 unfold namedB at this
 simp only [Bool.and_eq_true,decide_eq_true_eq] at this
 exact ⟨this.1.1.1.1,this.1.1.1.2,this.1.1.2⟩
theorem RightU.gr {u:UnitS} (h:RightU u) {t:Nat} (ht:t < u.graphs.length):GraphOk u (u.gr t):=h.graphs _ (getD_mem' default ht)
theorem lk_in {u:UnitS} {g:Graph} (hg:GraphOk u g) {lk:Nat→List Int} (hlk:LkOk g lk):∀ i:Int,Come g (-1) i→∀ k ∈ lk i.toNat,0 ≤ k∧k < u.locks.length:=by
 have hw:=hg.whole
 have hin:∀ i:Int,Come g (-1) i→0 ≤ i∧i.toNat < g.nodes.length:=fun i hi => by
  induction hi with
  | zero => exact ⟨by omega,by have:=hw.1;simp;omega⟩
  | @step i k _ _ hk ih =>
   exact (hw.2.2 i.toNat ih.2).2.2 k hk
 intro i hi
 induction hi with
 | zero => intro k hk;rw [show (0:Int).toNat = 0 by rfl,hlk.zero] at hk;simp at hk
 | @step i j hi hc hj ih =>
  obtain ⟨now,h1,h2⟩:=hlk.on i hi
  have hn:=hg.node (hin i hi).2
  rw [h2 j hj]
  intro k hk
  unfold heldNow at h1
  split at h1
  ·rename_i h5
   cases h1
   rcases List.mem_append.1 hk with hk|hk
   ·exact ih k hk
   ·simp only [List.mem_cons,List.not_mem_nil,or_false] at hk
    subst hk
    have:=hn.thing.1 (by unfold usesThing;exact decide_eq_true (by omega))
    rw [if_pos (.inl h5)] at this
    exact this
  ·split at h1
   ·split at h1
    ·cases h1
     exact ih k (List.dropLast_subset _ hk)
    ·cases h1
   ·split at h1
    ·split at h1
     ·cases h1;exact ih k hk
     ·cases h1
    ·cases h1;exact ih k hk
theorem held_in {u:UnitS} {g:Graph} (hg:GraphOk u g) (i:Nat):∀ k ∈ (heldG g).1.getD i [],0 ≤ k∧k < u.locks.length:=by
 obtain ⟨h1,h2,h3,h4⟩:=heldG_ok hg.whole hg.held
 by_cases hi:i < g.nodes.length
 ·by_cases hc:Come g (-1) i
  ·exact lk_in hg h3 i hc
  ·rw [h4 i hi hc];intro k hk;simp at hk
 ·rw [List.getD,List.getElem?_eq_none (by omega)];intro k hk;simp at hk
theorem acc_in {u:UnitS} (hu:RightU u) {m:Nat} (hm:m ≤ u.graphs.length):∀ x ∈ accs u m,x.1 < m∧(∃ i,i < (u.gr x.1).nodes.length∧x.2.1 = (u.gr x.1).nd i)∧∀ k ∈ x.2.2,0 ≤ k∧k < u.locks.length:=by
 intro x hx
 unfold accs at hx
 rw [List.mem_flatMap] at hx
 obtain ⟨t,ht,hx⟩:=hx
 have htl:=List.mem_range.1 ht
 unfold accL at hx
 rw [List.mem_filterMap] at hx
 obtain ⟨i,hi,hx⟩:=hx
 unfold accG at hx
 split at hx
 ·cases hx
  exact ⟨htl,⟨i,List.mem_range.1 hi,rfl⟩,held_in (hu.gr (by omega)) i⟩
 ·cases hx
theorem touch_in {u:UnitS} (hu:RightU u) (v:Int):∀ x ∈ touchL (accs u u.graphs.length) v,x.1 < 8∧∀ k ∈ x.2,0 ≤ k∧k < u.locks.length:=by
 intro x hx
 unfold touchL at hx
 rw [List.mem_map] at hx
 obtain ⟨y,hy,rfl⟩:=hx
 have:=acc_in hu (Nat.le_refl _) y (List.mem_filter.1 hy).1
 have hf:=hu.few
 exact ⟨by dsimp only;omega,this.2.2⟩
theorem class_eq {u:UnitS} (hu:RightU u) (v:Int):classB ((lookE (usesE (accs u u.graphs.length)) v).getD (0,0)) = classT u.locks.length (touchL (accs u u.graphs.length) v):=by
 rw [← classB_eq hu.few.2.1 (touch_in hu v),usesE_look]
 split <;> rfl
end Go.Proofs.YtmonponfppdgfaaGreatDoor
end
section
/- The document's small questions of units: the walk. -/
namespace Go.Proofs.YtmonponfppdgfaaGreatDoor
open Go Go.Abs Go.Proofs
set_option linter.unusedSimpArgs false
set_option linter.unusedVariables false
theorem Val.ext3r {a b:Val} (h1:a.isSlot = b.isSlot) (h2:a.slot = b.slot) (h3:a.word = b.word):a = b:=by
 obtain ⟨a1,a2,a3⟩:=a
 obtain ⟨b1,b2,b3⟩:=b
 simp only at h1 h2 h3
 subst h1;subst h2;subst h3;rfl
theorem rdigit_pure (c:Int):Pure Tryz.prog 107 [u8 c] (fun r => r = bl (digitB c)):=by
 refine Go.pureL lf107 rfl ?_
 repeat' (first|((with_reducible refine Go.red ?_);conv => whnf)|refine aG ?_|exact aC|with_reducible refine Go.and ?_ ?_|(apply Go.elem;(·exact aElem))|refine aH ?_|((with_reducible refine Go.bool ?_ ?_) <;> intro hc <;> (try simp only [List.length_map,ne_eq,hcs] at hc) <;> try (exfalso;omega)))
 refine bl_eq ?_
 unfold digitB
 by_cases h1:48 ≤ c <;> by_cases h2:c ≤ 57 <;> simp [h1,h2]
theorem rletter_pure (c:Int):Pure Tryz.prog 109 [u8 c] (fun r => r = bl (letterB c)):=by
 refine Go.pureL lf109 rfl ?_
 repeat' (first|((with_reducible refine Go.red ?_);conv => whnf)|refine aG ?_|exact aC|with_reducible refine Go.and ?_ ?_|(apply Go.elem;(·exact aElem))|refine aH ?_|((with_reducible refine Go.bool ?_ ?_) <;> intro hc <;> (try simp only [List.length_map,ne_eq,hcs] at hc) <;> try (exfalso;omega)))
 refine bl_eq ?_
 unfold letterB
 by_cases h1:97 ≤ c <;> by_cases h2:c ≤ 122 <;> by_cases h3:65 ≤ c <;> by_cases h4:c ≤ 90 <;> by_cases h5:c = 95 <;> simp [h1,h2,h3,h4,h5]
theorem rword_pure (s:ByteArray):Pure Tryz.prog 108 [st s] (fun r => r = bl (wordB s)):=by
 refine Go.pureL lf108 rfl ?_
 repeat' (first|((with_reducible refine Go.red ?_);conv => whnf)|refine aG ?_|exact aC|with_reducible refine Go.and ?_ ?_|(apply Go.elem;(·exact aElem))|refine aH ?_|((with_reducible refine Go.bool ?_ ?_) <;> intro hc <;> (try simp only [List.length_map,ne_eq,hcs] at hc) <;> try (exfalso;omega)))
 all_goals refine bl_eq ?_
 all_goals simp_all [wordB,wordsL]
theorem rname_pure (s:ByteArray) (hs:s.size ≤ 140737488351232):Pure Tryz.prog 92 [st s] (fun r => r = bl (nameB s)):=by
 refine Go.pureL lf92 rfl ?_
 by_cases hz:(s.size:Int) < 1
 ·have hb:nameB s = false:=by unfold nameB;rw [decide_eq_false (by omega)];simp
  rw [hb]
  repeat' (first|((with_reducible refine Go.red ?_);conv => whnf)|refine aG ?_|exact aC|with_reducible refine Go.and ?_ ?_|(apply Go.elem;(·exact aElem))|((with_reducible refine Go.callW (rdigit_pure _) ?_ ?_);(·exact aFit))|((with_reducible refine Go.callJ (fun _ => rdigit_pure _) ?_ ?_);(·exact aFit))|((with_reducible refine Go.callE (rdigit_pure _) ?_ ?_);(·exact aFit))|((with_reducible refine Go.callF (fun _ => rdigit_pure _) ?_ ?_);(·exact aFit))|((with_reducible refine Go.callW (rword_pure _) ?_ ?_);(·exact aFit))|((with_reducible refine Go.callJ (fun _ => rword_pure _) ?_ ?_);(·exact aFit))|((with_reducible refine Go.callE (rword_pure _) ?_ ?_);(·exact aFit))|((with_reducible refine Go.callF (fun _ => rword_pure _) ?_ ?_);(·exact aFit))|((with_reducible refine Go.callW (rletter_pure _) ?_ ?_);(·exact aFit))|((with_reducible refine Go.callJ (fun _ => rletter_pure _) ?_ ?_);(·exact aFit))|((with_reducible refine Go.callE (rletter_pure _) ?_ ?_);(·exact aFit))|((with_reducible refine Go.callF (fun _ => rletter_pure _) ?_ ?_);(·exact aFit))|(simp only [hz,decide_true])|refine aH ?_|((with_reducible refine Go.bool ?_ ?_) <;> intro hc <;> (try simp only [List.length_map,ne_eq,hcs] at hc) <;> try (exfalso;omega)))
 ·repeat' (first|((with_reducible refine Go.red ?_);conv => whnf)|refine aG ?_|exact aCn|with_reducible refine Go.and ?_ ?_|((with_reducible refine Ask.mk ?_);first|exact aAsk|((refine Ask.mk ?_);intro h;exact ⟨by omega,by omega⟩)|exact aAsk2)|(apply Go.elem;(·exact aElem))|((with_reducible refine Go.callW (rdigit_pure _) ?_ ?_);(·exact aFit))|((with_reducible refine Go.callJ (fun _ => rdigit_pure _) ?_ ?_);(·exact aFit))|((with_reducible refine Go.callE (rdigit_pure _) ?_ ?_);(·exact aFit))|((with_reducible refine Go.callF (fun _ => rdigit_pure _) ?_ ?_);(·exact aFit))|((with_reducible refine Go.callW (rword_pure _) ?_ ?_);(·exact aFit))|((with_reducible refine Go.callJ (fun _ => rword_pure _) ?_ ?_);(·exact aFit))|((with_reducible refine Go.callE (rword_pure _) ?_ ?_);(·exact aFit))|((with_reducible refine Go.callF (fun _ => rword_pure _) ?_ ?_);(·exact aFit))|((with_reducible refine Go.callW (rletter_pure _) ?_ ?_);(·exact aFit))|((with_reducible refine Go.callJ (fun _ => rletter_pure _) ?_ ?_);(·exact aFit))|((with_reducible refine Go.callE (rletter_pure _) ?_ ?_);(·exact aFit))|((with_reducible refine Go.callF (fun _ => rletter_pure _) ?_ ?_);(·exact aFit))|(simp only [hz,decide_false])|refine aH ?_|((with_reducible refine Go.bool ?_ ?_) <;> intro hc <;> (try simp only [List.length_map,ne_eq,hcs] at hc) <;> try (exfalso;omega)))
  ·refine bl_eq (Eq.symm ?_)
   unfold nameB
   have hp:(decide (1 ≤ s.size) && decide (s.size ≤ 32) && !digitB (byteB s 0) && !wordB s) = false:=by
    rcases hc with ((h|h)|h)|h
    ·exact absurd h (by decide)
    ·simp [show ¬ s.size ≤ 32 by omega]
    ·have h:digitB (byteB s 0) = true:=h
     simp [h]
    ·simp [h]
   rw [hp,Bool.false_and]
  ·have hp:(decide (1 ≤ s.size) && decide (s.size ≤ 32) && !digitB (byteB s 0) && !wordB s) = true:=by
    have h1:s.size ≤ 32:=by
     have:¬ (32:Int) < s.size:=fun h => hc.1 (.inl (.inr h))
     omega
    have h2:digitB (byteB s 0) = false:=by
     cases hd:digitB (byteB s 0) with
     | false => rfl
     | true => exact absurd (.inr hd) hc.1
    have h3:wordB s = false:=hc.2
    rw [decide_eq_true (by omega:1 ≤ s.size),decide_eq_true h1,h2,h3];rfl
   have hb:∀ R,(decide (1 ≤ s.size) && decide (s.size ≤ 32) && !digitB (byteB s 0) && !wordB s && R) = R:=fun R => by rw [hp,Bool.true_and]
   unfold nameB
   rw [hb]
   clear hc hp hb
   refine Go.loop (fun i:Nat => [(0,st s),(3,i64 i)]) (fun i H n => i ≤ s.size∧∀ j,j < i→(letterB (byteB s j) || digitB (byteB s j)) = true) (fun i => s.size - i) 0 aLess ⟨Nat.zero_le _,fun _ h => by omega⟩ ?_
   rintro i H n ⟨hi,hall⟩
   by_cases his:i < s.size
   ·repeat' (first|((with_reducible refine Go.red ?_);conv => whnf)|refine aG ?_|exact aCn|with_reducible refine Go.and ?_ ?_|((with_reducible refine Ask.mk ?_);first|exact aAsk|((refine Ask.mk ?_);intro h;exact ⟨by omega,by omega⟩)|exact aAsk2)|(apply Go.elem;(·exact aElem))|((with_reducible refine Go.callW (rdigit_pure _) ?_ ?_);(·exact aFit))|((with_reducible refine Go.callJ (fun _ => rdigit_pure _) ?_ ?_);(·exact aFit))|((with_reducible refine Go.callE (rdigit_pure _) ?_ ?_);(·exact aFit))|((with_reducible refine Go.callF (fun _ => rdigit_pure _) ?_ ?_);(·exact aFit))|((with_reducible refine Go.callW (rletter_pure _) ?_ ?_);(·exact aFit))|((with_reducible refine Go.callJ (fun _ => rletter_pure _) ?_ ?_);(·exact aFit))|((with_reducible refine Go.callE (rletter_pure _) ?_ ?_);(·exact aFit))|((with_reducible refine Go.callF (fun _ => rletter_pure _) ?_ ?_);(·exact aFit))|refine aH ?_|((with_reducible refine Go.bool ?_ ?_) <;> intro hc <;> (try simp only [List.length_map,ne_eq,hcs] at hc) <;> try (exfalso;omega)))
    ·refine bl_eq (Eq.symm ?_)
     rw [Bool.eq_false_iff,ne_eq,List.all_eq_true]
     intro hA
     have h1:=hA i (List.mem_range.2 his)
     have hc:letterB (byteB s i) = false∧digitB (byteB s i) = false:=hc
     rw [hc.1,hc.2] at h1
     cases h1
    ·refine ⟨i + 1,by omega,aLess,by omega,fun j hj => ?_⟩
     by_cases hji:j = i
     ·have hc:¬ letterB (byteB s i) = false ∨ digitB (byteB s i) = true:=hc
      rw [hji]
      rcases hc with h|h
      ·rw [Bool.not_eq_false] at h
       rw [h,Bool.true_or]
      ·rw [h,Bool.or_true]
     ·exact hall j (by omega)
   ·have:i = s.size:=by omega
    subst this
    repeat' (first|((with_reducible refine Go.red ?_);conv => whnf)|refine aG ?_|exact aC|with_reducible refine Go.and ?_ ?_|(apply Go.elem;(·exact aElem))|refine aH ?_|((with_reducible refine Go.bool ?_ ?_) <;> intro hc <;> (try simp only [List.length_map,ne_eq,hcs] at hc) <;> try (exfalso;omega)))
    refine bl_eq (Eq.symm ?_)
    rw [List.all_eq_true]
    intro j hj
    exact hall j (List.mem_range.1 hj)
theorem ruses_pure (k:Int):Pure Tryz.prog 93 [u8 k] (fun r => r = .tup [bl (usesSlot k),bl (usesThing k),bl (usesA k),bl (usesNext k)]):=by
 refine Go.pureL lf93 rfl ?_
 repeat' (first|((with_reducible refine Go.red ?_);conv => whnf)|refine aG ?_|exact aC|with_reducible refine Go.and ?_ ?_|(apply Go.elem;(·exact aElem))|refine aH ?_|((with_reducible refine Go.bool ?_ ?_) <;> intro hc <;> (try simp only [List.length_map,ne_eq,hcs] at hc) <;> try (exfalso;omega)))
 all_goals first
  | (subst hc;exact rfl)
  | (have h1:usesSlot k = false:=decide_eq_false (by omega)
     have h2:usesThing k = false:=decide_eq_false (by omega)
     have h3:usesA k = false:=decide_eq_false (by omega)
     have h4:usesNext k = false:=decide_eq_false (by omega)
     rw [h1,h2,h3,h4])
theorem rnumber_pure (n most:Int) (b:Bool):Pure Tryz.prog 95 [i64 n,bl b,i64 most] (fun r => r = bl (numB n b most)):=by
 refine Go.pureL lf95 rfl ?_
 cases b with
 | false =>
  repeat' (first|((with_reducible refine Go.red ?_);conv => whnf)|refine aG ?_|exact aC|with_reducible refine Go.and ?_ ?_|(apply Go.elem;(·exact aElem))|refine aH ?_|((with_reducible refine Go.bool ?_ ?_) <;> intro hc <;> (try simp only [List.length_map,ne_eq,hcs] at hc) <;> try (exfalso;omega)))
  exact rfl
 | true =>
  repeat' (first|((with_reducible refine Go.red ?_);conv => whnf)|refine aG ?_|exact aC|with_reducible refine Go.and ?_ ?_|(apply Go.elem;(·exact aElem))|refine aH ?_|((with_reducible refine Go.bool ?_ ?_) <;> intro hc <;> (try simp only [List.length_map,ne_eq,hcs] at hc) <;> try (exfalso;omega)))
  refine bl_eq ?_
  unfold numB
  by_cases h1:0 ≤ n <;> by_cases h2:n < most <;> simp [h1,h2]
theorem rvalue_pure (v:Val) (b:Bool) (slots:Int):Pure Tryz.prog 96 [v.av,bl b,i64 slots] (fun r => r = bl (valB v b slots)):=by
 refine Go.pureL lf96 rfl ?_
 cases b with
 | false =>
  repeat' (first|((with_reducible refine Go.red ?_);conv => whnf)|refine aG ?_|exact aCn|with_reducible refine Go.and ?_ ?_|((with_reducible refine Ask.mk ?_);first|exact aAsk|exact aAsk2|(intro h;simp_all [Val.cells] <;> fail)|(simp_all [Val.cells] <;> fail))|(apply Go.elem;(·exact aElem))|refine aH ?_|((with_reducible refine Go.bool ?_ ?_) <;> intro hc <;> (try simp only [List.length_map,ne_eq,hcs] at hc) <;> try (exfalso;omega)))
  refine bl_eq ?_
  unfold valB
  rw [if_neg (by decide),Bool.eq_iff_iff,decide_eq_true_eq]
  constructor
  ·intro h
   simp at h
   exact Val.ext3r h.1 h.2.1 h.2.2
  ·intro h
   rw [h];rfl
 | true =>
  repeat' (first|((with_reducible refine Go.red ?_);conv => whnf)|refine aG ?_|exact aCn|with_reducible refine Go.and ?_ ?_|((with_reducible refine Ask.mk ?_);first|exact aAsk|exact aAsk2|(intro h;simp_all [Val.cells] <;> fail)|(simp_all [Val.cells] <;> fail))|(apply Go.elem;(·exact aElem))|refine aH ?_|((with_reducible refine Go.bool ?_ ?_) <;> intro hc <;> (try simp only [List.length_map,ne_eq,hcs] at hc) <;> try (exfalso;omega)))
  all_goals refine bl_eq ?_
  all_goals unfold valB
  ·rw [if_pos rfl,if_pos hc]
   by_cases h1:0 ≤ v.slot <;> by_cases h2:v.slot < slots <;> by_cases h3:v.word = 0 <;> simp [h1,h2,h3]
  ·rw [if_pos rfl,if_neg (by rw [hc];decide)]
set_option maxRecDepth 4000 in
set_option maxHeartbeats 4000000 in
theorem rnode_pure (u:UnitS) (g:Graph) (n:Node) (hn:n.Wf):Pure Tryz.prog 56 [u.av,g.av,n.av] (fun r => r = bl (nodeB u g n)):=by
 have h0:=hn.kind
 have ho:=hn.op
 refine Go.pureL lf56 rfl ?_
 have hva:Pure Tryz.prog 96 [.agg (List.take 3 (List.drop (0 + 4) n.cells)),bl (usesA n.kind),i64 g.slots] (fun r => r = bl (valB n.a (usesA n.kind) g.slots)):=rvalue_pure n.a _ _
 have hvb:∀ b,Pure Tryz.prog 96 [.agg (List.take 3 (List.drop (0 + 7) n.cells)),bl b,i64 g.slots] (fun r => r = bl (valB n.b b g.slots)):=fun b => rvalue_pure n.b b _
 have hfa:fitL 0 [.agg (List.take 3 (List.drop (0 + 4) n.cells)),bl (usesA n.kind),i64 g.slots]:=by simp [fitL,fitA,Node.cells]
 have hfb:∀ b,fitL 0 [.agg (List.take 3 (List.drop (0 + 7) n.cells)),bl b,i64 g.slots]:=fun b => by simp [fitL,fitA,Node.cells]
 have hif:∀ a b:Bool,(if a = true then b else false) = (a && b):=fun a b => by cases a <;> rfl
 by_cases hk:1 ≤ n.kind∧n.kind < 10∧0 ≤ n.origin∧n.origin < 4096
 ·repeat' (first|((with_reducible refine Go.red ?_);conv => whnf)|refine aG ?_|exact aCn|with_reducible refine Go.and ?_ ?_|((with_reducible refine Ask.mk ?_);first|exact aAsk|exact aAsk2|(intro h;simp_all [UnitS.cells,Graph.cells,Node.cells] <;> fail)|(simp_all [UnitS.cells,Graph.cells,Node.cells] <;> fail))|(apply Go.elem;(·exact aElem))|((with_reducible refine Go.callW (ruses_pure _) ?_ ?_);(·exact aFit))|((with_reducible refine Go.callJ (fun _ => ruses_pure _) ?_ ?_);(·exact aFit))|((with_reducible refine Go.callE (ruses_pure _) ?_ ?_);(·exact aFit))|((with_reducible refine Go.callF (fun _ => ruses_pure _) ?_ ?_);(·exact aFit))|((with_reducible refine Go.callW (rnumber_pure _ _ _) ?_ ?_);(·exact aFit))|((with_reducible refine Go.callJ (fun _ => rnumber_pure _ _ _) ?_ ?_);(·exact aFit))|((with_reducible refine Go.callE (rnumber_pure _ _ _) ?_ ?_);(·exact aFit))|((with_reducible refine Go.callF (fun _ => rnumber_pure _ _ _) ?_ ?_);(·exact aFit))|((with_reducible refine Go.callW (rtwo_pure _) ?_ ?_);(·exact aFit))|((with_reducible refine Go.callJ (fun _ => rtwo_pure _) ?_ ?_);(·exact aFit))|((with_reducible refine Go.callE (rtwo_pure _) ?_ ?_);(·exact aFit))|((with_reducible refine Go.callF (fun _ => rtwo_pure _) ?_ ?_);(·exact aFit))|(refine Go.callJ (fun _ => hva) hfa ?_)|(refine Go.callJ (fun _ => hvb _) (hfb _) ?_)|refine aH ?_|((with_reducible refine Go.bool ?_ ?_) <;> intro hc <;> (try simp only [List.length_map,ne_eq,hcs] at hc) <;> try (exfalso;omega)))
  all_goals rename_i h56
  all_goals refine bl_eq (Eq.symm ?_)
  all_goals unfold nodeB
  all_goals rw [decide_eq_true hk,Bool.true_and]
  ·have hop:(if n.kind = 1 then decide (n.op < 19) else decide (n.op = 0)) = false:=by split <;> exact decide_eq_false (by omega)
   rw [hop];simp
  ·have hop:(if n.kind = 1 then decide (n.op < 19) else decide (n.op = 0)) = true:=by split <;> exact decide_eq_true (by omega)
   rw [hop,Bool.true_and,if_pos h56]
   simp only [hif,List.length_map]
  ·have hop:(if n.kind = 1 then decide (n.op < 19) else decide (n.op = 0)) = false:=by split <;> exact decide_eq_false (by omega)
   rw [hop];simp
  ·have hop:(if n.kind = 1 then decide (n.op < 19) else decide (n.op = 0)) = true:=by split <;> exact decide_eq_true (by omega)
   rw [hop,Bool.true_and,if_neg (by omega)]
   simp only [hif,List.length_map]
 ·have hb:nodeB u g n = false:=by unfold nodeB;rw [decide_eq_false hk];simp
  rw [hb]
  repeat' (first|((with_reducible refine Go.red ?_);conv => whnf)|refine aG ?_|exact aCn|with_reducible refine Go.and ?_ ?_|((with_reducible refine Ask.mk ?_);first|exact aAsk|exact aAsk2|(intro h;simp_all [UnitS.cells,Graph.cells,Node.cells] <;> fail)|(simp_all [UnitS.cells,Graph.cells,Node.cells] <;> fail))|(apply Go.elem;(·exact aElem))|((with_reducible refine Go.callW (ruses_pure _) ?_ ?_);(·exact aFit))|((with_reducible refine Go.callJ (fun _ => ruses_pure _) ?_ ?_);(·exact aFit))|((with_reducible refine Go.callE (ruses_pure _) ?_ ?_);(·exact aFit))|((with_reducible refine Go.callF (fun _ => ruses_pure _) ?_ ?_);(·exact aFit))|((with_reducible refine Go.callW (rnumber_pure _ _ _) ?_ ?_);(·exact aFit))|((with_reducible refine Go.callJ (fun _ => rnumber_pure _ _ _) ?_ ?_);(·exact aFit))|((with_reducible refine Go.callE (rnumber_pure _ _ _) ?_ ?_);(·exact aFit))|((with_reducible refine Go.callF (fun _ => rnumber_pure _ _ _) ?_ ?_);(·exact aFit))|((with_reducible refine Go.callW (rtwo_pure _) ?_ ?_);(·exact aFit))|((with_reducible refine Go.callJ (fun _ => rtwo_pure _) ?_ ?_);(·exact aFit))|((with_reducible refine Go.callE (rtwo_pure _) ?_ ?_);(·exact aFit))|((with_reducible refine Go.callF (fun _ => rtwo_pure _) ?_ ?_);(·exact aFit))|(refine Go.callJ (fun _ => hva) hfa ?_)|(refine Go.callJ (fun _ => hvb _) (hfb _) ?_)|refine aH ?_|((with_reducible refine Go.bool ?_ ?_) <;> intro hc <;> (try simp only [List.length_map,ne_eq,hcs] at hc) <;> try (exfalso;omega)))
  all_goals first|exact rfl|(exfalso;omega)
end Go.Proofs.YtmonponfppdgfaaGreatDoor
end
section
/- Lists of numbers: cloned, and held one against another. -/
namespace Go.Abs
open Go.RowKit
theorem Wk.weak {H:Hp} {nx b:Nat} {e:TypeId} {sz:Nat} {d:AV} {es es2:List AV} (d2:AV) (hb:getH H b = some (.row e sz d es)) (hl:es.length = es2.length) (h:∀ c c2:Cx,c.le c2→c2.w = c.w→AVles c c2 es es2):Wk .any H nx .any ((b,some (.row e sz d2 es2)) :: H) nx:=by
 refine Wk.tell (Nat.le_refl _) (fun x e' sz' d' es' he => ?_) (fun w0 c c2 hS hU hc hc2 hw hle hnew hM => ⟨AVle.any _ _ _,fun x e' sz' d' es' d0 es0 h1 h2 => ?_⟩)
 ·by_cases hx:x = b
  ·subst hx
   rw [getH_here] at he
   cases he
   exact .inl ⟨d,es,hb,hl⟩
  ·rw [getH_skipEq hx] at he
   exact .inl ⟨d',es',he,rfl⟩
 ·by_cases hx:x = b
  ·subst hx
   rw [getH_here] at h1
   rw [hb] at h2
   cases h1;cases h2
   exact h c c2 hle hw
  ·rw [getH_skipEq hx] at h1
   rw [h1] at h2;cases h2
   exact AVles.keep hle _
theorem AVles.rep {c c2:Cx} {a b:AV} (h:AVle c c2 a b):∀ n,AVles c c2 (List.replicate n a) (List.replicate n b)
 | 0 => .nil
 | n + 1 => .cons h (AVles.rep h n)
end Go.Abs
namespace Go.Proofs.YtmonponfppdgfaaGreatDoor
open Go Go.Abs Go.Proofs
set_option linter.unusedSimpArgs false
set_option linter.unusedVariables false
theorem int_getD {l:List Int} {i:Nat} (h:i < l.length) (d:AV):(l.map i64).getD i d = i64 (l.getD i 0):=getD_av i64 l i d h
theorem clone_ints_im {es:List AV} (hsz:es.length * 8 ≤ 140737488355328):CallN Tryz.prog 89 [.im 1 .any es] [] 0 (Cloned [] 0 3 1 es):=by
 refine Cloned.of (by omega) ?_
 refine Go.fnL lf89 rfl ?_
 cases hes:es with
 | nil =>
  repeat' (first|((with_reducible refine Go.red ?_);conv => whnf)|refine aG ?_|exact aC|with_reducible refine Go.and ?_ ?_|(apply Go.elem;(·exact aElem))|refine aH ?_|((with_reducible refine Go.bool ?_ ?_) <;> intro hc <;> (try simp only [List.length_map,ne_eq,hcs] at hc) <;> try (exfalso;omega)))
  ·exact ⟨.inl ⟨rfl,rfl,aNx,aKeep⟩⟩
  ·exact ⟨.inr ⟨_,_,rfl,aNx,aNx,aNx,aRow,aKeep⟩⟩
 | cons x t =>
  rw [hes] at hsz
  simp only [List.length_cons] at hsz
  repeat' (first|((with_reducible refine Go.red ?_);conv => whnf)|refine aG ?_|exact aC|with_reducible refine Go.and ?_ ?_|(apply Go.elem;(·exact aElem))|refine aH ?_|((with_reducible refine Go.bool ?_ ?_) <;> intro hc <;> (try simp only [List.length_map,ne_eq,hcs] at hc) <;> try (exfalso;omega)))
  ·exact ⟨.inr ⟨3,_,(by simp),aNx,aNx,aNx,aRow,aKeep⟩⟩
theorem clone_ints_mk {es:List AV} (hsz:es.length * 8 ≤ 140737488355328):CallN Tryz.prog 89 [.im 1 .any es] [] 0 (fun r1 H1 _ => ∃ b d0,r1 = .sl b es.length∧getH H1 b = some (.row 3 1 d0 es)) :=
 (clone_ints_im hsz).mono fun r H n ⟨b,d,h1,_,_,_,h2,_⟩ => ⟨b,d,h1,h2⟩
theorem eqInts_pure (l m:List Int) (hl:l.length * 8 ≤ 140737488351232) (hm:m.length * 8 ≤ 140737488351232):Pure Tryz.prog 91 [imF l,imF m] (fun r => r = bl (decide (l = m))):=by
 refine Go.pureL lf91 rfl ?_
 unfold imF
 repeat' (first|((with_reducible refine Go.red ?_);conv => whnf)|refine aG ?_|exact aC|with_reducible refine Go.and ?_ ?_|(apply Go.elem;(·exact aElem))|refine aH ?_|((with_reducible refine Go.bool ?_ ?_) <;> intro hc <;> (try simp only [List.length_map,ne_eq,hcs] at hc) <;> try (exfalso;omega)))
 ·refine bl_eq (Eq.symm ?_)
  exact decide_eq_false fun e => hc (by rw [e])
 ·have hlm:l.length = m.length:=by omega
  refine Go.loop (fun i:Nat => [(0,imF l),(1,imF m),(12,i64 l.length),(13,i64 i)])
   (fun i H n => i ≤ l.length∧∀ j,j < i→l.getD j 0 = m.getD j 0) (fun i => l.length - i) 0 aLess ⟨Nat.zero_le _,fun _ h => by omega⟩ ?_
  unfold imF
  rintro i H n ⟨hi,hall⟩
  by_cases hil:i < l.length
  ·have e1:=int_getD (l:=l) hil
   have e2:=int_getD (l:=m) (i:=i) (by omega)
   repeat' (first|((with_reducible refine Go.red ?_);conv => whnf)|refine aG ?_|exact aC|with_reducible refine Go.and ?_ ?_|(apply Go.elem;(·(first|exact e1 _|exact e2 _|exact aElem)))|refine aH ?_|((with_reducible refine Go.bool ?_ ?_) <;> intro hc <;> (try simp only [List.length_map,ne_eq,hcs] at hc) <;> try (exfalso;omega)))
   ·refine bl_eq (Eq.symm ?_)
    exact decide_eq_false fun e => hc (by rw [e])
   ·refine ⟨i + 1,by omega,aLess,by omega,fun j hj => ?_⟩
    by_cases hji:j = i
    ·subst hji;exact hc
    ·exact hall j (by omega)
  ·have:i = l.length:=by omega
   subst this
   repeat' (first|((with_reducible refine Go.red ?_);conv => whnf)|refine aG ?_|exact aC|with_reducible refine Go.and ?_ ?_|(apply Go.elem;(·exact aElem))|refine aH ?_|((with_reducible refine Go.bool ?_ ?_) <;> intro hc <;> (try simp only [List.length_map,ne_eq,hcs] at hc) <;> try (exfalso;omega)))
   refine bl_eq (Eq.symm ?_)
   refine decide_eq_true (List.ext_getElem hlm fun j h1 h2 => ?_)
   have:=hall j h1
   simpa [List.getD,h1,h2] using this
def Told (nv:AV) (l:List Int) (H:Hp) (nx:Nat):Prop:=nv = imF l ∨ ∃ b d,nv = .sl b l.length∧b < nx∧getH H b = some (.row 3 1 d (l.map i64))
theorem Told.frz {nv:AV} {l:List Int} {H:Hp} {nx:Nat} (h:Told nv l H nx) (k:Nat):Abs.frz H (k + 1) nv = imF l:=by
 rcases h with rfl|⟨b,d,rfl,_,hb⟩
 ·exact frz_fit _ (by simp [fitA,imF,fitL_map])
 ·rw [frz_sl hb (by simp),frz_same _ ((fitL_map _ _).2 fun _ _ => by simp [fitA])];rfl
theorem told_eq {nv:AV} {l:List Int} {H:Hp} {nx:Nat} (h:Told nv l H nx) (m:List Int) (hl:l.length * 8 ≤ 140737488351232) (hm:m.length * 8 ≤ 140737488351232):CallN Tryz.prog 91 [imF m,nv] H nx (fun r H' n => r = bl (decide (m = l))∧H' = H∧n = nx):=by
 refine Pure.view (args2:=[imF m,imF l]) (eqInts_pure m l hm hl) ?_ (by simp [fitL,fitA,imF,fitL_map]) trivial ⟨rfl,rfl,rfl⟩
 rw [List.map_cons,List.map_cons,List.map_nil,h.frz,frz_fit 6 (by simp [fitA,imF,fitL_map])]
theorem told_clone {nv:AV} {l:List Int} {H:Hp} {nx:Nat} (h:Told nv l H nx) (hl:l.length * 8 ≤ 140737488351232):CallN Tryz.prog 89 [nv] H nx (fun r H' n => r = imF l∧nx ≤ n∧∀ b,b < nx→getH H' b = getH H b):=by
 refine CallN.wk (CallN.freshN (es:=l.map i64) (args2:=[imF l]) (clone_ints_mk (by rw [List.length_map];omega)) (fun i hi => by rw [getD_av i64 _ _ _ (by simpa using hi)];trivial) (by rw [List.map_cons,List.map_nil,h.frz]) (by simp [fitL,fitA,imF,fitL_map])) ?_
 rintro r H' n ⟨rfl,rfl,rfl⟩
 have hw:=Wk.iceR (r:=.sl nx (l.map i64).length) (H:=(nx,some (.row 3 1 .any (l.map i64))) :: H) (nx:=nx + 1) [(nx,some (.row 3 1 .any (l.map i64)))] 1 (fun b q hq => by
  by_cases hb:b = nx
  ·subst hb;rw [getH_here] at hq ⊢;exact hq
  ·rw [getH_skipEq hb] at hq;cases hq)
 refine ⟨_,_,_,hw,?_,by omega,fun b hb => ?_⟩
 ·rw [ice_sl (getH_here _ _ _) rfl,ice_zero];rfl
 ·rw [goneH_cons,goneH_nil,getH_skipEq (by omega),getH_skipEq (by omega)]
end Go.Proofs.YtmonponfppdgfaaGreatDoor
end
