import Derived.Test.YtflicfkgbjmffaaGreatM21
section
/- The heap's own moves. -/
namespace Go.Proofs.YtflicfkgbjmffaaGreat
open Go Go.Abs Go.Proofs
set_option linter.unusedSimpArgs false
set_option linter.unusedVariables false
def upF:Nat→List Int→Nat→List Int
 | 0,l,_ => l
 | f + 1,l,j => if (j - 1) / 2 = j then l else if l.getD j 0 < l.getD ((j - 1) / 2) 0 then upF f (swapL l ((j - 1) / 2) j) ((j - 1) / 2) else l
def downJ (l:List Int) (i n:Nat):Nat:=if 2 * i + 2 < n∧l.getD (2 * i + 2) 0 < l.getD (2 * i + 1) 0 then 2 * i + 2 else 2 * i + 1
def downF:Nat→List Int→Nat→Nat→List Int
 | 0,l,_,_ => l
 | f + 1,l,i,n => if n ≤ 2 * i + 1 then l else if l.getD (downJ l i n) 0 < l.getD i 0 then downF f (swapL l i (downJ l i n)) (downJ l i n) n else l
theorem downF_len:∀ (f:Nat) (l:List Int) (i n:Nat),(downF f l i n).length = l.length
 | 0,_,_,_ => rfl
 | f + 1,l,i,n => by
  simp only [downF]
  split
  ·rfl
  ·split
   ·rw [downF_len f,swapL_len]
   ·rfl
theorem HpAt.swap {R q:Nat} {l l':List Int} {H H':Hp} {d:AV} {nx:Nat} (h:HpAt R q l H) (hl:l'.length = l.length) (hs:getH H' q = some (.row 3 1 d (l'.map i64))) (hf:∀ y,y < nx→y ≠ q→getH H' y = getH H y) (hR:R < nx):HpAt R q l' H':=by
 obtain ⟨⟨dR,hr⟩,_,hne⟩:=h
 exact ⟨⟨dR,by rw [hf R hR hne,hl];exact hr⟩,⟨d,hs⟩,hne⟩
set_option maxRecDepth 40000 in
set_option maxHeartbeats 4000000 in
theorem up_call (R q:Nat) (l:List Int) (j:Nat) (H:Hp) (nx:Nat) (h:HpAt R q l H) (hR:R < nx) (hq:q < nx) (hl:l.length < 1000) (hj:j < l.length) :
  CallN Tryz.prog 65 [hpV R,i64 j] H nx (fun r H' nx' => HpTo R q (upF (j + 1) l j) H nx H' nx'):=by
 refine Go.fnL lf65 rfl ?_
 repeat' (first|((with_reducible refine Go.red ?_);conv => whnf)|refine aG ?_|exact aC|with_reducible refine Go.and ?_ ?_|(apply Go.elem;(·exact aElem))|refine aH ?_|((with_reducible refine Go.bool ?_ ?_) <;> intro hc <;> (try simp only [List.length_map,ne_eq,hcs] at hc) <;> try (exfalso;omega)))
 generalize hU:upF (j + 1) l j = U
 refine Go.loop (fun p:Nat × Nat × List Int => [(0,hpV R),(1,i64 p.2.1)])
  (fun p H9 n9 => p.2.1 < p.1∧p.2.1 < p.2.2.length∧p.2.2.length = l.length∧U = upF p.1 p.2.2 p.2.1∧HpTo R q p.2.2 H nx H9 n9) (fun p => p.1) (j + 1,j,l) aLess ⟨by dsimp only;omega,hj,rfl,hU.symm,aNx,h,fun _ _ _ _ => rfl⟩ ?_
 rintro ⟨f,j1,l1⟩ H1 n1 ⟨hf,hj1,hl1,he,hn1,hp,hfr⟩
 dsimp only at hf hj1 hl1 he hp ⊢
 obtain ⟨d1,hs1⟩:=hp.s
 have hdiv:IntKind.i64.wrap (((j1:Int) - 1).tdiv 2) = (((j1 - 1) / 2:Nat):Int):=by
  rcases Nat.eq_zero_or_pos j1 with h0|h0
  ·subst h0;decide
  ·have e:((j1:Int) - 1) = ((j1 - 1:Nat):Int):=by omega
   rw [e,Int.tdiv_eq_ediv_of_nonneg (by omega)]
   exact wrap64 (by omega) (by omega)
 have hlook:=hp.look
 obtain ⟨f,rfl⟩:∃ g,f = g + 1:=⟨f - 1,by omega⟩
 rw [upF] at he
 by_cases hi:(j1 - 1) / 2 = j1
 ·rw [if_pos hi] at he
  have hdec:decide ((((j1 - 1) / 2:Nat):Int) = (j1:Int)) = true:=decide_eq_true (by omega)
  repeat' (first|((with_reducible refine Go.red ?_);conv => whnf)|refine aG ?_|exact aC|with_reducible refine Go.and ?_ ?_|(apply Go.elem;(·exact aElem))|(simp only [hdiv])|(simp only [hdec])|refine aH ?_|((with_reducible refine Go.bool ?_ ?_) <;> intro hc <;> (try simp only [List.length_map,ne_eq,hcs] at hc) <;> try (exfalso;omega)))
  ·refine ⟨⟨aNx,by rw [he];exact hp,hfr⟩⟩
  all_goals omega
 ·rw [if_neg hi] at he
  have hdec:decide ((((j1 - 1) / 2:Nat):Int) = (j1:Int)) = false:=decide_eq_false (by omega)
  by_cases hlt:l1.getD j1 0 < l1.getD ((j1 - 1) / 2) 0
  ·rw [if_pos hlt] at he
   have hdl:decide (l1.getD j1 0 < l1.getD ((j1 - 1) / 2) 0) = true:=decide_eq_true hlt
   repeat' (first|((with_reducible refine Go.red ?_);conv => whnf)|refine aG ?_|exact aC|with_reducible refine Go.and ?_ ?_|(apply Go.elem;(·exact aElem))|((refine Go.lookW ((less_look q l1 _ _ d1 hs1 j1 ((j1 - 1) / 2) hj1 (by omega))) ?_ ?_);(·exact True.intro))|((refine Go.lookJ (fun _ => (less_look q l1 _ _ d1 hs1 j1 ((j1 - 1) / 2) hj1 (by omega))) ?_ ?_);(·exact True.intro))|(simp only [hdiv])|(simp only [hdec])|(simp only [hdl])|((with_reducible apply goLess);(·exact hlook);(·exact rfl))|((with_reducible apply goSwap);(·exact hlook);(·exact rfl))|refine aH ?_|((with_reducible refine Go.bool ?_ ?_) <;> intro hc <;> (try simp only [List.length_map,ne_eq,hcs] at hc) <;> try (exfalso;omega)))
   refine Go.callN (swap_call q l1 _ _ d1 hs1 ((j1 - 1) / 2) j1 (by omega) hj1 (by omega)) ?_
   rintro _ H2 n2 ⟨hn2,hs2,hfr2⟩
   have hp2:=hp.swap (swapL_len l1 ((j1 - 1) / 2) j1) hs2 hfr2 (by omega)
   repeat' (first|((with_reducible refine Go.red ?_);conv => whnf)|refine aG ?_|exact aC|with_reducible refine Go.and ?_ ?_|(apply Go.elem;(·exact aElem))|refine aH ?_|((with_reducible refine Go.bool ?_ ?_) <;> intro hc <;> (try simp only [List.length_map,ne_eq,hcs] at hc) <;> try (exfalso;omega)))
   exact ⟨(f,(j1 - 1) / 2,swapL l1 ((j1 - 1) / 2) j1),by dsimp only;omega,aLess,by dsimp only;omega,by dsimp only;rw [swapL_len];omega,by dsimp only;rw [swapL_len];omega,he,aNx,hp2,fun y hy n1 n2 => (hfr2 y (by omega) n2).trans (hfr y hy n1 n2)⟩
  ·rw [if_neg hlt] at he
   have hdl:decide (l1.getD j1 0 < l1.getD ((j1 - 1) / 2) 0) = false:=decide_eq_false hlt
   repeat' (first|((with_reducible refine Go.red ?_);conv => whnf)|refine aG ?_|exact aC|with_reducible refine Go.and ?_ ?_|(apply Go.elem;(·exact aElem))|((refine Go.lookW ((less_look q l1 _ _ d1 hs1 j1 ((j1 - 1) / 2) hj1 (by omega))) ?_ ?_);(·exact True.intro))|((refine Go.lookJ (fun _ => (less_look q l1 _ _ d1 hs1 j1 ((j1 - 1) / 2) hj1 (by omega))) ?_ ?_);(·exact True.intro))|(simp only [hdiv])|(simp only [hdec])|(simp only [hdl])|((with_reducible apply goLess);(·exact hlook);(·exact rfl))|refine aH ?_|((with_reducible refine Go.bool ?_ ?_) <;> intro hc <;> (try simp only [List.length_map,ne_eq,hcs] at hc) <;> try (exfalso;omega)))
   exact ⟨⟨aNx,by rw [he];exact hp,hfr⟩⟩
set_option maxRecDepth 40000 in
set_option maxHeartbeats 8000000 in
theorem down_call (R q:Nat) (l:List Int) (i n:Nat) (H:Hp) (nx:Nat) (h:HpAt R q l H) (hR:R < nx) (hq:q < nx) (hl:l.length < 1000) (hi:i < l.length) (hn:n ≤ l.length) :
  CallN Tryz.prog 66 [hpV R,i64 i,i64 n] H nx (fun r H' nx' => HpTo R q (downF (n + 1) l i n) H nx H' nx'):=by
 refine Go.fnL lf66 rfl ?_
 repeat' (first|((with_reducible refine Go.red ?_);conv => whnf)|refine aG ?_|exact aC|with_reducible refine Go.and ?_ ?_|(apply Go.elem;(·exact aElem))|refine aH ?_|((with_reducible refine Go.bool ?_ ?_) <;> intro hc <;> (try simp only [List.length_map,ne_eq,hcs] at hc) <;> try (exfalso;omega)))
 generalize hU:downF (n + 1) l i n = U
 refine Go.loop (fun p:Nat × Nat × List Int => [(0,hpV R),(1,i64 i),(2,i64 n),(7,i64 p.2.1)])
  (fun p H9 n9 => n < p.1 + p.2.1∧p.2.1 < p.2.2.length∧p.2.2.length = l.length∧U = downF p.1 p.2.2 p.2.1 n∧HpTo R q p.2.2 H nx H9 n9) (fun p => p.1) (n + 1,i,l) aLess ⟨by dsimp only;omega,hi,rfl,hU.symm,aNx,h,fun _ _ _ _ => rfl⟩ ?_
 rintro ⟨f,k,l1⟩ H1 n1 ⟨hf,hk,hl1,he,hn1,hp,hfr⟩
 dsimp only at hf hk hl1 he hp ⊢
 obtain ⟨d1,hs1⟩:=hp.s
 have hlook:=hp.look
 have e1:2 * (k:Int) + 1 = ((2 * k + 1:Nat):Int):=by omega
 have e2:((2 * k + 1:Nat):Int) + 1 = ((2 * k + 2:Nat):Int):=by omega
 have hng:decide (((2 * k + 1:Nat):Int) < 0) = false:=decide_eq_false (by omega)
 by_cases hA:n ≤ 2 * k + 1
 ·have hU2:U = l1:=by
   rw [he]
   cases f with
   | zero => rfl
   | succ f => rw [downF,if_pos hA]
  have hdA:decide ((n:Int) ≤ ((2 * k + 1:Nat):Int)) = true:=decide_eq_true (by omega)
  repeat' (first|((with_reducible refine Go.red ?_);conv => whnf)|refine aG ?_|exact aC|with_reducible refine Go.and ?_ ?_|(apply Go.elem;(·exact aElem))|(simp only [e1])|(simp only [hdA])|refine aH ?_|((with_reducible refine Go.bool ?_ ?_) <;> intro hc <;> (try simp only [List.length_map,ne_eq,hcs] at hc) <;> try (exfalso;omega)))
  exact ⟨⟨aNx,by rw [hU2];exact hp,hfr⟩⟩
 ·have hdA:decide ((n:Int) ≤ ((2 * k + 1:Nat):Int)) = false:=decide_eq_false (by omega)
  obtain ⟨f,rfl⟩:∃ g,f = g + 1:=⟨f - 1,by omega⟩
  rw [downF,if_neg hA] at he
  by_cases hB:2 * k + 2 < n
  ·have hdB:decide (((2 * k + 2:Nat):Int) < (n:Int)) = true:=decide_eq_true (by omega)
   by_cases hC:l1.getD (2 * k + 2) 0 < l1.getD (2 * k + 1) 0
   ·have hdC:decide (l1.getD (2 * k + 2) 0 < l1.getD (2 * k + 1) 0) = true:=decide_eq_true hC
    have hJ:downJ l1 k n = 2 * k + 2:=by unfold downJ;rw [if_pos ⟨hB,hC⟩]
    rw [hJ] at he
    by_cases hlt:l1.getD (2 * k + 2) 0 < l1.getD k 0
    ·rw [if_pos hlt] at he
     have hdl:decide (l1.getD (2 * k + 2) 0 < l1.getD k 0) = true:=decide_eq_true hlt
     repeat' (first|((with_reducible refine Go.red ?_);conv => whnf)|refine aG ?_|exact aC|with_reducible refine Go.and ?_ ?_|(apply Go.elem;(·exact aElem))|((refine Go.lookW ((less_look q l1 _ _ d1 hs1 (2 * k + 2) (2 * k + 1) (by omega) (by omega))) ?_ ?_);(·exact True.intro))|((refine Go.lookJ (fun _ => (less_look q l1 _ _ d1 hs1 (2 * k + 2) (2 * k + 1) (by omega) (by omega))) ?_ ?_);(·exact True.intro))|((refine Go.lookW ((less_look q l1 _ _ d1 hs1 (2 * k + 2) k (by omega) hk)) ?_ ?_);(·exact True.intro))|((refine Go.lookJ (fun _ => (less_look q l1 _ _ d1 hs1 (2 * k + 2) k (by omega) hk)) ?_ ?_);(·exact True.intro))|(simp only [e1])|(simp only [e2])|(simp only [hdA])|(simp only [hng])|(simp only [hdB])|(simp only [hdC])|(simp only [hdl])|((with_reducible apply goLess);(·exact hlook);(·exact rfl))|((with_reducible apply goSwap);(·exact hlook);(·exact rfl))|refine aH ?_|((with_reducible refine Go.bool ?_ ?_) <;> intro hc <;> (try simp only [List.length_map,ne_eq,hcs] at hc) <;> try (exfalso;omega)))
     refine Go.callN (swap_call q l1 _ _ d1 hs1 k (2 * k + 2) hk (by omega) (by omega)) ?_
     rintro _ H2 n2 ⟨hn2,hs2,hfr2⟩
     have hp2:=hp.swap (swapL_len l1 k (2 * k + 2)) hs2 hfr2 (by omega)
     repeat' (first|((with_reducible refine Go.red ?_);conv => whnf)|refine aG ?_|exact aC|with_reducible refine Go.and ?_ ?_|(apply Go.elem;(·exact aElem))|refine aH ?_|((with_reducible refine Go.bool ?_ ?_) <;> intro hc <;> (try simp only [List.length_map,ne_eq,hcs] at hc) <;> try (exfalso;omega)))
     exact ⟨(f,2 * k + 2,swapL l1 k (2 * k + 2)),by dsimp only;omega,aLess,by dsimp only;omega,by dsimp only;rw [swapL_len];omega,by dsimp only;rw [swapL_len];omega,he,aNx,hp2,fun y hy n1 n2 => (hfr2 y (by omega) n2).trans (hfr y hy n1 n2)⟩
    ·rw [if_neg hlt] at he
     have hdl:decide (l1.getD (2 * k + 2) 0 < l1.getD k 0) = false:=decide_eq_false hlt
     repeat' (first|((with_reducible refine Go.red ?_);conv => whnf)|refine aG ?_|exact aC|with_reducible refine Go.and ?_ ?_|(apply Go.elem;(·exact aElem))|((refine Go.lookW ((less_look q l1 _ _ d1 hs1 (2 * k + 2) (2 * k + 1) (by omega) (by omega))) ?_ ?_);(·exact True.intro))|((refine Go.lookJ (fun _ => (less_look q l1 _ _ d1 hs1 (2 * k + 2) (2 * k + 1) (by omega) (by omega))) ?_ ?_);(·exact True.intro))|((refine Go.lookW ((less_look q l1 _ _ d1 hs1 (2 * k + 2) k (by omega) hk)) ?_ ?_);(·exact True.intro))|((refine Go.lookJ (fun _ => (less_look q l1 _ _ d1 hs1 (2 * k + 2) k (by omega) hk)) ?_ ?_);(·exact True.intro))|(simp only [e1])|(simp only [e2])|(simp only [hdA])|(simp only [hng])|(simp only [hdB])|(simp only [hdC])|(simp only [hdl])|((with_reducible apply goLess);(·exact hlook);(·exact rfl))|((with_reducible apply goSwap);(·exact hlook);(·exact rfl))|refine aH ?_|((with_reducible refine Go.bool ?_ ?_) <;> intro hc <;> (try simp only [List.length_map,ne_eq,hcs] at hc) <;> try (exfalso;omega)))
     exact ⟨⟨aNx,by rw [he];exact hp,hfr⟩⟩
   ·have hdC:decide (l1.getD (2 * k + 2) 0 < l1.getD (2 * k + 1) 0) = false:=decide_eq_false hC
    have hJ:downJ l1 k n = 2 * k + 1:=by unfold downJ;rw [if_neg (fun hh => hC hh.2)]
    rw [hJ] at he
    by_cases hlt:l1.getD (2 * k + 1) 0 < l1.getD k 0
    ·rw [if_pos hlt] at he
     have hdl:decide (l1.getD (2 * k + 1) 0 < l1.getD k 0) = true:=decide_eq_true hlt
     repeat' (first|((with_reducible refine Go.red ?_);conv => whnf)|refine aG ?_|exact aC|with_reducible refine Go.and ?_ ?_|(apply Go.elem;(·exact aElem))|((refine Go.lookW ((less_look q l1 _ _ d1 hs1 (2 * k + 2) (2 * k + 1) (by omega) (by omega))) ?_ ?_);(·exact True.intro))|((refine Go.lookJ (fun _ => (less_look q l1 _ _ d1 hs1 (2 * k + 2) (2 * k + 1) (by omega) (by omega))) ?_ ?_);(·exact True.intro))|((refine Go.lookW ((less_look q l1 _ _ d1 hs1 (2 * k + 1) k (by omega) hk)) ?_ ?_);(·exact True.intro))|((refine Go.lookJ (fun _ => (less_look q l1 _ _ d1 hs1 (2 * k + 1) k (by omega) hk)) ?_ ?_);(·exact True.intro))|(simp only [e1])|(simp only [e2])|(simp only [hdA])|(simp only [hng])|(simp only [hdB])|(simp only [hdC])|(simp only [hdl])|((with_reducible apply goLess);(·exact hlook);(·exact rfl))|((with_reducible apply goSwap);(·exact hlook);(·exact rfl))|refine aH ?_|((with_reducible refine Go.bool ?_ ?_) <;> intro hc <;> (try simp only [List.length_map,ne_eq,hcs] at hc) <;> try (exfalso;omega)))
     refine Go.callN (swap_call q l1 _ _ d1 hs1 k (2 * k + 1) hk (by omega) (by omega)) ?_
     rintro _ H2 n2 ⟨hn2,hs2,hfr2⟩
     have hp2:=hp.swap (swapL_len l1 k (2 * k + 1)) hs2 hfr2 (by omega)
     repeat' (first|((with_reducible refine Go.red ?_);conv => whnf)|refine aG ?_|exact aC|with_reducible refine Go.and ?_ ?_|(apply Go.elem;(·exact aElem))|refine aH ?_|((with_reducible refine Go.bool ?_ ?_) <;> intro hc <;> (try simp only [List.length_map,ne_eq,hcs] at hc) <;> try (exfalso;omega)))
     exact ⟨(f,2 * k + 1,swapL l1 k (2 * k + 1)),by dsimp only;omega,aLess,by dsimp only;omega,by dsimp only;rw [swapL_len];omega,by dsimp only;rw [swapL_len];omega,he,aNx,hp2,fun y hy n1 n2 => (hfr2 y (by omega) n2).trans (hfr y hy n1 n2)⟩
    ·rw [if_neg hlt] at he
     have hdl:decide (l1.getD (2 * k + 1) 0 < l1.getD k 0) = false:=decide_eq_false hlt
     repeat' (first|((with_reducible refine Go.red ?_);conv => whnf)|refine aG ?_|exact aC|with_reducible refine Go.and ?_ ?_|(apply Go.elem;(·exact aElem))|((refine Go.lookW ((less_look q l1 _ _ d1 hs1 (2 * k + 2) (2 * k + 1) (by omega) (by omega))) ?_ ?_);(·exact True.intro))|((refine Go.lookJ (fun _ => (less_look q l1 _ _ d1 hs1 (2 * k + 2) (2 * k + 1) (by omega) (by omega))) ?_ ?_);(·exact True.intro))|((refine Go.lookW ((less_look q l1 _ _ d1 hs1 (2 * k + 1) k (by omega) hk)) ?_ ?_);(·exact True.intro))|((refine Go.lookJ (fun _ => (less_look q l1 _ _ d1 hs1 (2 * k + 1) k (by omega) hk)) ?_ ?_);(·exact True.intro))|(simp only [e1])|(simp only [e2])|(simp only [hdA])|(simp only [hng])|(simp only [hdB])|(simp only [hdC])|(simp only [hdl])|((with_reducible apply goLess);(·exact hlook);(·exact rfl))|((with_reducible apply goSwap);(·exact hlook);(·exact rfl))|refine aH ?_|((with_reducible refine Go.bool ?_ ?_) <;> intro hc <;> (try simp only [List.length_map,ne_eq,hcs] at hc) <;> try (exfalso;omega)))
     exact ⟨⟨aNx,by rw [he];exact hp,hfr⟩⟩
  ·have hdB:decide (((2 * k + 2:Nat):Int) < (n:Int)) = false:=decide_eq_false (by omega)
   have hJ:downJ l1 k n = 2 * k + 1:=by unfold downJ;rw [if_neg (fun hh => hB hh.1)]
   rw [hJ] at he
   by_cases hlt:l1.getD (2 * k + 1) 0 < l1.getD k 0
   ·rw [if_pos hlt] at he
    have hdl:decide (l1.getD (2 * k + 1) 0 < l1.getD k 0) = true:=decide_eq_true hlt
    repeat' (first|((with_reducible refine Go.red ?_);conv => whnf)|refine aG ?_|exact aC|with_reducible refine Go.and ?_ ?_|(apply Go.elem;(·exact aElem))|((refine Go.lookW ((less_look q l1 _ _ d1 hs1 (2 * k + 1) k (by omega) hk)) ?_ ?_);(·exact True.intro))|((refine Go.lookJ (fun _ => (less_look q l1 _ _ d1 hs1 (2 * k + 1) k (by omega) hk)) ?_ ?_);(·exact True.intro))|(simp only [e1])|(simp only [e2])|(simp only [hdA])|(simp only [hng])|(simp only [hdB])|(simp only [hdl])|((with_reducible apply goLess);(·exact hlook);(·exact rfl))|((with_reducible apply goSwap);(·exact hlook);(·exact rfl))|refine aH ?_|((with_reducible refine Go.bool ?_ ?_) <;> intro hc <;> (try simp only [List.length_map,ne_eq,hcs] at hc) <;> try (exfalso;omega)))
    refine Go.callN (swap_call q l1 _ _ d1 hs1 k (2 * k + 1) hk (by omega) (by omega)) ?_
    rintro _ H2 n2 ⟨hn2,hs2,hfr2⟩
    have hp2:=hp.swap (swapL_len l1 k (2 * k + 1)) hs2 hfr2 (by omega)
    repeat' (first|((with_reducible refine Go.red ?_);conv => whnf)|refine aG ?_|exact aC|with_reducible refine Go.and ?_ ?_|(apply Go.elem;(·exact aElem))|refine aH ?_|((with_reducible refine Go.bool ?_ ?_) <;> intro hc <;> (try simp only [List.length_map,ne_eq,hcs] at hc) <;> try (exfalso;omega)))
    exact ⟨(f,2 * k + 1,swapL l1 k (2 * k + 1)),by dsimp only;omega,aLess,by dsimp only;omega,by dsimp only;rw [swapL_len];omega,by dsimp only;rw [swapL_len];omega,he,aNx,hp2,fun y hy n1 n2 => (hfr2 y (by omega) n2).trans (hfr y hy n1 n2)⟩
   ·rw [if_neg hlt] at he
    have hdl:decide (l1.getD (2 * k + 1) 0 < l1.getD k 0) = false:=decide_eq_false hlt
    repeat' (first|((with_reducible refine Go.red ?_);conv => whnf)|refine aG ?_|exact aC|with_reducible refine Go.and ?_ ?_|(apply Go.elem;(·exact aElem))|((refine Go.lookW ((less_look q l1 _ _ d1 hs1 (2 * k + 1) k (by omega) hk)) ?_ ?_);(·exact True.intro))|((refine Go.lookJ (fun _ => (less_look q l1 _ _ d1 hs1 (2 * k + 1) k (by omega) hk)) ?_ ?_);(·exact True.intro))|(simp only [e1])|(simp only [e2])|(simp only [hdA])|(simp only [hng])|(simp only [hdB])|(simp only [hdl])|((with_reducible apply goLess);(·exact hlook);(·exact rfl))|((with_reducible apply goSwap);(·exact hlook);(·exact rfl))|refine aH ?_|((with_reducible refine Go.bool ?_ ?_) <;> intro hc <;> (try simp only [List.length_map,ne_eq,hcs] at hc) <;> try (exfalso;omega)))
    exact ⟨⟨aNx,by rw [he];exact hp,hfr⟩⟩
end Go.Proofs.YtflicfkgbjmffaaGreat
end
section
/- The heap: a number comes in; the least goes out. -/
namespace Go.Proofs.YtflicfkgbjmffaaGreat
open Go Go.Abs Go.Proofs
set_option linter.unusedSimpArgs false
set_option linter.unusedVariables false
def pushS (l:List Int) (k:Int):List Int:=upF (l.length + 1) (l ++ [k]) l.length
def sunk (l:List Int):List Int:=downF (l.length - 1 + 1) (swapL l 0 (l.length - 1)) 0 (l.length - 1)
def popN (l:List Int):Int:=(sunk l).getD (l.length - 1) 0
def popL (l:List Int):List Int:=(sunk l).take (l.length - 1)
theorem sunk_len (l:List Int):(sunk l).length = l.length:=by rw [sunk,downF_len,swapL_len]
set_option maxRecDepth 40000 in
set_option maxHeartbeats 4000000 in
theorem heap_push (R q:Nat) (l:List Int) (k:Int) (H:Hp) (nx:Nat) (h:HpAt R q l H) (hR:R < nx) (hq:q < nx) (hl:l.length < 900) :
  CallN Tryz.prog 40 [hpV R,.ifc 3 (i64 k)] H nx (fun r H' nx' => HpTo R q (pushS l k) H nx H' nx'):=by
 refine Go.fnL lf40 rfl ?_
 repeat' (first|((with_reducible refine Go.red ?_);conv => whnf)|refine aG ?_|exact aC|with_reducible refine Go.and ?_ ?_|(apply Go.elem;(·exact aElem))|((with_reducible apply goPush))|refine aH ?_|((with_reducible refine Go.bool ?_ ?_) <;> intro hc <;> (try simp only [List.length_map,ne_eq,hcs] at hc) <;> try (exfalso;omega)))
 refine Go.callN (push_call R q l k _ _ h (by omega) (by omega) (by omega)) ?_
 rintro _ H1 n1 ⟨hn1,hp1,hfr1⟩
 obtain ⟨d1,hs1⟩:=hp1.s
 have hlook:=hp1.look
 have e1:(((l ++ [k]).length:Nat):Int) - 1 = (l.length:Int):=by simp
 repeat' (first|((with_reducible refine Go.red ?_);conv => whnf)|refine aG ?_|exact aC|with_reducible refine Go.and ?_ ?_|(apply Go.elem;(·exact aElem))|((refine Go.lookW ((len_look q (l ++ [k]) _ _ d1 hs1)) ?_ ?_);(·exact True.intro))|((refine Go.lookJ (fun _ => (len_look q (l ++ [k]) _ _ d1 hs1)) ?_ ?_);(·exact True.intro))|((with_reducible apply goLen);(·exact hlook);(·exact rfl))|(simp only [e1])|refine aH ?_|((with_reducible refine Go.bool ?_ ?_) <;> intro hc <;> (try simp only [List.length_map,ne_eq,hcs] at hc) <;> try (exfalso;omega)))
 refine Go.callN (up_call R q (l ++ [k]) l.length _ _ hp1 (by omega) (by omega) (by simp;omega) (by simp)) ?_
 rintro _ H2 n2 ⟨hn2,hp2,hfr2⟩
 repeat' (first|((with_reducible refine Go.red ?_);conv => whnf)|refine aG ?_|exact aC|with_reducible refine Go.and ?_ ?_|(apply Go.elem;(·exact aElem))|refine aH ?_|((with_reducible refine Go.bool ?_ ?_) <;> intro hc <;> (try simp only [List.length_map,ne_eq,hcs] at hc) <;> try (exfalso;omega)))
 exact ⟨⟨aNx,hp2,fun y hy a b => (hfr2 y (by omega) a b).trans (hfr1 y (by omega) a b)⟩⟩
set_option maxRecDepth 40000 in
set_option maxHeartbeats 4000000 in
theorem heap_pop (R q:Nat) (l:List Int) (H:Hp) (nx:Nat) (h:HpAt R q l H) (hR:R < nx) (hq:q < nx) (hl:l.length < 900) (h0:0 < l.length) :
  CallN Tryz.prog 42 [hpV R] H nx (fun r H' nx' => r = .ifc 3 (i64 (popN l))∧∃ q',HpAt R q' (popL l) H'∧nx ≤ nx'∧nx ≤ q'∧q' < nx'∧∀ y,y < nx→y ≠ R→y ≠ q→getH H' y = getH H y):=by
 refine Go.fnL lf42 rfl ?_
 obtain ⟨d0,hs0⟩:=h.s
 have hlook:=h.look
 have e1:((l.length:Nat):Int) - 1 = ((l.length - 1:Nat):Int):=by omega
 repeat' (first|((with_reducible refine Go.red ?_);conv => whnf)|refine aG ?_|exact aC|with_reducible refine Go.and ?_ ?_|(apply Go.elem;(·exact aElem))|((refine Go.lookW ((len_look q l _ _ d0 hs0)) ?_ ?_);(·exact True.intro))|((refine Go.lookJ (fun _ => (len_look q l _ _ d0 hs0)) ?_ ?_);(·exact True.intro))|((with_reducible apply goLen);(·exact hlook);(·exact rfl))|((with_reducible apply goSwap);(·exact hlook);(·exact rfl))|(simp only [e1])|refine aH ?_|((with_reducible refine Go.bool ?_ ?_) <;> intro hc <;> (try simp only [List.length_map,ne_eq,hcs] at hc) <;> try (exfalso;omega)))
 refine Go.callN (swap_call q l _ _ d0 hs0 0 (l.length - 1) h0 (by omega) (by omega)) ?_
 rintro _ H1 n1 ⟨hn1,hs1,hfr1⟩
 have hp1:=h.swap (swapL_len l 0 (l.length - 1)) hs1 hfr1 (by omega)
 repeat' (first|((with_reducible refine Go.red ?_);conv => whnf)|refine aG ?_|exact aC|with_reducible refine Go.and ?_ ?_|(apply Go.elem;(·exact aElem))|refine aH ?_|((with_reducible refine Go.bool ?_ ?_) <;> intro hc <;> (try simp only [List.length_map,ne_eq,hcs] at hc) <;> try (exfalso;omega)))
 refine Go.callN (down_call R q (swapL l 0 (l.length - 1)) 0 (l.length - 1) _ _ hp1 (by omega) (by omega) (by rw [swapL_len];omega) (by rw [swapL_len];omega) (by rw [swapL_len];omega)) ?_
 rintro _ H2 n2 ⟨hn2,hp2,hfr2⟩
 repeat' (first|((with_reducible refine Go.red ?_);conv => whnf)|refine aG ?_|exact aC|with_reducible refine Go.and ?_ ?_|(apply Go.elem;(·exact aElem))|((with_reducible apply goPop))|refine aH ?_|((with_reducible refine Go.bool ?_ ?_) <;> intro hc <;> (try simp only [List.length_map,ne_eq,hcs] at hc) <;> try (exfalso;omega)))
 have hsl:=sunk_len l
 refine Go.callN (pop_call R q (sunk l) _ _ hp2 (by omega) (by omega) (by omega) (by omega)) ?_
 rintro _ H3 n3 ⟨rfl,q3,hp3,hn3,hq3,hq4,hfr3⟩
 rw [hsl] at hp3 ⊢
 repeat' (first|((with_reducible refine Go.red ?_);conv => whnf)|refine aG ?_|exact aC|with_reducible refine Go.and ?_ ?_|(apply Go.elem;(·exact aElem))|refine aH ?_|((with_reducible refine Go.bool ?_ ?_) <;> intro hc <;> (try simp only [List.length_map,ne_eq,hcs] at hc) <;> try (exfalso;omega)))
 exact ⟨⟨rfl,q3,hp3,aNx,by omega,aNx,fun y hy a b => (hfr3 y (by omega) a b).trans ((hfr2 y (by omega) a b).trans (hfr1 y (by omega) b))⟩⟩
end Go.Proofs.YtflicfkgbjmffaaGreat
end
section
/- The heap keeps what it has. -/
namespace Go.Proofs.YtflicfkgbjmffaaGreat
open Go Go.Abs Go.Proofs
set_option linter.unusedSimpArgs false
set_option linter.unusedVariables false
theorem getD_lt {l:List Int} {i:Nat} (h:i < l.length):l.getD i 0 = l[i]:=by simp [List.getD,h]
theorem swapL_perm {l:List Int} {i j:Nat} (hi:i < l.length) (hj:j < l.length):(swapL l i j).Perm l:=by
 unfold swapL
 rw [getD_lt hi,getD_lt hj]
 exact List.set_set_perm hi hj
theorem upF_perm:∀ (f:Nat) (l:List Int) (j:Nat),j < l.length→(upF f l j).Perm l
 | 0,l,_,_ => List.Perm.refl l
 | f + 1,l,j,hj => by
  simp only [upF]
  split
  ·exact List.Perm.refl l
  ·split
   ·exact (upF_perm f _ _ (by rw [swapL_len];omega)).trans (swapL_perm (by omega) hj)
   ·exact List.Perm.refl l
theorem downF_perm:∀ (f:Nat) (l:List Int) (i n:Nat),i < l.length→n ≤ l.length→(downF f l i n).Perm l
 | 0,l,_,_,_,_ => List.Perm.refl l
 | f + 1,l,i,n,hi,hn => by
  simp only [downF]
  split
  ·exact List.Perm.refl l
  ·rename_i h
   have hj:downJ l i n < l.length:=by
    unfold downJ
    split <;> omega
   split
   ·exact (downF_perm f _ _ _ (by rw [swapL_len];exact hj) (by rw [swapL_len];exact hn)).trans (swapL_perm hi hj)
   ·exact List.Perm.refl l
theorem pushS_perm (l:List Int) (k:Int):(pushS l k).Perm (k :: l):=by
 unfold pushS
 exact (upF_perm _ _ _ (by simp)).trans (List.perm_append_singleton k l)
theorem sunk_perm {l:List Int} (h:0 < l.length):(sunk l).Perm l:=by
 unfold sunk
 exact (downF_perm _ _ _ _ (by rw [swapL_len];omega) (by rw [swapL_len];omega)).trans (swapL_perm (by omega) (by omega))
theorem pop_perm {l:List Int} (h:0 < l.length):(popN l :: popL l).Perm l:=by
 have hs:=sunk_len l
 have e:popL l ++ [popN l] = sunk l:=by
  unfold popL popN
  rw [getD_lt (by omega)]
  have:=List.take_append_getElem (l:=sunk l) (i:=l.length - 1) (by omega)
  rw [this,List.take_of_length_le (by omega)]
 exact ((List.perm_append_singleton (popN l) (popL l)).symm.trans (by rw [e])).trans (sunk_perm h)
theorem pushS_len (l:List Int) (k:Int):(pushS l k).length = l.length + 1:=(pushS_perm l k).length_eq
theorem popL_len {l:List Int} (h:0 < l.length):(popL l).length + 1 = l.length:=(pop_perm h).length_eq
def Small (n:Nat) (l:List Int):Prop:=∀ k ∈ l,0 ≤ k∧k < (n:Int)
theorem Small.push {n:Nat} {l:List Int} (h:Small n l) {b:Nat} (hb:b < n):Small n (pushS l (b:Int)):=by
 intro k hk
 rcases List.mem_cons.1 ((pushS_perm l b).mem_iff.1 hk) with rfl|h1
 ·omega
 ·exact h k h1
theorem Small.popN {n:Nat} {l:List Int} (h:Small n l) (h0:0 < l.length):∃ a:Nat,popN l = (a:Int)∧a < n:=by
 obtain ⟨h1,h2⟩:=h _ ((pop_perm h0).mem_iff.1 (List.mem_cons_self ..))
 exact ⟨(Go.Proofs.YtflicfkgbjmffaaGreat.popN l).toNat,by omega,by omega⟩
theorem Small.popL {n:Nat} {l:List Int} (h:Small n l) (h0:0 < l.length):Small n (popL l) :=
 fun k hk => h k ((pop_perm h0).mem_iff.1 (List.mem_cons_of_mem _ hk))
def pos:Nat→(Nat→Int)→Nat
 | 0,_ => 0
 | n + 1,W => pos n W + if 0 < W n then 1 else 0
theorem pos_eq {n:Nat} {W W':Nat→Int} (h:∀ b,b < n→(0 < W b ↔ 0 < W' b)):pos n W = pos n W':=by
 induction n with
 | zero => rfl
 | succ n ih =>
  have e:=h n (Nat.lt_succ_self n)
  simp only [pos,ih fun b hb => h b (by omega)]
  by_cases h1:0 < W n
  ·rw [if_pos h1,if_pos (e.1 h1)]
  ·rw [if_neg h1,if_neg fun h2 => h1 (e.2 h2)]
def updW (W:Nat→Int) (b:Nat) (v:Int):Nat→Int:=fun y => if y = b then v else W y
theorem pos_drop {n:Nat} {W:Nat→Int} {b:Nat} (hb:b < n) (h:W b - 1 = 0):pos n (updW W b (W b - 1)) + 1 = pos n W:=by
 induction n with
 | zero => omega
 | succ n ih =>
  by_cases hbn:b = n
  ·subst hbn
   simp only [pos]
   have e:pos b (updW W b (W b - 1)) = pos b W:=pos_eq fun y hy => by simp [updW,Nat.ne_of_lt hy]
   rw [e,if_neg (by simp [updW];omega),if_pos (by omega)]
  ·have:=ih (by omega)
   simp only [pos]
   have e:updW W b (W b - 1) n = W n:=by simp [updW,Ne.symm hbn]
   rw [e];omega
theorem pos_same {n:Nat} {W:Nat→Int} {b:Nat} (h:W b - 1 ≠ 0):pos n (updW W b (W b - 1)) = pos n W :=
 pos_eq fun y hy => by
  simp only [updW]
  split
  ·rename_i e;subst e;omega
  ·exact Iff.rfl
end Go.Proofs.YtflicfkgbjmffaaGreat
end
