import Derived.Test.YtmonponfppdgfaaGreatDoorM35
section
/- What waits: the document's walk. -/
namespace Go.Proofs.YtmonponfppdgfaaGreatDoor
open Go Go.Abs Go.Proofs
set_option linter.unusedSimpArgs false
set_option linter.unusedVariables false
set_option maxRecDepth 8000 in
set_option maxHeartbeats 16000000 in
theorem rwaits_pure (u:UnitS) (hu:u.Wf) (t:Nat) (ht:t < u.graphs.length) (hw:Whole (u.gr t)) (cls:List ClassV) (hcl0:cls.length = u.shared.length) (hN:u.shared.length ≤ 64):Pure Tryz.prog 40 [u.av,i64 t,.im 3 .any (cls.map ClassV.av)] (fun r => r = .im 1 .any ((waitT (u.gr t) cls t).map imB)):=by
 have hg:(u.gr t).Wf:=hu.graphs _ (getD_mem' default ht)
 have eg:∀ d,(u.graphs.map Graph.av).getD (t:Int).toNat d = (u.gr t).av:=fun d => gr_at ht d
 have hgm:(u.graphs.map Graph.av).length = u.graphs.length:=by simp
 have hsm:(u.shared.map Decl.av).length = u.shared.length:=by simp
 have hcm:(cls.map ClassV.av).length = cls.length:=by simp
 generalize u.gr t = g at *
 have hl:=hg.len
 have hl0:=hw.1
 have hl1:=hw.2.1
 have fT:∀ T:Tab,fitL 0 (T.map imB):=fun T => (fitL_map _ _).2 fun _ _ => by simp [imB,fitA,fitL_map]
 refine pure_of_call ?_ (by simp only [fitA];exact fT _)
 obtain ⟨N,hNs⟩:∃ N,u.shared.length = N:=⟨_,rfl⟩
 have hlv:waitT g cls t = ahdT g (waitB cls t) (holdB cls t) N:=by unfold waitT;rw [hcl0,hNs]
 rw [hlv]
 rw [hNs] at hN hcl0
 refine Go.fnL lf40 rfl ?_
 have hnm:(g.nodes.map Node.av).length = g.nodes.length:=by simp
 repeat' (first|((with_reducible refine Go.red ?_);conv => whnf)|refine aG ?_|exact aCn|with_reducible refine Go.and ?_ ?_|((with_reducible refine Ask.mk ?_);first|exact aAsk|(exact hgm)|(exact hnm)|exact aAsk2|(intro h;simp_all [UnitS.cells,Graph.cells] <;> fail)|(simp_all [UnitS.cells,Graph.cells] <;> fail))|(apply Go.elem;(·(first|exact eg _|exact aElem)))|refine aH ?_|((with_reducible refine Go.bool ?_ ?_) <;> intro hc <;> (try simp only [List.length_map,ne_eq,hcs] at hc) <;> try (exfalso;omega)))
 simp only [List.length_map,Int.toNat_natCast]
 refine Go.loop (fun ids:List Nat => [(1,i64 t),(2,.im 3 .any (cls.map ClassV.av)),(3,.pt 0 1 0 0),(7,.pt 7 1 0 0),(8,.sl 12 g.nodes.length),(9,i64 ids.length)])
  (fun ids H' n' => ids.length ≤ g.nodes.length∧15 ≤ n'∧QPre 12 ids g.nodes.length N H' n'∧(∃ d,getH H' 0 = some (.row 25 3 d [u.av]))∧(∃ d,getH H' 7 = some (.row 40 4 d [g.av]))) (fun ids => g.nodes.length - ids.length) [] aLess ⟨Nat.zero_le _,aNx,⟨⟨_,aRow⟩,fun x h => by simp at h,fun x h => by simp at h,List.nodup_nil⟩,⟨_,aRow⟩,⟨_,aRow⟩⟩ ?_
 rintro ids H1 n1 ⟨hi,hn1,hp,⟨d0,r0⟩,d8,r8⟩
 by_cases hil:ids.length < g.nodes.length
 ·obtain ⟨d7,r7⟩:=hp.row
  have e1:=fun d => pre_get (m:=g.nodes.length) (n:=N) hil d
  have e2:=pre_len (m:=g.nodes.length) (n:=N) hi
  repeat' (first|((with_reducible refine Go.red ?_);conv => whnf)|refine aG ?_|exact aCn|with_reducible refine Go.and ?_ ?_|((with_reducible refine Ask.mk ?_);first|exact aAsk|(exact e2)|(exact hsm)|exact aAsk2|(intro h;simp_all [UnitS.cells] <;> fail)|(simp_all [UnitS.cells] <;> fail))|(apply Go.elem;(·(first|exact e1 _|exact aElem)))|refine aH ?_|((with_reducible refine Go.bool ?_ ?_) <;> intro hc <;> (try simp only [List.length_map,ne_eq,hcs] at hc) <;> try (exfalso;omega)))
  simp only [List.length_map,Int.toNat_natCast,hNs]
  have hlt:=hp.lt
  refine ⟨ids ++ [n1 + 9],by simp;omega,aLess,by simp;omega,aNx,⟨⟨_,by rw [← pre_set hil];exact aRow⟩,fun x hx => ?_,fun x hx => ?_,?_⟩,⟨_,aRow⟩,⟨_,aRow⟩⟩
  ·rcases List.mem_append.1 hx with hx|hx
   ·obtain ⟨d,h1⟩:=hp.each x hx
    have:=hlt x hx
    exact ⟨d,Eq.trans aSkip h1⟩
   ·simp only [List.mem_cons,List.not_mem_nil,or_false] at hx
    subst hx
    exact ⟨_,aRow⟩
  ·rcases List.mem_append.1 hx with hx|hx
   ·have:=hlt x hx
    exact ⟨this.1,Nat.lt_of_lt_of_le this.2 aNx⟩
   ·simp only [List.mem_cons,List.not_mem_nil,or_false] at hx
    subst hx
    exact ⟨by omega,aNx⟩
  ·refine List.nodup_append.2 ⟨hp.nodup,by simp,fun x hx y hy => ?_⟩
   simp only [List.mem_cons,List.not_mem_nil,or_false] at hy
   have:=(hlt x hx).2
   omega
 ·have hle:ids.length = g.nodes.length:=by omega
  have hfin:=hp.fin hle
  have hlt:=hp.lt
  have hgr:=Grow.start g (waitB cls t) (holdB cls t) N
  obtain ⟨d7,r7⟩:=hp.row
  have e2:=pre_len (m:=g.nodes.length) (n:=N) hi
  repeat' (first|((with_reducible refine Go.red ?_);conv => whnf)|refine aG ?_|exact aCn|with_reducible refine Go.and ?_ ?_|((with_reducible refine Ask.mk ?_);first|exact aAsk|(exact e2)|exact aAsk2)|(apply Go.elem;(·exact aElem))|refine aH ?_|((with_reducible refine Go.bool ?_ ?_) <;> intro hc <;> (try simp only [List.length_map,ne_eq,hcs] at hc) <;> try (exfalso;omega)))
  clear r7 e2
  have hids:∀ x ∈ 12 :: ids,12 ≤ x∧x < n1:=fun x hx => by
   rcases List.mem_cons.1 hx with rfl|hx
   ·omega
   ·have:=hlt x hx;omega
  clear hp hlt
  refine Go.loop (fun s:Tab × Bool => [(1,i64 t),(2,.im 3 .any (cls.map ClassV.av)),(3,.pt 0 1 0 0),(7,.pt 7 1 0 0),(8,.sl 12 g.nodes.length),(10,bl s.2)])
   (fun s H' n' => n1 ≤ n'∧TAt 12 ids s.1 H'∧(∃ d,getH H' 0 = some (.row 25 3 d [u.av]))∧(∃ d,getH H' 7 = some (.row 40 4 d [g.av]))∧Grow g (waitB cls t) (holdB cls t) N s.1∧(s.2 = false→∀ i k,i < g.nodes.length→k < N→cellB g (waitB cls t) (holdB cls t) s.1 i k = true→tget s.1 i k = true))
   (fun s => falses s.1 + if s.2 = true then 1 else 0) (zeros g.nodes.length N,true) aLess ⟨aNx,hfin.keep fun x hx => ?_,⟨_,aRow⟩,⟨_,aRow⟩,hgr,fun h => by cases h⟩ ?_
  ·have:=hids x hx;exact aSkip
  clear hfin hgr r0 r8
  rintro ⟨T,again⟩ H2 n2 ⟨hn2,hT,⟨d0,r0⟩,⟨d8,r8⟩,hgr,hcl⟩
  dsimp only at hT hgr hcl ⊢
  cases again with
  | false =>
   have hfin:=hgr.fin hw (hcl rfl)
   repeat' (first|((with_reducible refine Go.red ?_);conv => whnf)|refine aG ?_|exact aC|with_reducible refine Go.and ?_ ?_|(apply Go.elem;(·exact aElem))|refine aH ?_|((with_reducible refine Go.bool ?_ ?_) <;> intro hc <;> (try simp only [List.length_map,ne_eq,hcs] at hc) <;> try (exfalso;omega)))
   refine ⟨?_⟩
   rw [← hfin,← hgr.shape.len]
   exact tab_frz (hT.keep fun x hx => aSkip) 4
  | true =>
   have hTl:=hgr.shape.len
   have hql:(qRow ids (tabS T)).length = g.nodes.length:=by rw [hT.len,tabS_len,hTl]
   obtain ⟨d7,r7⟩:=hT.row
   repeat' (first|((with_reducible refine Go.red ?_);conv => whnf)|refine aG ?_|exact aCn|with_reducible refine Go.and ?_ ?_|((with_reducible refine Ask.mk ?_);first|exact aAsk|(exact hql)|(exact hnm)|exact aAsk2|(intro h;simp_all [Graph.cells] <;> fail)|(simp_all [Graph.cells] <;> fail))|(apply Go.elem;(·exact aElem))|refine aH ?_|((with_reducible refine Go.bool ?_ ?_) <;> intro hc <;> (try simp only [List.length_map,ne_eq,hcs] at hc) <;> try (exfalso;omega)))
   simp only [List.length_map]
   refine Go.loop (fun s:Tab × Bool × Nat => [(1,i64 t),(2,.im 3 .any (cls.map ClassV.av)),(3,.pt 0 1 0 0),(7,.pt 7 1 0 0),(8,.sl 12 g.nodes.length),(10,bl s.2.1),(11,i64 ((s.2.2:Int) - 1))])
    (fun s H' n' => n1 ≤ n'∧s.2.2 ≤ g.nodes.length∧TAt 12 ids s.1 H'∧(∃ d,getH H' 0 = some (.row 25 3 d [u.av]))∧(∃ d,getH H' 7 = some (.row 40 4 d [g.av]))∧Grow g (waitB cls t) (holdB cls t) N s.1∧(falses s.1 + if s.2.1 = true then 1 else 0) ≤ falses T∧(s.2.1 = false→∀ i k,s.2.2 ≤ i→i < g.nodes.length→k < N→cellB g (waitB cls t) (holdB cls t) s.1 i k = true→tget s.1 i k = true))
    (fun s => s.2.2) (T,false,g.nodes.length) aLess ⟨aNx,Nat.le_refl _,hT.keep fun x hx => ?_,⟨_,aRow⟩,⟨_,aRow⟩,hgr,by simp,fun _ i k h1 h2 => absurd h1 (by dsimp only;omega)⟩ ?_
   ·exact aSkip
   clear hT r0 r8 hgr hcl r7 hql
   rintro ⟨T2,ag,j⟩ H3 n3 ⟨hn3,hj,hT,⟨d0,r0⟩,⟨d8,r8⟩,hgr,hfa,hcl⟩
   dsimp only at hj hT hgr hfa hcl ⊢
   have hT2l:=hgr.shape.len
   cases j with
   | zero =>
    repeat' (first|((with_reducible refine Go.red ?_);conv => whnf)|refine aG ?_|exact aC|with_reducible refine Go.and ?_ ?_|(apply Go.elem;(·exact aElem))|refine aH ?_|((with_reducible refine Go.bool ?_ ?_) <;> intro hc <;> (try simp only [List.length_map,ne_eq,hcs] at hc) <;> try (exfalso;omega)))
    exact ⟨(T2,ag),by dsimp only;simp only [if_true];omega,aLess,aNx,hT.keep fun x hx => aSkip,⟨_,aRow⟩,⟨_,aRow⟩,hgr,fun h i k h1 h2 => hcl h i k (Nat.zero_le _) h1 h2⟩
   | succ i =>
    have hi:i < g.nodes.length:=by omega
    have ei:((i + 1:Nat):Int) - 1 = (i:Int):=by omega
    have en:=fun d => nd_at hi d
    have hfo:=rfollows_pure (g.nodes.getD i default)
    rw [ei]
    repeat' (first|((with_reducible refine Go.red ?_);conv => whnf)|refine aG ?_|exact aCn|with_reducible refine Go.and ?_ ?_|((with_reducible refine Ask.mk ?_);first|exact aAsk|(exact hnm)|exact aAsk2|(intro h;simp_all [Graph.cells,Node.cells] <;> fail)|(simp_all [Graph.cells,Node.cells] <;> fail))|(apply Go.elem;(·(first|exact en _|exact aElem)))|refine aK (hfo) ?_|refine aH ?_|((with_reducible refine Go.bool ?_ ?_) <;> intro hc <;> (try simp only [List.length_map,ne_eq,hcs] at hc) <;> try (exfalso;omega)))
    have hnd:g.nodes.getD i default = g.nd i:=rfl
    rw [hnd] at *
    clear hfo
    refine Go.loop (fun s:Tab × Bool × Nat => [(1,i64 t),(2,.im 3 .any (cls.map ClassV.av)),(3,.pt 0 1 0 0),(7,.pt 7 1 0 0),(8,.sl 12 g.nodes.length),(10,bl s.2.1),(11,i64 (i:Int)),(12,.pt (n3 + 7) 1 0 0),(13,imF (g.nd i).fol),(14,i64 s.2.2)])
     (fun s H' n' => n3 + 8 ≤ n'∧s.2.2 ≤ N∧(∃ d,getH H' (n3 + 7) = some (.row 46 13 d [(g.nd i).av]))∧TAt 12 ids s.1 H'∧(∃ d,getH H' 0 = some (.row 25 3 d [u.av]))∧(∃ d,getH H' 7 = some (.row 40 4 d [g.av]))∧Grow g (waitB cls t) (holdB cls t) N s.1∧(falses s.1 + if s.2.1 = true then 1 else 0) ≤ falses T∧(s.2.1 = false→∀ i' k,i ≤ i'→i' < g.nodes.length→k < N→(i' = i→k < s.2.2)→cellB g (waitB cls t) (holdB cls t) s.1 i' k = true→tget s.1 i' k = true))
     (fun s => N - s.2.2) (T2,ag,0) aLess ⟨aNx,Nat.zero_le _,⟨_,aRow⟩,hT.keep fun x hx => ?_,⟨_,aRow⟩,⟨_,aRow⟩,hgr,hfa,fun h i' k h1 h2 h3 h4 => hcl h i' k (Classical.byContradiction fun hx => Nat.not_lt_zero _ (h4 (by omega))) h2 h3⟩ ?_
    ·have:=hids x hx;exact aSkip
    clear hT r0 r8 hgr hfa hcl hT2l
    rintro ⟨T3,ag2,k⟩ H4 n4 ⟨hn4,hk,⟨dn,rn⟩,hT,⟨d0,r0⟩,⟨d8,r8⟩,hgr,hfa,hcl⟩
    dsimp only at hk hT hgr hfa hcl ⊢
    have hT3l:=hgr.shape.len
    by_cases hkN:k < N
    ·have hel:=fun d => class_at (l:=cls) (v:=(k:Int)) (by rw [Int.toNat_natCast];omega) d
     rw [show cls.getD (k:Int).toNat default = cls.getD k default by rw [Int.toNat_natCast]] at hel
     have hmore:∀ T4 ag3,(ag3 = false→T4 = T3∧ag2 = false∧(cellB g (waitB cls t) (holdB cls t) T3 i k = true→tget T3 i k = true))→ag3 = false→∀ i' k',i ≤ i'→i' < g.nodes.length→k' < N→(i' = i→k' < k + 1)→cellB g (waitB cls t) (holdB cls t) T4 i' k' = true→tget T4 i' k' = true:=fun T4 ag3 h1 h2 i' k' a1 a2 a3 a4 a5 => by
      obtain ⟨rfl,b1,b2⟩:=h1 h2
      by_cases e:i' = i∧k' = k
      ·obtain ⟨rfl,rfl⟩:=e;exact b2 a5
      ·exact hcl b1 i' k' a1 a2 a3 (fun e2 => by
        have:=a4 e2
        have:¬ k' = k:=fun e3 => e ⟨e2,e3⟩
        omega) a5
     by_cases hown:ownB cls t k = true
     case neg =>
      have hno:¬ ((cls.getD k default).kind = 1∧(cls.getD k default).thread = (t:Int)):=fun h => hown (by unfold ownB;rw [decide_eq_true h.1,decide_eq_true h.2];rfl)
      have hce:cellB g (waitB cls t) (holdB cls t) T3 i k = false:=by
       have:ownB cls t k = false:=by simpa using hown
       unfold cellB waitB holdB;rw [this];simp
      repeat' (first|((with_reducible refine Go.red ?_);conv => whnf)|refine aG ?_|exact aCn|with_reducible refine Go.and ?_ ?_|((with_reducible refine Ask.mk ?_);first|exact aAsk|(exact hsm)|(exact hcm)|exact aAsk2|(intro h;simp_all [UnitS.cells,ClassV.cells] <;> fail)|(simp_all [UnitS.cells,ClassV.cells] <;> fail))|(apply Go.elem;(·(first|exact hel _|exact aElem)))|refine aH ?_|((with_reducible refine Go.bool ?_ ?_) <;> intro hc <;> (try simp only [List.length_map,ne_eq,hcs] at hc) <;> try (exfalso;omega)))
      all_goals first|(exfalso;omega)|skip
      all_goals exact ⟨(T3,ag2,k + 1),by dsimp only;omega,aLess,aNx,by dsimp only;omega,⟨_,aRow⟩,hT.keep fun x hx => aSkip,⟨_,aRow⟩,⟨_,aRow⟩,hgr,hfa,hmore T3 ag2 (fun h => ⟨rfl,h,fun hc => by rw [hce] at hc;cases hc⟩)⟩
     have hyes:(cls.getD k default).kind = 1∧(cls.getD k default).thread = (t:Int):=by
      unfold ownB at hown;simpa using hown
     obtain ⟨hy1,hy2⟩:=hyes
     repeat' (first|((with_reducible refine Go.red ?_);conv => whnf)|refine aG ?_|exact aCn|with_reducible refine Go.and ?_ ?_|((with_reducible refine Ask.mk ?_);first|exact aAsk|(exact hsm)|(exact hcm)|exact aAsk2|(intro h;simp_all [UnitS.cells,ClassV.cells,Node.cells] <;> fail)|(simp_all [UnitS.cells,ClassV.cells,Node.cells] <;> fail))|(apply Go.elem;(·(first|exact hel _|exact aElem)))|refine aH ?_|((with_reducible refine Go.bool ?_ ?_) <;> intro hc <;> (try simp only [List.length_map,ne_eq,hcs] at hc) <;> try (exfalso;omega)))
     all_goals first|(exfalso;omega)|skip
     refine Go.loop (fun σ:Nat × Bool => [(1,i64 t),(2,.im 3 .any (cls.map ClassV.av)),(3,.pt 0 1 0 0),(7,.pt 7 1 0 0),(8,.sl 12 g.nodes.length),(10,bl ag2),(11,i64 (i:Int)),(12,.pt (n3 + 7) 1 0 0),(13,imF (g.nd i).fol),(14,i64 k),(15,bl σ.2),(16,i64 σ.1)])
      (fun σ H' n' => n4 ≤ n'∧σ.1 ≤ (g.nd i).fol.length∧σ.2 = (waitB cls t (g.nd i) k || (aheadTo T3 (g.nd i) k σ.1 && holdB cls t (g.nd i) k))∧(∃ d,getH H' (n3 + 7) = some (.row 46 13 d [(g.nd i).av]))∧TAt 12 ids T3 H'∧(∃ d,getH H' 0 = some (.row 25 3 d [u.av]))∧(∃ d,getH H' 7 = some (.row 40 4 d [g.av])))
      (fun σ => (g.nd i).fol.length - σ.1) (0,if (if decide ((g.nd i).kind = 9) = true then true else decide ((g.nd i).kind = 5)) = true then true else (if (if decide ((g.nd i).kind = 2) = true then true else decide ((g.nd i).kind = 4)) = true then decide ((g.nd i).thing = (k:Int)) else false)) aLess ⟨aNx,Nat.zero_le _,?_,⟨_,aRow⟩,hT.keep fun x hx => ?_,⟨_,aRow⟩,⟨_,aRow⟩⟩ ?_
     ·dsimp only
      unfold waitB aheadTo
      rw [hown]
      by_cases a1:(g.nd i).kind = 9 <;> by_cases a2:(g.nd i).kind = 5 <;> by_cases a3:(g.nd i).kind = 2 <;> by_cases a4:(g.nd i).kind = 4 <;> simp [a1,a2,a3,a4] <;> omega
     ·exact aSkip
     clear hT rn r0 r8
     rintro ⟨q,is⟩ H5 n5 ⟨hn5,hq,his,⟨dn,rn⟩,hT,⟨d0,r0⟩,⟨d8,r8⟩⟩
     dsimp only at hq his ⊢
     have hfm:((g.nd i).fol.map i64).length = (g.nd i).fol.length:=by simp
     have hfl:=fol_len (g.nd i)
     unfold imF
     have hql:(qRow ids (tabS T3)).length = g.nodes.length:=by rw [hT.len,tabS_len,hT3l]
     obtain ⟨d7,r7⟩:=hT.row
     by_cases hql2:q < (g.nd i).fol.length
     ·have eq0:=fun d => int_at (l:=(g.nd i).fol) hql2 d
      obtain ⟨y0,y1⟩:=(hw.2.2 i hi).2.2 _ (getD_mem' (0:Int) hql2)
      have han:=aheadTo_next (T:=T3) (k:=k) hql2
      generalize (g.nd i).fol.getD q 0 = y at *
      have hyS:y.toNat < (tabS T3).length:=by rw [tabS_len,hT3l];exact y1
      have hyT:y.toNat < T3.length:=by rw [hT3l];exact y1
      have hrow:=hgr.shape.row y.toNat y1
      obtain ⟨di,ri⟩:=hT.qs y.toNat hyS
      have e1:=fun d => hT.get hyS d
      rw [tabS_get hyT] at ri e1
      rw [List.length_map,hrow] at e1
      have hrl:((T3.getD y.toNat []).map bl).length = N:=by rw [List.length_map,hrow]
      have e2:=fun d => bl_at (l:=T3.getD y.toNat []) (k:=k) (by rw [hrow];exact hkN) d
      rw [show (T3.getD y.toNat []).getD k false = tget T3 y.toNat k from rfl] at e2
      have hxi:=hids (ids.getD y.toNat 0) (List.mem_cons_of_mem _ (getD_mem (by rw [hle];exact y1)))
      have hne:=hT.ne hyS
      cases is with
      | true =>
       repeat' (first|((with_reducible refine Go.red ?_);conv => whnf)|refine aG ?_|exact aCn|with_reducible refine Go.and ?_ ?_|((with_reducible refine Ask.mk ?_);first|exact aAsk|(exact hfm)|exact aAsk2)|(apply Go.elem;(·(first|exact eq0 _|exact aElem)))|refine aH ?_|((with_reducible refine Go.bool ?_ ?_) <;> intro hc <;> (try simp only [List.length_map,ne_eq,hcs] at hc) <;> try (exfalso;omega)))
       exact ⟨(q + 1,true),by dsimp only;omega,aLess,aNx,by dsimp only;omega,by dsimp only;rw [han];revert his;cases waitB cls t (g.nd i) k <;> cases aheadTo T3 (g.nd i) k q <;> cases holdB cls t (g.nd i) k <;> simp,⟨_,aRow⟩,hT.keep fun x hx => aSkip,⟨_,aRow⟩,⟨_,aRow⟩⟩
      | false =>
       cases hv:tget T3 y.toNat k with
       | false =>
        rw [hv] at e2
        repeat' (first|((with_reducible refine Go.red ?_);conv => whnf)|refine aG ?_|exact aCn|with_reducible refine Go.and ?_ ?_|((with_reducible refine Ask.mk ?_);first|exact aAsk|(exact hfm)|(exact hql)|(exact hrl)|exact aAsk2)|(apply Go.elem;(·(first|exact eq0 _|exact e1 _|exact e2 _|exact aElem)))|refine aH ?_|((with_reducible refine Go.bool ?_ ?_) <;> intro hc <;> (try simp only [List.length_map,ne_eq,hcs] at hc) <;> try (exfalso;omega)))
        exact ⟨(q + 1,false),by dsimp only;omega,aLess,aNx,by dsimp only;omega,by dsimp only;rw [han,hv,Bool.or_false];exact his,⟨_,aRow⟩,hT.keep fun x hx => aSkip,⟨_,aRow⟩,⟨_,aRow⟩⟩
       | true =>
        rw [hv] at e2
        have hval:(waitB cls t (g.nd i) k || (aheadTo T3 (g.nd i) k (q + 1) && holdB cls t (g.nd i) k)) = !(decide ((g.nd i).kind = 3) && decide ((g.nd i).thing = (k:Int))):=by
         rw [han,hv,Bool.or_true,Bool.true_and]
         have:waitB cls t (g.nd i) k = false:=by revert his;cases waitB cls t (g.nd i) k <;> simp
         rw [this,Bool.false_or];unfold holdB;rw [hown];rfl
        repeat' (first|((with_reducible refine Go.red ?_);conv => whnf)|refine aG ?_|exact aCn|with_reducible refine Go.and ?_ ?_|((with_reducible refine Ask.mk ?_);first|exact aAsk|(exact hfm)|(exact hql)|(exact hrl)|exact aAsk2|(intro h;simp_all [Node.cells] <;> fail)|(simp_all [Node.cells] <;> fail))|(apply Go.elem;(·(first|exact eq0 _|exact e1 _|exact e2 _|exact aElem)))|refine aH ?_|((with_reducible refine Go.bool ?_ ?_) <;> intro hc <;> (try simp only [List.length_map,ne_eq,hcs] at hc) <;> try (exfalso;omega)))
        exact ⟨(q + 1,!(if decide ((g.nd i).kind = 3) = true then decide ((g.nd i).thing = (k:Int)) else false)),by dsimp only;omega,aLess,aNx,by dsimp only;omega,by dsimp only;rw [hval];by_cases a:(g.nd i).kind = 3 <;> simp [a],⟨_,aRow⟩,hT.keep fun x hx => aSkip,⟨_,aRow⟩,⟨_,aRow⟩⟩
     ·have:q = (g.nd i).fol.length:=by omega
      subst this
      rw [aheadTo_all,Bool.and_comm] at his
      have his2:is = cellB g (waitB cls t) (holdB cls t) T3 i k:=his
      have hiS:i < (tabS T3).length:=by rw [tabS_len,hT3l];exact hi
      have hiT:i < T3.length:=by rw [hT3l];exact hi
      have hrow:=hgr.shape.row i hi
      obtain ⟨di,ri⟩:=hT.qs i hiS
      have e1:∀ d,(qRow ids (tabS T3)).getD (i:Int).toNat d = .sl (ids.getD i 0) N:=fun d => by
       have:=hT.get hiS d
       rw [tabS_get hiT,List.length_map,hrow] at this
       rw [Int.toNat_natCast];exact this
      rw [tabS_get hiT] at ri
      have hrl:((T3.getD i []).map bl).length = N:=by rw [List.length_map,hrow]
      have e2:=fun d => bl_at (l:=T3.getD i []) (k:=k) (by rw [hrow];exact hkN) d
      rw [show (T3.getD i []).getD k false = tget T3 i k from rfl] at e2
      have hxi:=hids (ids.getD i 0) (List.mem_cons_of_mem _ (getD_mem (by rw [hle];exact hi)))
      have hne:=hT.ne hiS
      cases is with
      | false =>
       repeat' (first|((with_reducible refine Go.red ?_);conv => whnf)|refine aG ?_|exact aCn|with_reducible refine Go.and ?_ ?_|((with_reducible refine Ask.mk ?_);first|exact aAsk|(exact hfm)|exact aAsk2)|(apply Go.elem;(·exact aElem))|refine aH ?_|((with_reducible refine Go.bool ?_ ?_) <;> intro hc <;> (try simp only [List.length_map,ne_eq,hcs] at hc) <;> try (exfalso;omega)))
       exact ⟨(T3,ag2,k + 1),by dsimp only;omega,aLess,aNx,by dsimp only;omega,⟨_,aRow⟩,hT.keep fun x hx => aSkip,⟨_,aRow⟩,⟨_,aRow⟩,hgr,hfa,hmore T3 ag2 (fun h => ⟨rfl,h,fun hc => by rw [← his2] at hc;cases hc⟩)⟩
      | true =>
       cases hv:tget T3 i k with
       | true =>
        rw [hv] at e2
        repeat' (first|((with_reducible refine Go.red ?_);conv => whnf)|refine aG ?_|exact aCn|with_reducible refine Go.and ?_ ?_|((with_reducible refine Ask.mk ?_);first|exact aAsk|(exact hfm)|(exact hql)|(exact hrl)|exact aAsk2)|(apply Go.elem;(·(first|exact e1 _|exact e2 _|exact aElem)))|refine aH ?_|((with_reducible refine Go.bool ?_ ?_) <;> intro hc <;> (try simp only [List.length_map,ne_eq,hcs] at hc) <;> try (exfalso;omega)))
        exact ⟨(T3,ag2,k + 1),by dsimp only;omega,aLess,aNx,by dsimp only;omega,⟨_,aRow⟩,hT.keep fun x hx => aSkip,⟨_,aRow⟩,⟨_,aRow⟩,hgr,hfa,hmore T3 ag2 (fun h => ⟨rfl,h,fun _ => hv⟩)⟩
       | false =>
        rw [hv] at e2
        have hfs:=falses_set hgr.shape hi hkN hv
        repeat' (first|((with_reducible refine Go.red ?_);conv => whnf)|refine aG ?_|exact aCn|with_reducible refine Go.and ?_ ?_|((with_reducible refine Ask.mk ?_);first|exact aAsk|(exact hfm)|(exact hql)|(exact hrl)|exact aAsk2)|(apply Go.elem;(·(first|exact e1 _|exact e2 _|exact aElem)))|refine aH ?_|((with_reducible refine Go.bool ?_ ?_) <;> intro hc <;> (try simp only [List.length_map,ne_eq,hcs] at hc) <;> try (exfalso;omega)))
        refine ⟨(tset T3 i k,true,k + 1),by dsimp only;omega,aLess,aNx,by dsimp only;omega,⟨_,aRow⟩,hT.set hiT k ?_ ⟨_,aRow⟩ (fun x hx hxn => ?_),⟨_,aRow⟩,⟨_,aRow⟩,hgr.step hi hkN his2.symm,?_,fun h => by cases h⟩
        ·exact aSkip
        ·exact aSkip
        ·dsimp only
         simp only [if_true]
         omega
    ·have:k = N:=by omega
     subst this
     repeat' (first|((with_reducible refine Go.red ?_);conv => whnf)|refine aG ?_|exact aCn|with_reducible refine Go.and ?_ ?_|((with_reducible refine Ask.mk ?_);first|exact aAsk|(exact hsm)|exact aAsk2|(intro h;simp_all [UnitS.cells] <;> fail)|(simp_all [UnitS.cells] <;> fail))|(apply Go.elem;(·exact aElem))|refine aH ?_|((with_reducible refine Go.bool ?_ ?_) <;> intro hc <;> (try simp only [List.length_map,ne_eq,hcs] at hc) <;> try (exfalso;omega)))
     exact ⟨(T3,ag2,i),by dsimp only;omega,aLess,by omega,by dsimp only;omega,hT.keep fun x hx => aSkip,⟨_,aRow⟩,⟨_,aRow⟩,hgr,hfa,fun h i' k' a1 a2 a3 a5 => hcl h i' k' a1 a2 a3 (fun _ => a3) a5⟩
end Go.Proofs.YtmonponfppdgfaaGreatDoor
end
section
/- Nodes that come back to themselves: the walk. -/
namespace Go.Proofs.YtmonponfppdgfaaGreatDoor
open Go Go.Abs Go.Proofs
set_option linter.unusedSimpArgs false
set_option linter.unusedVariables false
theorem cloneB_call (l:List Bool) (hl:0 < l.length) (hl2:l.length ≤ 4096) (b:Nat) (H:Hp) (nx:Nat) (e:TypeId) (d:AV) (hb:getH H b = some (.row e 1 d (l.map bl))) (hbn:b < nx) :
 CallN Tryz.prog 78 [.sl b l.length] H nx (fun r H2 n2 => ∃ d2,r = .sl (nx + 3) l.length∧nx + 3 < n2∧getH H2 (nx + 3) = some (.row 4 1 d2 (l.map bl))∧∀ y,y < nx→getH H2 y = getH H y):=by
 refine Go.fnL lf78 rfl ?_
 have hml:(l.map bl).length = l.length:=by simp
 repeat' (first|((with_reducible refine Go.red ?_);conv => whnf)|refine aG ?_|exact aCn|with_reducible refine Go.and ?_ ?_|((with_reducible refine Ask.mk ?_);first|exact aAsk|(exact hml)|exact aAsk2)|(apply Go.elem;(·exact aElem))|refine aH ?_|((with_reducible refine Go.bool ?_ ?_) <;> intro hc <;> (try simp only [List.length_map,ne_eq,hcs] at hc) <;> try (exfalso;omega)))
 exact ⟨⟨_,by simp,aNx,aRow,aKeep⟩⟩
open Classical in
noncomputable def ringTo (l:List Bool) (g:Graph) (i:Nat):List Bool:=(List.range l.length).map fun j => if j < i then tf l j && !decide (Ret l g j) else tf l j
theorem ringTo_len (l:List Bool) (g:Graph) (i:Nat):(ringTo l g i).length = l.length:=by simp [ringTo]
theorem ringTo_zero (l:List Bool) (g:Graph):ringTo l g 0 = l:=by
 apply List.ext_getElem
 ·simp [ringTo]
 ·intro j h1 h2;simp [ringTo,tf,List.getD,h2]
theorem ringTo_end (l:List Bool) (g:Graph):ringTo l g l.length = idleOf l g:=by
 apply List.ext_getElem
 ·simp [ringTo,idleOf]
 ·intro j h1 h2
  have:j < l.length:=by rw [ringTo_len] at h1;exact h1
  simp [ringTo,idleOf,this]
open Classical in
theorem ringTo_keep {l:List Bool} {g:Graph} {i:Nat} (h:tf l i = true→¬ Ret l g i):ringTo l g (i + 1) = ringTo l g i:=by
 apply List.ext_getElem
 ·simp [ringTo]
 ·intro j h1 h2
  simp only [ringTo,List.getElem_map,List.getElem_range]
  by_cases hj:j = i
  ·subst hj
   rw [if_pos (by omega),if_neg (by omega)]
   cases ht:tf l j with
   | false => rfl
   | true => rw [decide_eq_false (h ht)];rfl
  ·by_cases h3:j < i
   ·rw [if_pos (by omega),if_pos h3]
   ·rw [if_neg (by omega),if_neg h3]
open Classical in
theorem ringTo_ret {l:List Bool} {g:Graph} {i:Nat} (hi:i < l.length) (h:Ret l g i):ringTo l g (i + 1) = (ringTo l g i).set i false:=by
 apply List.ext_getElem
 ·simp [ringTo]
 ·intro j h1 h2
  rw [List.getElem_set]
  simp only [ringTo,List.getElem_map,List.getElem_range]
  by_cases hj:i = j
  ·subst hj
   rw [if_pos (by omega),if_pos rfl,decide_eq_true h];simp
  ·rw [if_neg hj]
   by_cases h3:j < i
   ·rw [if_pos (by omega),if_pos h3]
   ·rw [if_neg (by omega),if_neg h3]
structure RingAt (l:List Bool) (g:Graph) (i k:Nat):Prop where
 such:∀ q,q ≤ k→tf l (iter g i q) = true
 not:∀ q,1 ≤ q→q ≤ k→iter g i q ≠ i
theorem ring_none {l:List Bool} {g:Graph} {i k:Nat} (h:RingAt l g i k) (hend:l.length ≤ k ∨ tf l (iter g i (k + 1)) = false):¬ Ret l g i:=by
 intro hr
 obtain ⟨p,h1,h2,h3,h4⟩:=ret_short hr
 rcases hend with he|he
 ·exact h.not p h1 (by omega) h3
 ·by_cases hp:p ≤ k
  ·exact h.not p h1 hp h3
  ·by_cases hp2:p = k + 1
   ·subst hp2
    rw [h3] at he
    have:=h.such 0 (Nat.zero_le _)
    rw [show iter g i 0 = i from rfl,he] at this;cases this
   ·rw [h4 (k + 1) (by omega)] at he;cases he
set_option maxRecDepth 4000 in
set_option maxHeartbeats 8000000 in
theorem rings_call (g:Graph) (hg:g.Wf) (hw:Whole g) (t:Nat) (cls:List ClassV) (l:List Bool) (hlm:l.length = g.nodes.length) (hnx:∀ j,tf l j = true→0 ≤ (g.nd j).next∧(g.nd j).next < g.nodes.length) (b:Nat) (H:Hp) (nx:Nat) (d:AV) (hb:getH H b = some (.row 4 1 d (l.map bl))) (hbn:b < nx) :
 CallN Tryz.prog 45 [lookX g t cls,.sl b g.nodes.length] H nx (fun r H2 n2 => ∃ b2 d2,r = .sl b2 g.nodes.length∧nx ≤ b2∧b2 < n2∧getH H2 b2 = some (.row 4 1 d2 ((idleOf l g).map bl))∧∀ y,y < nx→getH H2 y = getH H y):=by
 have hl:=hg.len
 have hl0:=hw.1
 have hl1:=hw.2.1
 rw [← hlm] at hl hl0 hl1 hnx ⊢
 refine Go.fnL lf45 rfl ?_
 have hml:(l.map bl).length = l.length:=by simp
 repeat' (first|((with_reducible refine Go.red ?_);conv => whnf)|refine aG ?_|exact aC|with_reducible refine Go.and ?_ ?_|(apply Go.elem;(·exact aElem))|refine aH ?_|((with_reducible refine Go.bool ?_ ?_) <;> intro hc <;> (try simp only [List.length_map,ne_eq,hcs] at hc) <;> try (exfalso;omega)))
 refine Go.callN (cloneB_call l (by omega) hl1 b _ _ 4 d aRow aNx) ?_
 rintro _ H1 n1 ⟨d1,rfl,hn1,r5,hk1⟩
 have hb1:getH H1 b = some (.row 4 1 d (l.map bl)):=(hk1 b aNx).trans aRow
 have hk2:∀ y,y < nx→getH H1 y = getH H y:=fun y hy => (hk1 y (Nat.lt_of_lt_of_le hy aNx)).trans aSkip
 clear hk1
 repeat' (first|((with_reducible refine Go.red ?_);conv => whnf)|refine aG ?_|exact aCn|with_reducible refine Go.and ?_ ?_|((with_reducible refine Ask.mk ?_);first|exact aAsk|(exact hml)|exact aAsk2)|(apply Go.elem;(·exact aElem))|refine aH ?_|((with_reducible refine Go.bool ?_ ?_) <;> intro hc <;> (try simp only [List.length_map,ne_eq,hcs] at hc) <;> try (exfalso;omega)))
 have hz:ringTo l g 0 = l:=ringTo_zero l g
 refine Go.loop (fun i:Nat => [(0,lookX g t cls),(1,.sl b l.length),(5,.sl (nx + 5) l.length),(12,i64 l.length),(13,i64 i)])
  (fun i H' n' => i ≤ l.length∧n1 ≤ n'∧(∃ d,getH H' b = some (.row 4 1 d (l.map bl)))∧(∃ d,getH H' (nx + 5) = some (.row 4 1 d ((ringTo l g i).map bl)))∧∀ y,y < nx→getH H' y = getH H y) (fun i => l.length - i) 0 aLess ⟨Nat.zero_le _,aNx,⟨_,aRow⟩,⟨_,by rw [hz];exact aRow⟩,fun y hy => Eq.trans aSkip (hk2 y hy)⟩ ?_
 clear r5 hb1 hk2 hb
 rintro i H2 n2 ⟨hi,hn2,⟨db,rb⟩,⟨d5,r5⟩,hk2⟩
 by_cases hil:i < l.length
 ·have el:=fun d => bl_at (l:=l) (k:=i) hil d
  have hrl:((ringTo l g i).map bl).length = l.length:=by rw [List.length_map,ringTo_len]
  cases hti:tf l i with
  | false =>
   have hkp:=ringTo_keep (l:=l) (g:=g) (i:=i) (fun h => by rw [hti] at h;cases h)
   rw [show l.getD i false = false from hti] at el
   repeat' (first|((with_reducible refine Go.red ?_);conv => whnf)|refine aG ?_|exact aCn|with_reducible refine Go.and ?_ ?_|((with_reducible refine Ask.mk ?_);first|exact aAsk|(exact hml)|exact aAsk2)|(apply Go.elem;(·(first|exact el _|exact aElem)))|refine aH ?_|((with_reducible refine Go.bool ?_ ?_) <;> intro hc <;> (try simp only [List.length_map,ne_eq,hcs] at hc) <;> try (exfalso;omega)))
   exact ⟨i + 1,by omega,aLess,by omega,by omega,⟨_,aRow⟩,⟨_,by rw [hkp];exact aRow⟩,fun y hy => Eq.trans aSkip (hk2 y hy)⟩
  | true =>
   rw [show l.getD i false = true from hti] at el
   have en:=fun d => nd_at (l:=g.nodes) (i:=i) (by rw [← hlm];exact hil) d
   have hnl:(g.nodes.map Node.av).length = l.length:=by rw [List.length_map,hlm]
   repeat' (first|((with_reducible refine Go.red ?_);conv => whnf)|refine aG ?_|exact aCn|with_reducible refine Go.and ?_ ?_|((with_reducible refine Ask.mk ?_);first|exact aAsk|(exact hml)|(rw [hnl];omega)|exact aAsk2|(intro h;simp_all [lookCells,Node.cells] <;> fail)|(simp_all [lookCells,Node.cells] <;> fail))|(apply Go.elem;(·(first|exact el _|exact en _|exact aElem)))|refine aH ?_|((with_reducible refine Go.bool ?_ ?_) <;> intro hc <;> (try simp only [List.length_map,ne_eq,hcs] at hc) <;> try (exfalso;omega)))
   refine Go.loop (fun k:Nat => [(0,lookX g t cls),(1,.sl b l.length),(5,.sl (nx + 5) l.length),(6,i64 i),(7,i64 (g.nd (iter g i k)).next),(8,i64 k),(12,i64 l.length),(13,i64 i)])
    (fun k H' n' => k ≤ l.length∧n2 ≤ n'∧RingAt l g i k∧(∃ d,getH H' b = some (.row 4 1 d (l.map bl)))∧(∃ d,getH H' (nx + 5) = some (.row 4 1 d ((ringTo l g i).map bl)))∧∀ y,y < nx→getH H' y = getH H y) (fun k => l.length - k) 0 aLess ⟨Nat.zero_le _,aNx,⟨fun q hq => by rw [show q = 0 by omega];exact hti,fun q h1 h2 => by omega⟩,⟨_,aRow⟩,⟨_,aRow⟩,fun y hy => Eq.trans aSkip (hk2 y hy)⟩ ?_
   clear rb r5 hk2
   rintro k H3 n3 ⟨hk,hn3,hra,⟨db,rb⟩,⟨d5,r5⟩,hk3⟩
   obtain ⟨x0,x1⟩:=hnx _ (hra.such k (Nat.le_refl _))
   have hx1:(g.nd (iter g i k)).next.toNat < l.length:=by omega
   have ex:∀ d,(l.map bl).getD ((g.nd (iter g i k)).next).toNat d = bl (tf l (iter g i (k + 1))):=fun d => getD_av bl l _ d hx1
   have em:∀ d,(g.nodes.map Node.av).getD ((g.nd (iter g i k)).next).toNat d = (g.nd (iter g i (k + 1))).av:=fun d => getD_av Node.av g.nodes _ d (by rw [← hlm];exact hx1)
   by_cases hkl:k < l.length
   ·have hkd:decide ((k:Int) < (l.length:Int)) = true:=decide_eq_true (by omega)
    cases htk:tf l (iter g i (k + 1)) with
    | false =>
     rw [htk] at ex
     have hkp:=ringTo_keep (l:=l) (g:=g) (i:=i) (fun _ => ring_none hra (.inr htk))
     repeat' (first|((with_reducible refine Go.red ?_);conv => whnf)|refine aG ?_|exact aCn|with_reducible refine Go.and ?_ ?_|((with_reducible refine Ask.mk ?_);first|exact aAsk|(exact hml)|exact aAsk2|(intro h;simp_all [lookCells,Node.cells] <;> fail)|(simp_all [lookCells,Node.cells] <;> fail))|(apply Go.elem;(·(first|exact ex _|exact aElem)))|(simp only [hkd])|refine aH ?_|((with_reducible refine Go.bool ?_ ?_) <;> intro hc <;> (try simp only [List.length_map,ne_eq,hcs] at hc) <;> try (exfalso;omega)))
     exact ⟨i + 1,by omega,aLess,by omega,by omega,⟨_,aRow⟩,⟨_,by rw [hkp];exact aRow⟩,fun y hy => Eq.trans aSkip (hk3 y hy)⟩
    | true =>
     rw [htk] at ex
     by_cases hxi:(g.nd (iter g i k)).next = (i:Int)
     ·have hret:Ret l g i:=⟨k + 1,by omega,by show (g.nd (iter g i k)).next.toNat = i;omega,fun q hq => hra.such q (by omega)⟩
      have hst:=ringTo_ret hil hret
      have hsl:((ringTo l g i).map bl).set ((i:Nat):Int).toNat (bl false) = (ringTo l g (i + 1)).map bl:=by rw [Int.toNat_natCast,hst,bool_set]
      have eo:=fun d => bl_at (l:=ringTo l g i) (k:=i) (by rw [ringTo_len];exact hil) d
      repeat' (first|((with_reducible refine Go.red ?_);conv => whnf)|refine aG ?_|exact aCn|with_reducible refine Go.and ?_ ?_|((with_reducible refine Ask.mk ?_);first|exact aAsk|(exact hml)|(exact hrl)|exact aAsk2|(intro h;simp_all [lookCells,Node.cells] <;> fail)|(simp_all [lookCells,Node.cells] <;> fail))|(apply Go.elem;(·(first|exact ex _|exact el _|exact eo _|exact aElem)))|(simp only [hkd])|(simp only [hxi])|refine aH ?_|((with_reducible refine Go.bool ?_ ?_) <;> intro hc <;> (try simp only [List.length_map,ne_eq,hcs] at hc) <;> try (exfalso;omega)))
      exact ⟨i + 1,by omega,aLess,by omega,by omega,⟨_,aRow⟩,⟨_,by rw [← hsl];exact aRow⟩,fun y hy => Eq.trans aSkip (hk3 y hy)⟩
     ·repeat' (first|((with_reducible refine Go.red ?_);conv => whnf)|refine aG ?_|exact aCn|with_reducible refine Go.and ?_ ?_|((with_reducible refine Ask.mk ?_);first|exact aAsk|(exact hml)|(rw [hnl];omega)|exact aAsk2|(intro h;simp_all [lookCells,Node.cells] <;> fail)|(simp_all [lookCells,Node.cells] <;> fail))|(apply Go.elem;(·(first|exact ex _|exact em _|exact aElem)))|(simp only [hkd])|refine aH ?_|((with_reducible refine Go.bool ?_ ?_) <;> intro hc <;> (try simp only [List.length_map,ne_eq,hcs] at hc) <;> try (exfalso;omega)))
      refine ⟨k + 1,by omega,aLess,by omega,by omega,⟨fun q hq => ?_,fun q h1 h2 => ?_⟩,⟨_,aRow⟩,⟨_,aRow⟩,fun y hy => Eq.trans aSkip (hk3 y hy)⟩
      ·by_cases e:q = k + 1
       ·rw [e];exact htk
       ·exact hra.such q (by omega)
      ·by_cases e:q = k + 1
       ·rw [e];intro h
        apply hxi
        have h:(g.nd (iter g i k)).next.toNat = i:=h
        omega
       ·exact hra.not q h1 (by omega)
   ·have hkp:=ringTo_keep (l:=l) (g:=g) (i:=i) (fun _ => ring_none hra (.inl (by omega)))
    repeat' (first|((with_reducible refine Go.red ?_);conv => whnf)|refine aG ?_|exact aCn|with_reducible refine Go.and ?_ ?_|((with_reducible refine Ask.mk ?_);first|exact aAsk|(exact hml)|exact aAsk2|(intro h;simp_all [lookCells,Node.cells] <;> fail)|(simp_all [lookCells,Node.cells] <;> fail))|(apply Go.elem;(·(first|exact ex _|exact aElem)))|refine aH ?_|((with_reducible refine Go.bool ?_ ?_) <;> intro hc <;> (try simp only [List.length_map,ne_eq,hcs] at hc) <;> try (exfalso;omega)))
    exact ⟨i + 1,by omega,aLess,by omega,by omega,⟨_,aRow⟩,⟨_,by rw [hkp];exact aRow⟩,fun y hy => Eq.trans aSkip (hk3 y hy)⟩
 ·have:i = l.length:=by omega
  subst this
  rw [ringTo_end] at r5
  repeat' (first|((with_reducible refine Go.red ?_);conv => whnf)|refine aG ?_|exact aC|with_reducible refine Go.and ?_ ?_|(apply Go.elem;(·exact aElem))|refine aH ?_|((with_reducible refine Go.bool ?_ ?_) <;> intro hc <;> (try simp only [List.length_map,ne_eq,hcs] at hc) <;> try (exfalso;omega)))
  exact ⟨⟨nx + 5,d5,rfl,by omega,aNx,aRow,fun y hy => Eq.trans aSkip (hk2 y hy)⟩⟩
theorem such_next {u:UnitS} {g:Graph} (hk:GraphOk u g) {cls:List ClassV} {t j:Nat} (h:tf (suchL g cls t) j = true):0 ≤ (g.nd j).next∧(g.nd j).next < g.nodes.length:=by
 have hj:j < g.nodes.length:=by have:=tf_lt h;rw [suchL_len] at this;exact this
 have hs:suchB g cls t j = true:=by simpa [tf,suchL,suchTo,List.getD,hj] using h
 have hno:=hk.node hj
 have hkk:(g.nd j).kind = 1 ∨ (g.nd j).kind = 2 ∨ (g.nd j).kind = 3 ∨ (g.nd j).kind = 8:=by
  unfold suchB at hs
  dsimp only at hs
  rw [Bool.and_eq_true] at hs
  obtain ⟨_,hs⟩:=hs
  split at hs
  ·omega
  ·split at hs
   ·omega
   ·split at hs
    ·omega
    ·split at hs
     ·omega
     ·cases hs
 exact hno.next.1 (by unfold usesNext;exact decide_eq_true (by omega))
theorem idle_call (u:UnitS) (g:Graph) (hg:g.Wf) (hk:GraphOk u g) (t:Nat) (cls:List ClassV) (hcl:cls.length = u.shared.length) (hcl64:cls.length ≤ 64) (H:Hp) (nx:Nat) :
 CallN Tryz.prog 23 [lookX g t cls] H nx (fun r H2 n2 => ∃ b2 d2,r = .sl b2 g.nodes.length∧nx ≤ b2∧b2 < n2∧getH H2 b2 = some (.row 4 1 d2 ((idleL g cls t).map bl))∧∀ y,y < nx→getH H2 y = getH H y) :=
 such_call u g hg hk t cls hcl hcl64 H nx fun b H' n' d hb hbn => rings_call g hg hk.whole t cls (suchL g cls t) (suchL_len g cls t) (fun j hj => such_next hk hj) b H' n' d hb hbn
end Go.Proofs.YtmonponfppdgfaaGreatDoor
end
