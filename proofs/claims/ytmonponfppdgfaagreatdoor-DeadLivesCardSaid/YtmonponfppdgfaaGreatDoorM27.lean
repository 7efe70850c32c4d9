import Derived.Test.YtmonponfppdgfaaGreatDoorM26
section
/- The locks held: the walk. -/
namespace Go.Proofs.YtmonponfppdgfaaGreatDoor
open Go Go.Abs Go.Proofs
set_option linter.unusedSimpArgs false
set_option linter.unusedVariables false
abbrev mapI (E:List (Int × Bool)):List AV:=mapE (fun n:Int => Value.int .i64 n) bl E
theorem getI (E:List (Int × Bool)) (t:Int):mget false (.int .i64 t) (mapI E) (bl false) = some (bl ((lookE E t).getD false),(lookE E t).isSome):=(mget_E keyInt bl t E (bl false)).trans (by cases lookE E t <;> rfl)
theorem putI (E:List (Int × Bool)) (t:Int) (v:Bool):mput false (.int .i64 t) (mapI E) (bl v) = some (mapI (putE E t v)):=mput_E keyInt bl t v E
def foundE (E:List (Int × Bool)) (s:HS):Prop:=∀ k:Int,0 ≤ k→(lookE E k).getD false = s.f k
theorem imF_at {l:List (List Int)} {i:Int} (h:i.toNat < l.length) (d:AV):(l.map imF).getD i.toNat d = imF (l.getD i.toNat []):=getD_av imF l _ d h
theorem imF_set {l:List (List Int)} {i:Nat} (v:List Int):(l.map imF).set i (imF v) = (l.set i v).map imF:=by rw [List.map_set]
theorem heldRun_next {g:Graph} {f k:Nat} {s:HS} (hk:k < s.todo.length):heldRun g (f + 1) s k = (match heldNow (g.nd (s.todo.getD k 0).toNat) (s.l (s.todo.getD k 0)) with
 | none => ([],s.todo.getD k 0)
 | some now => match heldTo now (g.nd (s.todo.getD k 0).toNat).fol s with
  | .inl s' => heldRun g f s' (k + 1)
  | .inr at_ => ([],at_)):=by rw [heldRun,if_pos hk];rfl
def heldAv (r:List (List Int) × Int):AV:=.tup [.im 1 .any (r.1.map imF),i64 r.2]
theorem ints_get {l:List Int} {k:Nat} (h:k < l.length) (d:AV):(l.map i64).getD ((k:Int)).toNat d = i64 (l.getD k 0):=int_at h d
theorem ints_frz (l:List Int) {H:Hp}:[AV.im 1 .any (l.map i64)].map (Abs.frz H 6) = [AV.im 1 .any (l.map i64)]:=by
 rw [List.map_cons,List.map_nil,frz_fit 6 (by simp [fitA,fitL_map])]
theorem heldTo_drop (now l:List Int) (s:HS) {j:Nat} (h:j < l.length):heldTo now (l.drop j) s = if s.f (l.getD j 0) = false then heldTo now (l.drop (j + 1)) ⟨s.locks.set (l.getD j 0).toNat now,s.found.set (l.getD j 0).toNat true,s.todo ++ [l.getD j 0]⟩ else if s.l (l.getD j 0) = now then heldTo now (l.drop (j + 1)) s else .inr (l.getD j 0):=by
 rw [List.drop_eq_getElem_cons h,heldTo,gd h]
theorem heldTo_twice (now:List Int) (a:Int) (s:HS) (h:a.toNat < s.found.length) (hl:s.locks.length = s.found.length):heldTo now [a,a] s = heldTo now [a] s:=by
 simp only [heldTo]
 by_cases h1:s.f a = false
 ·rw [if_pos h1,if_pos h1,if_neg (by rw [HS.f_set h];simp),if_pos (by rw [HS.l_set (by rw [hl];exact h)];simp)]
 ·simp only [if_neg h1]
  by_cases h2:s.l a = now
  ·simp only [if_pos h2]
  ·simp only [if_neg h2]
theorem fold_held {g:Graph} (hw:Whole g) {i:Nat} (hi:i < g.nodes.length) {now:List Int} {s:HS} (hl:s.locks.length = g.nodes.length) (hf:s.found.length = g.nodes.length):heldTo now (g.nd i).fol s = heldTo now (g.nd i).fold s :=
 (fold_same2 (fun l => heldTo now l s) (g.nd i) fun h8 => heldTo_twice now _ s (by
  rw [hf]
  refine ((hw.2.2 i hi).2.2 _ ?_).2
  unfold Node.fol
  rw [if_neg (by omega),if_pos h8];simp) (by rw [hl,hf])).symm
def ToldB (nv:AV) (l:List Int) (H:Hp) (nx:Nat):Prop:=Told nv l H nx∧∀ b m,nv = .sl b m→12 < b
theorem Told.keep {nv:AV} {l:List Int} {H H2:Hp} {nx nx2:Nat} (h:Told nv l H nx) (hn:nx ≤ nx2) (hb:∀ b m,nv = .sl b m→12 < b) (hk:∀ b,12 < b→b < nx→getH H2 b = getH H b):Told nv l H2 nx2:=by
 rcases h with h|⟨b,d,h1,h2,h3⟩
 ·exact .inl h
 ·exact .inr ⟨b,d,h1,by omega,(hk b (hb _ _ h1) h2).trans h3⟩
theorem ToldB.keep {nv:AV} {l:List Int} {H H2:Hp} {nx nx2:Nat} (h:ToldB nv l H nx) (hn:nx ≤ nx2) (hk:∀ b,12 < b→b < nx→getH H2 b = getH H b):ToldB nv l H2 nx2:=⟨h.1.keep hn h.2 hk,h.2⟩
set_option maxRecDepth 8000 in
set_option maxHeartbeats 8000000 in
theorem held_call (g:Graph) (hg:g.Wf) (hw:Whole g):CallN Tryz.prog 53 [g.av] [] 0 (fun r H n => (∃ a,r = .tup [.sc (.slice none 0 0),i64 a]∧heldG g = ([],a)) ∨ ∃ b d L,r = .tup [.sl b L.length,i64 (-1)]∧heldG g = (L,-1)∧getH H b = some (.row 89 1 d (L.map imF))):=by
 have hl:=hg.len
 have hl0:=hw.1
 have hl1:=hw.2.1
 refine Go.fnL lf53 rfl ?_
 repeat' (first|((with_reducible refine Go.red ?_);conv => whnf)|refine aG ?_|exact aCn|with_reducible refine Go.and ?_ ?_|((with_reducible refine Ask.mk ?_);first|exact aAsk|exact aAsk2|(intro h;simp_all [Graph.cells] <;> fail)|(simp_all [Graph.cells] <;> fail))|(apply Go.elem;(·exact aElem))|(apply Go.givesG (g:=none);(·exact fun _ => putI [] _ _))|refine aH ?_|((with_reducible refine Go.bool ?_ ?_) <;> intro hc <;> (try simp only [List.length_map,ne_eq,hcs] at hc) <;> try (exfalso;omega)))
 simp only [List.length_map,Int.toNat_natCast]
 refine Go.loopT (fun s:HS × Nat => [(1,.pt 0 1 0 0),(4,.sl 6 g.nodes.length),(5,.mp 8),(6,.sl 12 s.1.todo.length),(7,i64 s.2)])
  (fun s H n => 15 ≤ n∧(∃ d,getH H 0 = some (.row 40 4 d [g.av]))∧(∃ d,getH H 6 = some (.row 89 1 d (s.1.locks.map imF)))∧(∃ d E,getH H 8 = some (.row 3 0 d (mapA (mapI E)))∧foundE E s.1)∧(∃ d,getH H 12 = some (.row 3 1 d (s.1.todo.map i64)))∧HI g s.1 s.2∧s.2 ≤ g.nodes.length∧(∀ i,(s.1.locks.getD i []).length ≤ s.2)∧heldRun g (g.nodes.length + 1 - s.2) s.1 s.2 = heldG g)
  (fun s => g.nodes.length + 1 - s.2) (hs0 g,0) aLess ⟨_,_,Wk.weak (b:=6) (e:=89) (sz:=1) (es:=List.replicate g.nodes.length (.sc (.slice none 0 0))) (d:=.sc (.slice none 0 0)) .any aRow (es2:=(hs0 g).locks.map imF) (by simp [hs0]) (fun c c2 _ _ => ?_),aNx,⟨_,aRow⟩,⟨_,aRow⟩,⟨_,putE [] 0 true,aRow,?_⟩,⟨_,aRow⟩,HI.start hw,Nat.zero_le _,?_,rfl⟩ ?_
 ·simp only [hs0,List.map_replicate]
  exact AVles.rep (AVle.nilIm c c2 1 .any) _
 ·intro y hy
  have:=fnd_set (l:=List.replicate g.nodes.length false) (i:=0) (by simp;omega) y
  show _ = fnd ((List.replicate g.nodes.length false).set 0 true) y
  rw [this]
  by_cases e:y = 0
  ·subst e;rfl
  ·rw [if_neg (by omega)]
   show (lookE [(0,true)] y).getD false = _
   simp only [lookE,if_neg e,Option.getD_none,fnd,List.getD,List.getElem?_replicate]
   split <;> rfl
 ·intro i
  simp only [hs0,List.getD,List.getElem?_replicate];split <;> exact Nat.zero_le _
 rintro ⟨s,k⟩ H n ⟨hn,⟨d0,r0⟩,⟨d6,r6⟩,⟨d8,E,r8,hE⟩,⟨d12,r12⟩,hI,hkl,hlen,hrun⟩
 dsimp only at r6 r12 hI hkl hlen hrun hE ⊢
 have hct:=hI.count
 by_cases hk:k < s.todo.length
 ·obtain ⟨x0,x1,x2⟩:=hI.inr _ (getD_mem' (0:Int) hk)
  have hll:=hI.llen
  have hcnt:=hI.count
  have hlm:(s.locks.map imF).length = g.nodes.length:=by simp [hll]
  have e1:=fun d => ints_get hk d
  have e2:=fun d => imF_at (l:=s.locks) (i:=s.todo.getD k 0) (by rw [hll];exact x1) d
  have hlk:=hlen (s.todo.getD k 0).toNat
  rw [show g.nodes.length + 1 - k = (g.nodes.length - k) + 1 by omega,heldRun_next hk] at hrun
  have hnx:=fun now s' => hI.next hw hk (now:=now) (s':=s')
  unfold HS.l at hrun hnx
  generalize hx:s.todo.getD k 0 = x at *
  have hf:=follows_pure (g.nd x.toNat)
  unfold imF at hf
  generalize hl0:s.locks.getD x.toNat [] = l at *
  have hfl:=fold_len (g.nd x.toNat)
  have hfh:=fun now => fold_held hw x1 (now:=now) (s:=s) hI.llen hI.flen
  by_cases h5:(g.nd x.toNat).kind = 5
  ·have hnow:heldNow (g.nd x.toNat) l = some (l ++ [(g.nd x.toNat).thing]):=by unfold heldNow;rw [if_pos h5]
   have hnl:(l ++ [(g.nd x.toNat).thing]).length ≤ k + 1:=by rw [List.length_append];exact Nat.succ_le_succ hlk
   rw [hnow] at hrun
   dsimp only at hrun
   repeat' (first|((with_reducible refine Go.red ?_);conv => whnf)|refine aG ?_|exact aCn|with_reducible refine Go.and ?_ ?_|((with_reducible refine Ask.mk ?_);first|exact aAsk|(exact hlm)|(refine app_le (m:=1) rfl ?_;simp only [List.length_map];omega)|exact aAsk2|(intro h;simp_all [Graph.cells,Node.cells] <;> fail)|(simp_all [Graph.cells,Node.cells] <;> fail))|(apply Go.elem;(·(first|exact nd_at x1 _|exact e1 _|exact e2 _|exact aElem)))|refine aK (hf) ?_|(simp only [h5])|((refine Go.freshE [] .any (clone_ints_mk (es:=l.map i64) (by rw [List.length_map];omega)) (fun i hi => by rw [getD_av i64 _ _ _ (by simpa using hi)];trivial) (fun _ _ => ints_frz l) (by simp [fitL,fitA,fitL_map]) ?_))|(apply Go.givesG (g:=none);(·exact fun _ => getI _ _))|(apply Go.givesG (g:=none);(·exact fun _ => putI _ _ _))|refine aH ?_|((with_reducible refine Go.bool ?_ ?_) <;> intro hc <;> (try simp only [List.length_map,ne_eq,hcs] at hc) <;> try (exfalso;omega)))
   clear hf
   simp only [List.length_map]
   refine Go.loop (fun q:HS × Nat => [(1,.pt 0 1 0 0),(4,.sl 6 g.nodes.length),(5,.mp 8),(6,.sl 12 q.1.todo.length),(7,i64 k),(10,.sl (n + 26) (l ++ [(g.nd x.toNat).thing]).length),(78,.im 1 .any ((g.nd x.toNat).fold.map i64)),(79,i64 (g.nd x.toNat).fold.length),(80,i64 q.2)])
    (fun q H2 n2 => q.2 ≤ (g.nd x.toNat).fold.length∧n + 15 ≤ n2∧(∃ d,getH H2 0 = some (.row 40 4 d [g.av]))∧(∃ d,getH H2 6 = some (.row 89 1 d (q.1.locks.map imF)))∧(∃ d E,getH H2 8 = some (.row 3 0 d (mapA (mapI E)))∧foundE E q.1)∧(∃ d,getH H2 12 = some (.row 3 1 d (q.1.todo.map i64)))∧ToldB (.sl (n + 26) (l ++ [(g.nd x.toNat).thing]).length) (l ++ [(g.nd x.toNat).thing]) H2 n2∧q.1.locks.length = g.nodes.length∧q.1.found.length = g.nodes.length∧q.1.todo.length + q.1.found.count false = g.nodes.length∧(∀ i,(q.1.locks.getD i []).length ≤ k + 1)∧heldTo (l ++ [(g.nd x.toNat).thing]) ((g.nd x.toNat).fold.drop q.2) q.1 = heldTo (l ++ [(g.nd x.toNat).thing]) (g.nd x.toNat).fold s)
    (fun q => (g.nd x.toNat).fold.length - q.2) (s,0) aLess ⟨Nat.zero_le _,aNx,⟨_,aRow⟩,⟨_,aRow⟩,⟨_,E,aRow,hE⟩,⟨_,aRow⟩,⟨.inr ⟨n + 26,_,rfl,aNx,by rw [← ints_app];exact aRow⟩,fun b m h => by cases h;omega⟩,hI.llen,hI.flen,hI.count,fun i => Nat.le_succ_of_le (hlen i),rfl⟩ ?_
   clear r0 r6 r8 r12
   rintro ⟨⟨lks,fnds,tds⟩,j⟩ H2 n2 ⟨hj,hn2,⟨d02,r0⟩,⟨d62,r6⟩,⟨d82,E2,r8,hE2⟩,⟨d122,r12⟩,hT,hll2,hfl2,hct2,hlen2,hto⟩
   dsimp only at hj hn2 r6 hE2 r12 hT hll2 hfl2 hct2 hlen2 hto ⊢
   by_cases hjl:j < (g.nd x.toNat).fold.length
   ·have hm:=mem_fold.1 (getD_mem' 0 hjl)
    obtain ⟨k0,k1⟩:=(hw.2.2 x.toNat x1).2.2 _ hm
    have e3:=fun d => int_at (l:=(g.nd x.toNat).fold) hjl d
    rw [heldTo_drop _ _ _ hjl] at hto
    generalize hy:(g.nd x.toNat).fold.getD j 0 = y at *
    have hl2m:(lks.map imF).length = g.nodes.length:=by simp [hll2]
    have e4:=fun d => imF_at (l:=lks) (i:=y) (by rw [hll2];exact k1) d
    have hE3:=hE2 y k0
    have hyc:((y.toNat:Nat):Int) = y:=by omega
    cases hfd:HS.f ⟨lks,fnds,tds⟩ y with
    | true =>
     rw [if_neg (by rw [hfd];decide)] at hto
     rw [hfd] at hE3
     repeat' (first|((with_reducible refine Go.red ?_);conv => whnf)|refine aG ?_|exact aCn|with_reducible refine Go.and ?_ ?_|((with_reducible refine Ask.mk ?_);first|exact aAsk|(exact hl2m)|exact aAsk2)|(apply Go.elem;(·(first|exact e3 _|exact e4 _|exact aElem)))|(simp only [hE3])|(apply Go.givesG (g:=none);(·exact fun _ => getI _ _))|(apply Go.givesG (g:=none);(·exact fun _ => putI _ _ _))|refine aH ?_|((with_reducible refine Go.bool ?_ ?_) <;> intro hc <;> (try simp only [List.length_map,ne_eq,hcs] at hc) <;> try (exfalso;omega)))
     refine Go.callN (told_eq (l:=l ++ [(g.nd x.toNat).thing]) ?_ (lks.getD y.toNat []) (by omega) (by have:=hlen2 y.toNat;omega)) ?_
     ·exact (hT.keep aNx (fun b h1 h2 => aSkip)).1
     rintro r1 H3 n3 ⟨hr,rfl,rfl⟩
     by_cases hq:lks.getD y.toNat [] = (l ++ [(g.nd x.toNat).thing])
     ·have hq2:HS.l ⟨lks,fnds,tds⟩ y = (l ++ [(g.nd x.toNat).thing]):=hq
      rw [if_pos hq2] at hto
      have hr1:r1 = bl true:=hr.trans (congrArg _ (decide_eq_true hq))
      subst hr1
      repeat' (first|((with_reducible refine Go.red ?_);conv => whnf)|refine aG ?_|exact aC|with_reducible refine Go.and ?_ ?_|(apply Go.elem;(·exact aElem))|refine aH ?_|((with_reducible refine Go.bool ?_ ?_) <;> intro hc <;> (try simp only [List.length_map,ne_eq,hcs] at hc) <;> try (exfalso;omega)))
      exact ⟨(⟨lks,fnds,tds⟩,j + 1),by dsimp only;omega,aLess,by dsimp only;omega,aNx,⟨_,aRow⟩,⟨_,aRow⟩,⟨_,E2,aRow,hE2⟩,⟨_,aRow⟩,hT.keep aNx (fun b h1 h2 => aSkip),hll2,hfl2,hct2,hlen2,hto⟩
     ·have hq2:¬ HS.l ⟨lks,fnds,tds⟩ y = (l ++ [(g.nd x.toNat).thing]):=hq
      rw [if_neg hq2] at hto
      have hr1:r1 = bl false:=hr.trans (congrArg _ (decide_eq_false hq))
      subst hr1
      repeat' (first|((with_reducible refine Go.red ?_);conv => whnf)|refine aG ?_|exact aC|with_reducible refine Go.and ?_ ?_|(apply Go.elem;(·exact aElem))|refine aH ?_|((with_reducible refine Go.bool ?_ ?_) <;> intro hc <;> (try simp only [List.length_map,ne_eq,hcs] at hc) <;> try (exfalso;omega)))
      exact ⟨.inl ⟨y,rfl,by rw [← hrun,hfh,← hto]⟩⟩
    | false =>
     rw [if_pos hfd] at hto
     rw [hfd] at hE3
     have hcts:=count_set (l:=fnds) (i:=y.toNat) (by rw [hfl2];exact k1) hfd
     repeat' (first|((with_reducible refine Go.red ?_);conv => whnf)|refine aG ?_|exact aCn|with_reducible refine Go.and ?_ ?_|((with_reducible refine Ask.mk ?_);first|exact aAsk|(exact hl2m)|exact aAsk2)|(apply Go.elem;(·(first|exact e3 _|exact e4 _|exact aElem)))|(simp only [hE3])|(apply Go.givesG (g:=none);(·exact fun _ => getI _ _))|(apply Go.givesG (g:=none);(·exact fun _ => putI _ _ _))|refine aH ?_|((with_reducible refine Go.bool ?_ ?_) <;> intro hc <;> (try simp only [List.length_map,ne_eq,hcs] at hc) <;> try (exfalso;omega)))
     refine Go.callN (told_clone (l:=l ++ [(g.nd x.toNat).thing]) ?_ (by omega)) ?_
     ·exact (hT.keep aNx (fun b h1 h2 => aSkip)).1
     rintro _ H3 n3 ⟨rfl,hn3,hkp⟩
     have hb:∀ {p:Prop},p→p:=fun h => h
     have r03:getH H3 0 = some (.row 40 4 d02 [g.av]):=(hkp 0 aNx).trans aRow
     have r63:getH H3 6 = some (.row 89 1 d62 (lks.map imF)):=(hkp 6 aNx).trans aRow
     have r83:getH H3 8 = some (.row 3 0 d82 (mapA (mapI (putE E2 y true)))):=(hkp 8 aNx).trans aRow
     have r123:getH H3 12 = some (.row 3 1 d122 (tds.map i64)):=(hkp 12 aNx).trans aRow
     have hn23:n2 < n3:=Nat.lt_of_lt_of_le aNx hn3
     have hT3:ToldB (.sl (n + 26) (l ++ [(g.nd x.toNat).thing]).length) (l ++ [(g.nd x.toNat).thing]) H3 n3:=hT.keep (Nat.le_of_lt hn23) (fun b h1 h2 => (hkp b (Nat.lt_of_lt_of_le h2 aNx)).trans aSkip)
     clear hkp hT
     repeat' (first|((with_reducible refine Go.red ?_);conv => whnf)|refine aG ?_|exact aCn|with_reducible refine Go.and ?_ ?_|((with_reducible refine Ask.mk ?_);first|exact aAsk|(exact hl2m)|exact aAsk2)|(apply Go.elem;(·(first|exact e3 _|exact e4 _|exact aElem)))|refine aH ?_|((with_reducible refine Go.bool ?_ ?_) <;> intro hc <;> (try simp only [List.length_map,ne_eq,hcs] at hc) <;> try (exfalso;omega)))
     refine ⟨(⟨lks.set y.toNat (l ++ [(g.nd x.toNat).thing]),fnds.set y.toNat true,tds ++ [y]⟩,j + 1),by dsimp only;omega,aLess,by dsimp only;omega,aNx,⟨_,aRow⟩,⟨_,by dsimp only;rw [← imF_set];exact aRow⟩,⟨_,putE E2 y true,aRow,?_⟩,⟨_,by dsimp only;rw [← ints_app];exact aRow⟩,hT3.keep aNx (fun b h1 h2 => aSkip),by simp [hll2],by simp [hfl2],?_,?_,hto⟩
     ·intro z hz
      rw [look_put,HS.f_set (s:=⟨lks,fnds,tds⟩) (by rw [hfl2];exact k1)]
      by_cases hzy:z = y
      ·rw [if_pos hzy,if_pos (by rw [hzy])];rfl
      ·rw [if_neg hzy,if_neg (by omega)];exact hE2 z hz
     ·simp only [List.length_append,List.length_cons,List.length_nil];omega
     ·intro i
      rw [getD_set_eq]
      split
      ·exact hnl
      ·exact hlen2 i
   ·have:j = (g.nd x.toNat).fold.length:=by omega
    subst this
    rw [List.drop_eq_nil_of_le (Nat.le_refl _),heldTo] at hto
    have hnx2:=hnx _ _ hnow (by rw [hfh];exact hto.symm)
    repeat' (first|((with_reducible refine Go.red ?_);conv => whnf)|refine aG ?_|exact aC|with_reducible refine Go.and ?_ ?_|(apply Go.elem;(·exact aElem))|refine aH ?_|((with_reducible refine Go.bool ?_ ?_) <;> intro hc <;> (try simp only [List.length_map,ne_eq,hcs] at hc) <;> try (exfalso;omega)))
    refine ⟨(⟨lks,fnds,tds⟩,k + 1),by dsimp only;omega,aLess,⟨_,_,Wk.refl _ _ _,aNx,⟨_,aRow⟩,⟨_,aRow⟩,⟨_,E2,aRow,hE2⟩,⟨_,aRow⟩,hnx2,by dsimp only;omega,hlen2,?_⟩⟩
    rw [← hrun,hfh,← hto]
    dsimp only
    congr 1
    omega
  ·by_cases h6:(g.nd x.toNat).kind = 6
   ·rcases List.eq_nil_or_concat l with rfl|⟨a,y,rfl⟩
    ·have hnow:heldNow (g.nd x.toNat) [] = none:=by unfold heldNow;rw [if_neg h5,if_pos h6,if_neg (fun h => h.1 rfl)]
     rw [hnow] at hrun
     dsimp only at hrun
     repeat' (first|((with_reducible refine Go.red ?_);conv => whnf)|refine aG ?_|exact aCn|with_reducible refine Go.and ?_ ?_|((with_reducible refine Ask.mk ?_);first|exact aAsk|(exact hlm)|exact aAsk2|(intro h;simp_all [Graph.cells,Node.cells] <;> fail)|(simp_all [Graph.cells,Node.cells] <;> fail))|(apply Go.elem;(·(first|exact nd_at x1 _|exact e1 _|exact e2 _|exact aElem)))|refine aK (hf) ?_|(simp only [h6])|(apply Go.givesG (g:=none);(·exact fun _ => getI _ _))|(apply Go.givesG (g:=none);(·exact fun _ => putI _ _ _))|refine aH ?_|((with_reducible refine Go.bool ?_ ?_) <;> intro hc <;> (try simp only [List.length_map,ne_eq,hcs] at hc) <;> try (exfalso;omega)))
     exact ⟨.inl ⟨x,rfl,hrun.symm⟩⟩
    ·rw [List.concat_eq_append] at *
     have hla:(a ++ [y]).length = a.length + 1:=by simp
     have hml:((a ++ [y]).map i64).length = a.length + 1:=by simp
     have e5:∀ d,((a ++ [y]).map i64).getD (((((a ++ [y]).map i64).length:Nat):Int) - 1).toNat d = i64 y:=fun d => by
      rw [hml,show (((a.length + 1:Nat):Int) - 1).toNat = a.length by omega,List.map_append]
      simp [List.getD]
     by_cases hy6:y = (g.nd x.toNat).thing
     ·subst hy6
      have hnow:heldNow (g.nd x.toNat) (a ++ [(g.nd x.toNat).thing]) = some a:=by unfold heldNow;rw [if_neg h5,if_pos h6,if_pos ⟨by simp,by simp⟩,List.dropLast_concat]
      have hnl:a.length ≤ k + 1:=by omega
      have htk:(((a ++ [(g.nd x.toNat).thing]).map i64).drop 0).take a.length = a.map i64:=by simp
      rw [hnow] at hrun
      dsimp only at hrun
      repeat' (first|((with_reducible refine Go.red ?_);conv => whnf)|refine aG ?_|exact aCn|with_reducible refine Go.and ?_ ?_|((with_reducible refine Ask.mk ?_);first|exact aAsk|(exact hlm)|exact aAsk2|(intro h;simp_all [Graph.cells,Node.cells] <;> fail)|(simp_all [Graph.cells,Node.cells] <;> fail))|(apply Go.elem;(·(first|exact nd_at x1 _|exact e1 _|exact e2 _|exact e5 _|exact aElem)))|refine aK (hf) ?_|(simp only [h6])|(simp only [htk])|(apply Go.givesG (g:=none);(·exact fun _ => getI _ _))|(apply Go.givesG (g:=none);(·exact fun _ => putI _ _ _))|refine aH ?_|((with_reducible refine Go.bool ?_ ?_) <;> intro hc <;> (try simp only [List.length_map,ne_eq,hcs] at hc) <;> try (exfalso;omega)))
      ·exact absurd hc (by simp;omega)
      clear hf
      try simp only [List.length_map]
      refine Go.loop (fun q:HS × Nat => [(1,.pt 0 1 0 0),(4,.sl 6 g.nodes.length),(5,.mp 8),(6,.sl 12 q.1.todo.length),(7,i64 k),(10,.im 1 .any (a.map i64)),(78,.im 1 .any ((g.nd x.toNat).fold.map i64)),(79,i64 (g.nd x.toNat).fold.length),(80,i64 q.2)])
       (fun q H2 n2 => q.2 ≤ (g.nd x.toNat).fold.length∧n + 15 ≤ n2∧(∃ d,getH H2 0 = some (.row 40 4 d [g.av]))∧(∃ d,getH H2 6 = some (.row 89 1 d (q.1.locks.map imF)))∧(∃ d E,getH H2 8 = some (.row 3 0 d (mapA (mapI E)))∧foundE E q.1)∧(∃ d,getH H2 12 = some (.row 3 1 d (q.1.todo.map i64)))∧ToldB (.im 1 .any (a.map i64)) (a) H2 n2∧q.1.locks.length = g.nodes.length∧q.1.found.length = g.nodes.length∧q.1.todo.length + q.1.found.count false = g.nodes.length∧(∀ i,(q.1.locks.getD i []).length ≤ k + 1)∧heldTo (a) ((g.nd x.toNat).fold.drop q.2) q.1 = heldTo (a) (g.nd x.toNat).fold s)
       (fun q => (g.nd x.toNat).fold.length - q.2) (s,0) aLess ⟨Nat.zero_le _,aNx,⟨_,aRow⟩,⟨_,aRow⟩,⟨_,E,aRow,hE⟩,⟨_,aRow⟩,⟨.inl rfl,fun b m h => by cases h⟩,hI.llen,hI.flen,hI.count,fun i => Nat.le_succ_of_le (hlen i),rfl⟩ ?_
      clear r0 r6 r8 r12
      rintro ⟨⟨lks,fnds,tds⟩,j⟩ H2 n2 ⟨hj,hn2,⟨d02,r0⟩,⟨d62,r6⟩,⟨d82,E2,r8,hE2⟩,⟨d122,r12⟩,hT,hll2,hfl2,hct2,hlen2,hto⟩
      dsimp only at hj hn2 r6 hE2 r12 hT hll2 hfl2 hct2 hlen2 hto ⊢
      by_cases hjl:j < (g.nd x.toNat).fold.length
      ·have hm:=mem_fold.1 (getD_mem' 0 hjl)
       obtain ⟨k0,k1⟩:=(hw.2.2 x.toNat x1).2.2 _ hm
       have e3:=fun d => int_at (l:=(g.nd x.toNat).fold) hjl d
       rw [heldTo_drop _ _ _ hjl] at hto
       generalize hy:(g.nd x.toNat).fold.getD j 0 = y at *
       have hl2m:(lks.map imF).length = g.nodes.length:=by simp [hll2]
       have e4:=fun d => imF_at (l:=lks) (i:=y) (by rw [hll2];exact k1) d
       have hE3:=hE2 y k0
       have hyc:((y.toNat:Nat):Int) = y:=by omega
       cases hfd:HS.f ⟨lks,fnds,tds⟩ y with
       | true =>
        rw [if_neg (by rw [hfd];decide)] at hto
        rw [hfd] at hE3
        repeat' (first|((with_reducible refine Go.red ?_);conv => whnf)|refine aG ?_|exact aCn|with_reducible refine Go.and ?_ ?_|((with_reducible refine Ask.mk ?_);first|exact aAsk|(exact hl2m)|exact aAsk2)|(apply Go.elem;(·(first|exact e3 _|exact e4 _|exact aElem)))|(simp only [hE3])|(apply Go.givesG (g:=none);(·exact fun _ => getI _ _))|(apply Go.givesG (g:=none);(·exact fun _ => putI _ _ _))|refine aH ?_|((with_reducible refine Go.bool ?_ ?_) <;> intro hc <;> (try simp only [List.length_map,ne_eq,hcs] at hc) <;> try (exfalso;omega)))
        refine Go.callN (told_eq (l:=a) ?_ (lks.getD y.toNat []) (by omega) (by have:=hlen2 y.toNat;omega)) ?_
        ·exact (hT.keep aNx (fun b h1 h2 => aSkip)).1
        rintro r1 H3 n3 ⟨hr,rfl,rfl⟩
        by_cases hq:lks.getD y.toNat [] = (a)
        ·have hq2:HS.l ⟨lks,fnds,tds⟩ y = (a):=hq
         rw [if_pos hq2] at hto
         have hr1:r1 = bl true:=hr.trans (congrArg _ (decide_eq_true hq))
         subst hr1
         repeat' (first|((with_reducible refine Go.red ?_);conv => whnf)|refine aG ?_|exact aC|with_reducible refine Go.and ?_ ?_|(apply Go.elem;(·exact aElem))|refine aH ?_|((with_reducible refine Go.bool ?_ ?_) <;> intro hc <;> (try simp only [List.length_map,ne_eq,hcs] at hc) <;> try (exfalso;omega)))
         exact ⟨(⟨lks,fnds,tds⟩,j + 1),by dsimp only;omega,aLess,by dsimp only;omega,aNx,⟨_,aRow⟩,⟨_,aRow⟩,⟨_,E2,aRow,hE2⟩,⟨_,aRow⟩,hT.keep aNx (fun b h1 h2 => aSkip),hll2,hfl2,hct2,hlen2,hto⟩
        ·have hq2:¬ HS.l ⟨lks,fnds,tds⟩ y = (a):=hq
         rw [if_neg hq2] at hto
         have hr1:r1 = bl false:=hr.trans (congrArg _ (decide_eq_false hq))
         subst hr1
         repeat' (first|((with_reducible refine Go.red ?_);conv => whnf)|refine aG ?_|exact aC|with_reducible refine Go.and ?_ ?_|(apply Go.elem;(·exact aElem))|refine aH ?_|((with_reducible refine Go.bool ?_ ?_) <;> intro hc <;> (try simp only [List.length_map,ne_eq,hcs] at hc) <;> try (exfalso;omega)))
         exact ⟨.inl ⟨y,rfl,by rw [← hrun,hfh,← hto]⟩⟩
       | false =>
        rw [if_pos hfd] at hto
        rw [hfd] at hE3
        have hcts:=count_set (l:=fnds) (i:=y.toNat) (by rw [hfl2];exact k1) hfd
        repeat' (first|((with_reducible refine Go.red ?_);conv => whnf)|refine aG ?_|exact aCn|with_reducible refine Go.and ?_ ?_|((with_reducible refine Ask.mk ?_);first|exact aAsk|(exact hl2m)|exact aAsk2)|(apply Go.elem;(·(first|exact e3 _|exact e4 _|exact aElem)))|(simp only [hE3])|(apply Go.givesG (g:=none);(·exact fun _ => getI _ _))|(apply Go.givesG (g:=none);(·exact fun _ => putI _ _ _))|refine aH ?_|((with_reducible refine Go.bool ?_ ?_) <;> intro hc <;> (try simp only [List.length_map,ne_eq,hcs] at hc) <;> try (exfalso;omega)))
        refine Go.callN (told_clone (l:=a) ?_ (by omega)) ?_
        ·exact (hT.keep aNx (fun b h1 h2 => aSkip)).1
        rintro _ H3 n3 ⟨rfl,hn3,hkp⟩
        have hb:∀ {p:Prop},p→p:=fun h => h
        have r03:getH H3 0 = some (.row 40 4 d02 [g.av]):=(hkp 0 aNx).trans aRow
        have r63:getH H3 6 = some (.row 89 1 d62 (lks.map imF)):=(hkp 6 aNx).trans aRow
        have r83:getH H3 8 = some (.row 3 0 d82 (mapA (mapI (putE E2 y true)))):=(hkp 8 aNx).trans aRow
        have r123:getH H3 12 = some (.row 3 1 d122 (tds.map i64)):=(hkp 12 aNx).trans aRow
        have hn23:n2 < n3:=Nat.lt_of_lt_of_le aNx hn3
        have hT3:ToldB (.im 1 .any (a.map i64)) (a) H3 n3:=hT.keep (Nat.le_of_lt hn23) (fun b h1 h2 => (hkp b (Nat.lt_of_lt_of_le h2 aNx)).trans aSkip)
        clear hkp hT
        repeat' (first|((with_reducible refine Go.red ?_);conv => whnf)|refine aG ?_|exact aCn|with_reducible refine Go.and ?_ ?_|((with_reducible refine Ask.mk ?_);first|exact aAsk|(exact hl2m)|exact aAsk2)|(apply Go.elem;(·(first|exact e3 _|exact e4 _|exact aElem)))|refine aH ?_|((with_reducible refine Go.bool ?_ ?_) <;> intro hc <;> (try simp only [List.length_map,ne_eq,hcs] at hc) <;> try (exfalso;omega)))
        refine ⟨(⟨lks.set y.toNat (a),fnds.set y.toNat true,tds ++ [y]⟩,j + 1),by dsimp only;omega,aLess,by dsimp only;omega,aNx,⟨_,aRow⟩,⟨_,by dsimp only;rw [← imF_set];exact aRow⟩,⟨_,putE E2 y true,aRow,?_⟩,⟨_,by dsimp only;rw [← ints_app];exact aRow⟩,hT3.keep aNx (fun b h1 h2 => aSkip),by simp [hll2],by simp [hfl2],?_,?_,hto⟩
        ·intro z hz
         rw [look_put,HS.f_set (s:=⟨lks,fnds,tds⟩) (by rw [hfl2];exact k1)]
         by_cases hzy:z = y
         ·rw [if_pos hzy,if_pos (by rw [hzy])];rfl
         ·rw [if_neg hzy,if_neg (by omega)];exact hE2 z hz
        ·simp only [List.length_append,List.length_cons,List.length_nil];omega
        ·intro i
         rw [getD_set_eq]
         split
         ·exact hnl
         ·exact hlen2 i
      ·have:j = (g.nd x.toNat).fold.length:=by omega
       subst this
       rw [List.drop_eq_nil_of_le (Nat.le_refl _),heldTo] at hto
       have hnx2:=hnx _ _ hnow (by rw [hfh];exact hto.symm)
       repeat' (first|((with_reducible refine Go.red ?_);conv => whnf)|refine aG ?_|exact aC|with_reducible refine Go.and ?_ ?_|(apply Go.elem;(·exact aElem))|refine aH ?_|((with_reducible refine Go.bool ?_ ?_) <;> intro hc <;> (try simp only [List.length_map,ne_eq,hcs] at hc) <;> try (exfalso;omega)))
       refine ⟨(⟨lks,fnds,tds⟩,k + 1),by dsimp only;omega,aLess,⟨_,_,Wk.refl _ _ _,aNx,⟨_,aRow⟩,⟨_,aRow⟩,⟨_,E2,aRow,hE2⟩,⟨_,aRow⟩,hnx2,by dsimp only;omega,hlen2,?_⟩⟩
       rw [← hrun,hfh,← hto]
       dsimp only
       congr 1
       omega
     ·have hnow:heldNow (g.nd x.toNat) (a ++ [y]) = none:=by unfold heldNow;rw [if_neg h5,if_pos h6,if_neg (fun h => hy6 (by simpa using h.2))]
      rw [hnow] at hrun
      dsimp only at hrun
      repeat' (first|((with_reducible refine Go.red ?_);conv => whnf)|refine aG ?_|exact aCn|with_reducible refine Go.and ?_ ?_|((with_reducible refine Ask.mk ?_);first|exact aAsk|(exact hlm)|exact aAsk2|(intro h;simp_all [Graph.cells,Node.cells] <;> fail)|(simp_all [Graph.cells,Node.cells] <;> fail))|(apply Go.elem;(·(first|exact nd_at x1 _|exact e1 _|exact e2 _|exact e5 _|exact aElem)))|refine aK (hf) ?_|(simp only [h6])|(apply Go.givesG (g:=none);(·exact fun _ => getI _ _))|(apply Go.givesG (g:=none);(·exact fun _ => putI _ _ _))|refine aH ?_|((with_reducible refine Go.bool ?_ ?_) <;> intro hc <;> (try simp only [List.length_map,ne_eq,hcs] at hc) <;> try (exfalso;omega)))
      all_goals first|exact absurd hc.2 hy6|exact ⟨.inl ⟨x,rfl,hrun.symm⟩⟩
   ·by_cases h9:(g.nd x.toNat).kind = 9∧l ≠ []
    ·have hnow:heldNow (g.nd x.toNat) l = none:=by unfold heldNow;rw [if_neg h5,if_neg h6,if_pos h9.1,if_neg h9.2]
     have hlp:0 < l.length:=List.length_pos_iff.2 h9.2
     have h91:=h9.1
     rw [hnow] at hrun
     dsimp only at hrun
     repeat' (first|((with_reducible refine Go.red ?_);conv => whnf)|refine aG ?_|exact aCn|with_reducible refine Go.and ?_ ?_|((with_reducible refine Ask.mk ?_);first|exact aAsk|(exact hlm)|exact aAsk2|(intro h;simp_all [Graph.cells,Node.cells] <;> fail)|(simp_all [Graph.cells,Node.cells] <;> fail))|(apply Go.elem;(·(first|exact nd_at x1 _|exact e1 _|exact e2 _|exact aElem)))|refine aK (hf) ?_|(simp only [h91])|(apply Go.givesG (g:=none);(·exact fun _ => getI _ _))|(apply Go.givesG (g:=none);(·exact fun _ => putI _ _ _))|refine aH ?_|((with_reducible refine Go.bool ?_ ?_) <;> intro hc <;> (try simp only [List.length_map,ne_eq,hcs] at hc) <;> try (exfalso;omega)))
     exact ⟨.inl ⟨x,rfl,hrun.symm⟩⟩
    ·by_cases h91:(g.nd x.toNat).kind = 9
     ·have hl0:l = []:=Classical.byContradiction fun h => h9 ⟨h91,h⟩
      subst hl0
      have hnow:heldNow (g.nd x.toNat) [] = some []:=by unfold heldNow;rw [if_neg h5,if_neg h6,if_pos h91,if_pos rfl]
      have hnl:([]:List Int).length ≤ k + 1:=Nat.zero_le _
      rw [hnow] at hrun
      dsimp only at hrun
      repeat' (first|((with_reducible refine Go.red ?_);conv => whnf)|refine aG ?_|exact aCn|with_reducible refine Go.and ?_ ?_|((with_reducible refine Ask.mk ?_);first|exact aAsk|(exact hlm)|exact aAsk2|(intro h;simp_all [Graph.cells,Node.cells] <;> fail)|(simp_all [Graph.cells,Node.cells] <;> fail))|(apply Go.elem;(·(first|exact nd_at x1 _|exact e1 _|exact e2 _|exact aElem)))|refine aK (hf) ?_|(simp only [h91])|(apply Go.givesG (g:=none);(·exact fun _ => getI _ _))|(apply Go.givesG (g:=none);(·exact fun _ => putI _ _ _))|refine aH ?_|((with_reducible refine Go.bool ?_ ?_) <;> intro hc <;> (try simp only [List.length_map,ne_eq,hcs] at hc) <;> try (exfalso;omega)))
      clear hf
      try simp only [List.length_map]
      refine Go.loop (fun q:HS × Nat => [(1,.pt 0 1 0 0),(4,.sl 6 g.nodes.length),(5,.mp 8),(6,.sl 12 q.1.todo.length),(7,i64 k),(10,.im 1 .any (([]:List Int).map i64)),(78,.im 1 .any ((g.nd x.toNat).fold.map i64)),(79,i64 (g.nd x.toNat).fold.length),(80,i64 q.2)])
       (fun q H2 n2 => q.2 ≤ (g.nd x.toNat).fold.length∧n + 15 ≤ n2∧(∃ d,getH H2 0 = some (.row 40 4 d [g.av]))∧(∃ d,getH H2 6 = some (.row 89 1 d (q.1.locks.map imF)))∧(∃ d E,getH H2 8 = some (.row 3 0 d (mapA (mapI E)))∧foundE E q.1)∧(∃ d,getH H2 12 = some (.row 3 1 d (q.1.todo.map i64)))∧ToldB (.im 1 .any (([]:List Int).map i64)) ([]) H2 n2∧q.1.locks.length = g.nodes.length∧q.1.found.length = g.nodes.length∧q.1.todo.length + q.1.found.count false = g.nodes.length∧(∀ i,(q.1.locks.getD i []).length ≤ k + 1)∧heldTo ([]) ((g.nd x.toNat).fold.drop q.2) q.1 = heldTo ([]) (g.nd x.toNat).fold s)
       (fun q => (g.nd x.toNat).fold.length - q.2) (s,0) aLess ⟨Nat.zero_le _,aNx,⟨_,aRow⟩,⟨_,aRow⟩,⟨_,E,aRow,hE⟩,⟨_,aRow⟩,⟨.inl rfl,fun b m h => by cases h⟩,hI.llen,hI.flen,hI.count,fun i => Nat.le_succ_of_le (hlen i),rfl⟩ ?_
      clear r0 r6 r8 r12
      rintro ⟨⟨lks,fnds,tds⟩,j⟩ H2 n2 ⟨hj,hn2,⟨d02,r0⟩,⟨d62,r6⟩,⟨d82,E2,r8,hE2⟩,⟨d122,r12⟩,hT,hll2,hfl2,hct2,hlen2,hto⟩
      dsimp only at hj hn2 r6 hE2 r12 hT hll2 hfl2 hct2 hlen2 hto ⊢
      by_cases hjl:j < (g.nd x.toNat).fold.length
      ·have hm:=mem_fold.1 (getD_mem' 0 hjl)
       obtain ⟨k0,k1⟩:=(hw.2.2 x.toNat x1).2.2 _ hm
       have e3:=fun d => int_at (l:=(g.nd x.toNat).fold) hjl d
       rw [heldTo_drop _ _ _ hjl] at hto
       generalize hy:(g.nd x.toNat).fold.getD j 0 = y at *
       have hl2m:(lks.map imF).length = g.nodes.length:=by simp [hll2]
       have e4:=fun d => imF_at (l:=lks) (i:=y) (by rw [hll2];exact k1) d
       have hE3:=hE2 y k0
       have hyc:((y.toNat:Nat):Int) = y:=by omega
       cases hfd:HS.f ⟨lks,fnds,tds⟩ y with
       | true =>
        rw [if_neg (by rw [hfd];decide)] at hto
        rw [hfd] at hE3
        repeat' (first|((with_reducible refine Go.red ?_);conv => whnf)|refine aG ?_|exact aCn|with_reducible refine Go.and ?_ ?_|((with_reducible refine Ask.mk ?_);first|exact aAsk|(exact hl2m)|exact aAsk2)|(apply Go.elem;(·(first|exact e3 _|exact e4 _|exact aElem)))|(simp only [hE3])|(apply Go.givesG (g:=none);(·exact fun _ => getI _ _))|(apply Go.givesG (g:=none);(·exact fun _ => putI _ _ _))|refine aH ?_|((with_reducible refine Go.bool ?_ ?_) <;> intro hc <;> (try simp only [List.length_map,ne_eq,hcs] at hc) <;> try (exfalso;omega)))
        refine Go.callN (told_eq (l:=[]) ?_ (lks.getD y.toNat []) (by omega) (by have:=hlen2 y.toNat;omega)) ?_
        ·exact (hT.keep aNx (fun b h1 h2 => aSkip)).1
        rintro r1 H3 n3 ⟨hr,rfl,rfl⟩
        by_cases hq:lks.getD y.toNat [] = ([])
        ·have hq2:HS.l ⟨lks,fnds,tds⟩ y = ([]):=hq
         rw [if_pos hq2] at hto
         have hr1:r1 = bl true:=hr.trans (congrArg _ (decide_eq_true hq))
         subst hr1
         repeat' (first|((with_reducible refine Go.red ?_);conv => whnf)|refine aG ?_|exact aC|with_reducible refine Go.and ?_ ?_|(apply Go.elem;(·exact aElem))|refine aH ?_|((with_reducible refine Go.bool ?_ ?_) <;> intro hc <;> (try simp only [List.length_map,ne_eq,hcs] at hc) <;> try (exfalso;omega)))
         exact ⟨(⟨lks,fnds,tds⟩,j + 1),by dsimp only;omega,aLess,by dsimp only;omega,aNx,⟨_,aRow⟩,⟨_,aRow⟩,⟨_,E2,aRow,hE2⟩,⟨_,aRow⟩,hT.keep aNx (fun b h1 h2 => aSkip),hll2,hfl2,hct2,hlen2,hto⟩
        ·have hq2:¬ HS.l ⟨lks,fnds,tds⟩ y = ([]):=hq
         rw [if_neg hq2] at hto
         have hr1:r1 = bl false:=hr.trans (congrArg _ (decide_eq_false hq))
         subst hr1
         repeat' (first|((with_reducible refine Go.red ?_);conv => whnf)|refine aG ?_|exact aC|with_reducible refine Go.and ?_ ?_|(apply Go.elem;(·exact aElem))|refine aH ?_|((with_reducible refine Go.bool ?_ ?_) <;> intro hc <;> (try simp only [List.length_map,ne_eq,hcs] at hc) <;> try (exfalso;omega)))
         exact ⟨.inl ⟨y,rfl,by rw [← hrun,hfh,← hto]⟩⟩
       | false =>
        rw [if_pos hfd] at hto
        rw [hfd] at hE3
        have hcts:=count_set (l:=fnds) (i:=y.toNat) (by rw [hfl2];exact k1) hfd
        repeat' (first|((with_reducible refine Go.red ?_);conv => whnf)|refine aG ?_|exact aCn|with_reducible refine Go.and ?_ ?_|((with_reducible refine Ask.mk ?_);first|exact aAsk|(exact hl2m)|exact aAsk2)|(apply Go.elem;(·(first|exact e3 _|exact e4 _|exact aElem)))|(simp only [hE3])|(apply Go.givesG (g:=none);(·exact fun _ => getI _ _))|(apply Go.givesG (g:=none);(·exact fun _ => putI _ _ _))|refine aH ?_|((with_reducible refine Go.bool ?_ ?_) <;> intro hc <;> (try simp only [List.length_map,ne_eq,hcs] at hc) <;> try (exfalso;omega)))
        refine Go.callN (told_clone (l:=[]) ?_ (by omega)) ?_
        ·exact (hT.keep aNx (fun b h1 h2 => aSkip)).1
        rintro _ H3 n3 ⟨rfl,hn3,hkp⟩
        have hb:∀ {p:Prop},p→p:=fun h => h
        have r03:getH H3 0 = some (.row 40 4 d02 [g.av]):=(hkp 0 aNx).trans aRow
        have r63:getH H3 6 = some (.row 89 1 d62 (lks.map imF)):=(hkp 6 aNx).trans aRow
        have r83:getH H3 8 = some (.row 3 0 d82 (mapA (mapI (putE E2 y true)))):=(hkp 8 aNx).trans aRow
        have r123:getH H3 12 = some (.row 3 1 d122 (tds.map i64)):=(hkp 12 aNx).trans aRow
        have hn23:n2 < n3:=Nat.lt_of_lt_of_le aNx hn3
        have hT3:ToldB (.im 1 .any (([]:List Int).map i64)) ([]) H3 n3:=hT.keep (Nat.le_of_lt hn23) (fun b h1 h2 => (hkp b (Nat.lt_of_lt_of_le h2 aNx)).trans aSkip)
        clear hkp hT
        repeat' (first|((with_reducible refine Go.red ?_);conv => whnf)|refine aG ?_|exact aCn|with_reducible refine Go.and ?_ ?_|((with_reducible refine Ask.mk ?_);first|exact aAsk|(exact hl2m)|exact aAsk2)|(apply Go.elem;(·(first|exact e3 _|exact e4 _|exact aElem)))|refine aH ?_|((with_reducible refine Go.bool ?_ ?_) <;> intro hc <;> (try simp only [List.length_map,ne_eq,hcs] at hc) <;> try (exfalso;omega)))
        refine ⟨(⟨lks.set y.toNat ([]),fnds.set y.toNat true,tds ++ [y]⟩,j + 1),by dsimp only;omega,aLess,by dsimp only;omega,aNx,⟨_,aRow⟩,⟨_,by dsimp only;rw [← imF_set];exact aRow⟩,⟨_,putE E2 y true,aRow,?_⟩,⟨_,by dsimp only;rw [← ints_app];exact aRow⟩,hT3.keep aNx (fun b h1 h2 => aSkip),by simp [hll2],by simp [hfl2],?_,?_,hto⟩
        ·intro z hz
         rw [look_put,HS.f_set (s:=⟨lks,fnds,tds⟩) (by rw [hfl2];exact k1)]
         by_cases hzy:z = y
         ·rw [if_pos hzy,if_pos (by rw [hzy])];rfl
         ·rw [if_neg hzy,if_neg (by omega)];exact hE2 z hz
        ·simp only [List.length_append,List.length_cons,List.length_nil];omega
        ·intro i
         rw [getD_set_eq]
         split
         ·exact hnl
         ·exact hlen2 i
      ·have:j = (g.nd x.toNat).fold.length:=by omega
       subst this
       rw [List.drop_eq_nil_of_le (Nat.le_refl _),heldTo] at hto
       have hnx2:=hnx _ _ hnow (by rw [hfh];exact hto.symm)
       repeat' (first|((with_reducible refine Go.red ?_);conv => whnf)|refine aG ?_|exact aC|with_reducible refine Go.and ?_ ?_|(apply Go.elem;(·exact aElem))|refine aH ?_|((with_reducible refine Go.bool ?_ ?_) <;> intro hc <;> (try simp only [List.length_map,ne_eq,hcs] at hc) <;> try (exfalso;omega)))
       refine ⟨(⟨lks,fnds,tds⟩,k + 1),by dsimp only;omega,aLess,⟨_,_,Wk.refl _ _ _,aNx,⟨_,aRow⟩,⟨_,aRow⟩,⟨_,E2,aRow,hE2⟩,⟨_,aRow⟩,hnx2,by dsimp only;omega,hlen2,?_⟩⟩
       rw [← hrun,hfh,← hto]
       dsimp only
       congr 1
       omega
     ·have hnow:heldNow (g.nd x.toNat) l = some l:=by unfold heldNow;rw [if_neg h5,if_neg h6,if_neg h91]
      have hnl:l.length ≤ k + 1:=by omega
      rw [hnow] at hrun
      dsimp only at hrun
      repeat' (first|((with_reducible refine Go.red ?_);conv => whnf)|refine aG ?_|exact aCn|with_reducible refine Go.and ?_ ?_|((with_reducible refine Ask.mk ?_);first|exact aAsk|(exact hlm)|exact aAsk2|(intro h;simp_all [Graph.cells,Node.cells] <;> fail)|(simp_all [Graph.cells,Node.cells] <;> fail))|(apply Go.elem;(·(first|exact nd_at x1 _|exact e1 _|exact e2 _|exact aElem)))|refine aK (hf) ?_|(simp only [h5])|(simp only [h6])|(simp only [h91])|(apply Go.givesG (g:=none);(·exact fun _ => getI _ _))|(apply Go.givesG (g:=none);(·exact fun _ => putI _ _ _))|refine aH ?_|((with_reducible refine Go.bool ?_ ?_) <;> intro hc <;> (try simp only [List.length_map,ne_eq,hcs] at hc) <;> try (exfalso;omega)))
      clear hf
      try simp only [List.length_map]
      refine Go.loop (fun q:HS × Nat => [(1,.pt 0 1 0 0),(4,.sl 6 g.nodes.length),(5,.mp 8),(6,.sl 12 q.1.todo.length),(7,i64 k),(10,.im 1 .any (l.map i64)),(78,.im 1 .any ((g.nd x.toNat).fold.map i64)),(79,i64 (g.nd x.toNat).fold.length),(80,i64 q.2)])
       (fun q H2 n2 => q.2 ≤ (g.nd x.toNat).fold.length∧n + 15 ≤ n2∧(∃ d,getH H2 0 = some (.row 40 4 d [g.av]))∧(∃ d,getH H2 6 = some (.row 89 1 d (q.1.locks.map imF)))∧(∃ d E,getH H2 8 = some (.row 3 0 d (mapA (mapI E)))∧foundE E q.1)∧(∃ d,getH H2 12 = some (.row 3 1 d (q.1.todo.map i64)))∧ToldB (.im 1 .any (l.map i64)) (l) H2 n2∧q.1.locks.length = g.nodes.length∧q.1.found.length = g.nodes.length∧q.1.todo.length + q.1.found.count false = g.nodes.length∧(∀ i,(q.1.locks.getD i []).length ≤ k + 1)∧heldTo (l) ((g.nd x.toNat).fold.drop q.2) q.1 = heldTo (l) (g.nd x.toNat).fold s)
       (fun q => (g.nd x.toNat).fold.length - q.2) (s,0) aLess ⟨Nat.zero_le _,aNx,⟨_,aRow⟩,⟨_,aRow⟩,⟨_,E,aRow,hE⟩,⟨_,aRow⟩,⟨.inl rfl,fun b m h => by cases h⟩,hI.llen,hI.flen,hI.count,fun i => Nat.le_succ_of_le (hlen i),rfl⟩ ?_
      clear r0 r6 r8 r12
      rintro ⟨⟨lks,fnds,tds⟩,j⟩ H2 n2 ⟨hj,hn2,⟨d02,r0⟩,⟨d62,r6⟩,⟨d82,E2,r8,hE2⟩,⟨d122,r12⟩,hT,hll2,hfl2,hct2,hlen2,hto⟩
      dsimp only at hj hn2 r6 hE2 r12 hT hll2 hfl2 hct2 hlen2 hto ⊢
      by_cases hjl:j < (g.nd x.toNat).fold.length
      ·have hm:=mem_fold.1 (getD_mem' 0 hjl)
       obtain ⟨k0,k1⟩:=(hw.2.2 x.toNat x1).2.2 _ hm
       have e3:=fun d => int_at (l:=(g.nd x.toNat).fold) hjl d
       rw [heldTo_drop _ _ _ hjl] at hto
       generalize hy:(g.nd x.toNat).fold.getD j 0 = y at *
       have hl2m:(lks.map imF).length = g.nodes.length:=by simp [hll2]
       have e4:=fun d => imF_at (l:=lks) (i:=y) (by rw [hll2];exact k1) d
       have hE3:=hE2 y k0
       have hyc:((y.toNat:Nat):Int) = y:=by omega
       cases hfd:HS.f ⟨lks,fnds,tds⟩ y with
       | true =>
        rw [if_neg (by rw [hfd];decide)] at hto
        rw [hfd] at hE3
        repeat' (first|((with_reducible refine Go.red ?_);conv => whnf)|refine aG ?_|exact aCn|with_reducible refine Go.and ?_ ?_|((with_reducible refine Ask.mk ?_);first|exact aAsk|(exact hl2m)|exact aAsk2)|(apply Go.elem;(·(first|exact e3 _|exact e4 _|exact aElem)))|(simp only [hE3])|(apply Go.givesG (g:=none);(·exact fun _ => getI _ _))|(apply Go.givesG (g:=none);(·exact fun _ => putI _ _ _))|refine aH ?_|((with_reducible refine Go.bool ?_ ?_) <;> intro hc <;> (try simp only [List.length_map,ne_eq,hcs] at hc) <;> try (exfalso;omega)))
        refine Go.callN (told_eq (l:=l) ?_ (lks.getD y.toNat []) (by omega) (by have:=hlen2 y.toNat;omega)) ?_
        ·exact (hT.keep aNx (fun b h1 h2 => aSkip)).1
        rintro r1 H3 n3 ⟨hr,rfl,rfl⟩
        by_cases hq:lks.getD y.toNat [] = (l)
        ·have hq2:HS.l ⟨lks,fnds,tds⟩ y = (l):=hq
         rw [if_pos hq2] at hto
         have hr1:r1 = bl true:=hr.trans (congrArg _ (decide_eq_true hq))
         subst hr1
         repeat' (first|((with_reducible refine Go.red ?_);conv => whnf)|refine aG ?_|exact aC|with_reducible refine Go.and ?_ ?_|(apply Go.elem;(·exact aElem))|refine aH ?_|((with_reducible refine Go.bool ?_ ?_) <;> intro hc <;> (try simp only [List.length_map,ne_eq,hcs] at hc) <;> try (exfalso;omega)))
         exact ⟨(⟨lks,fnds,tds⟩,j + 1),by dsimp only;omega,aLess,by dsimp only;omega,aNx,⟨_,aRow⟩,⟨_,aRow⟩,⟨_,E2,aRow,hE2⟩,⟨_,aRow⟩,hT.keep aNx (fun b h1 h2 => aSkip),hll2,hfl2,hct2,hlen2,hto⟩
        ·have hq2:¬ HS.l ⟨lks,fnds,tds⟩ y = (l):=hq
         rw [if_neg hq2] at hto
         have hr1:r1 = bl false:=hr.trans (congrArg _ (decide_eq_false hq))
         subst hr1
         repeat' (first|((with_reducible refine Go.red ?_);conv => whnf)|refine aG ?_|exact aC|with_reducible refine Go.and ?_ ?_|(apply Go.elem;(·exact aElem))|refine aH ?_|((with_reducible refine Go.bool ?_ ?_) <;> intro hc <;> (try simp only [List.length_map,ne_eq,hcs] at hc) <;> try (exfalso;omega)))
         exact ⟨.inl ⟨y,rfl,by rw [← hrun,hfh,← hto]⟩⟩
       | false =>
        rw [if_pos hfd] at hto
        rw [hfd] at hE3
        have hcts:=count_set (l:=fnds) (i:=y.toNat) (by rw [hfl2];exact k1) hfd
        repeat' (first|((with_reducible refine Go.red ?_);conv => whnf)|refine aG ?_|exact aCn|with_reducible refine Go.and ?_ ?_|((with_reducible refine Ask.mk ?_);first|exact aAsk|(exact hl2m)|exact aAsk2)|(apply Go.elem;(·(first|exact e3 _|exact e4 _|exact aElem)))|(simp only [hE3])|(apply Go.givesG (g:=none);(·exact fun _ => getI _ _))|(apply Go.givesG (g:=none);(·exact fun _ => putI _ _ _))|refine aH ?_|((with_reducible refine Go.bool ?_ ?_) <;> intro hc <;> (try simp only [List.length_map,ne_eq,hcs] at hc) <;> try (exfalso;omega)))
        refine Go.callN (told_clone (l:=l) ?_ (by omega)) ?_
        ·exact (hT.keep aNx (fun b h1 h2 => aSkip)).1
        rintro _ H3 n3 ⟨rfl,hn3,hkp⟩
        have hb:∀ {p:Prop},p→p:=fun h => h
        have r03:getH H3 0 = some (.row 40 4 d02 [g.av]):=(hkp 0 aNx).trans aRow
        have r63:getH H3 6 = some (.row 89 1 d62 (lks.map imF)):=(hkp 6 aNx).trans aRow
        have r83:getH H3 8 = some (.row 3 0 d82 (mapA (mapI (putE E2 y true)))):=(hkp 8 aNx).trans aRow
        have r123:getH H3 12 = some (.row 3 1 d122 (tds.map i64)):=(hkp 12 aNx).trans aRow
        have hn23:n2 < n3:=Nat.lt_of_lt_of_le aNx hn3
        have hT3:ToldB (.im 1 .any (l.map i64)) (l) H3 n3:=hT.keep (Nat.le_of_lt hn23) (fun b h1 h2 => (hkp b (Nat.lt_of_lt_of_le h2 aNx)).trans aSkip)
        clear hkp hT
        repeat' (first|((with_reducible refine Go.red ?_);conv => whnf)|refine aG ?_|exact aCn|with_reducible refine Go.and ?_ ?_|((with_reducible refine Ask.mk ?_);first|exact aAsk|(exact hl2m)|exact aAsk2)|(apply Go.elem;(·(first|exact e3 _|exact e4 _|exact aElem)))|refine aH ?_|((with_reducible refine Go.bool ?_ ?_) <;> intro hc <;> (try simp only [List.length_map,ne_eq,hcs] at hc) <;> try (exfalso;omega)))
        refine ⟨(⟨lks.set y.toNat (l),fnds.set y.toNat true,tds ++ [y]⟩,j + 1),by dsimp only;omega,aLess,by dsimp only;omega,aNx,⟨_,aRow⟩,⟨_,by dsimp only;rw [← imF_set];exact aRow⟩,⟨_,putE E2 y true,aRow,?_⟩,⟨_,by dsimp only;rw [← ints_app];exact aRow⟩,hT3.keep aNx (fun b h1 h2 => aSkip),by simp [hll2],by simp [hfl2],?_,?_,hto⟩
        ·intro z hz
         rw [look_put,HS.f_set (s:=⟨lks,fnds,tds⟩) (by rw [hfl2];exact k1)]
         by_cases hzy:z = y
         ·rw [if_pos hzy,if_pos (by rw [hzy])];rfl
         ·rw [if_neg hzy,if_neg (by omega)];exact hE2 z hz
        ·simp only [List.length_append,List.length_cons,List.length_nil];omega
        ·intro i
         rw [getD_set_eq]
         split
         ·exact hnl
         ·exact hlen2 i
      ·have:j = (g.nd x.toNat).fold.length:=by omega
       subst this
       rw [List.drop_eq_nil_of_le (Nat.le_refl _),heldTo] at hto
       have hnx2:=hnx _ _ hnow (by rw [hfh];exact hto.symm)
       repeat' (first|((with_reducible refine Go.red ?_);conv => whnf)|refine aG ?_|exact aC|with_reducible refine Go.and ?_ ?_|(apply Go.elem;(·exact aElem))|refine aH ?_|((with_reducible refine Go.bool ?_ ?_) <;> intro hc <;> (try simp only [List.length_map,ne_eq,hcs] at hc) <;> try (exfalso;omega)))
       refine ⟨(⟨lks,fnds,tds⟩,k + 1),by dsimp only;omega,aLess,⟨_,_,Wk.refl _ _ _,aNx,⟨_,aRow⟩,⟨_,aRow⟩,⟨_,E2,aRow,hE2⟩,⟨_,aRow⟩,hnx2,by dsimp only;omega,hlen2,?_⟩⟩
       rw [← hrun,hfh,← hto]
       dsimp only
       congr 1
       omega
 ·have hkt:s.todo.length ≤ k:=by omega
  have hrun2:heldG g = (s.locks,-1):=by
   rw [← hrun,show g.nodes.length + 1 - k = (g.nodes.length - k) + 1 by omega,heldRun,if_neg hk]
  repeat' (first|((with_reducible refine Go.red ?_);conv => whnf)|refine aG ?_|exact aC|with_reducible refine Go.and ?_ ?_|(apply Go.elem;(·exact aElem))|refine aH ?_|((with_reducible refine Go.bool ?_ ?_) <;> intro hc <;> (try simp only [List.length_map,ne_eq,hcs] at hc) <;> try (exfalso;omega)))
  exact ⟨.inr ⟨6,d6,s.locks,by rw [hI.llen],hrun2,aRow⟩⟩
theorem held_pure (g:Graph) (hg:g.Wf) (hw:Whole g):Pure Tryz.prog 53 [g.av] (fun r => r = heldAv (heldG g)):=by
 have h:=held_call g hg hw
 have fL:∀ L:List (List Int),fitL 0 (L.map imF):=fun L => (fitL_map _ _).2 fun _ _ => by simp [imF,fitA,fitL_map]
 have fh:∀ r,fitA 0 (heldAv r):=fun r => by simp only [heldAv,fitA,fitL];exact ⟨fL _,trivial,trivial⟩
 by_cases hc:(heldG g).1 = []
 ·refine pure_le (u:=.tup [.sc (.slice none 0 0),i64 (heldG g).2]) (pure_or (h.mono ?_) (by simp [fitA,fitL]) (fh _)) (fh _) fun c => ?_
  ·rintro r H n (⟨a,rfl,e⟩|⟨b,d,L,rfl,e,hb⟩)
   ·left;rw [e];exact frz_fit _ (by simp [fitA,fitL])
   ·right
    rw [e]
    have e1:Abs.frz H 6 (.tup [.sl b L.length,i64 (-1)]) = .tup [Abs.frz H 5 (.sl b L.length),i64 (-1)]:=by
     simp only [frz,List.map_cons,List.map_nil]
    rw [e1,frz_sl hb (by simp),frz_same _ (fL L)]
    rfl
  ·unfold heldAv
   rw [hc]
   intro v hv
   rw [VR] at hv ⊢
   obtain ⟨vs,rfl,hv⟩:=hv
   refine ⟨vs,rfl,?_⟩
   rw [VRs] at hv ⊢
   obtain ⟨v1,vs1,e1,h1,h2⟩:=hv
   exact ⟨v1,vs1,e1,Abs.AVle.nilIm c c 1 .any _ h1,h2⟩
 ·refine pure_of_call (h.mono ?_) (fh _)
  rintro r H n (⟨a,rfl,e⟩|⟨b,d,L,rfl,e,hb⟩)
  ·rw [e] at hc;exact absurd rfl hc
  ·rw [e]
   have e1:Abs.frz H 6 (.tup [.sl b L.length,i64 (-1)]) = .tup [Abs.frz H 5 (.sl b L.length),i64 (-1)]:=by
    simp only [frz,List.map_cons,List.map_nil]
   rw [e1,frz_sl hb (by simp),frz_same _ (fL L)]
   rfl
end Go.Proofs.YtmonponfppdgfaaGreatDoor
end
