import Derived.Test.YtmonponfppdgfaaGreatDoorM36
import Derived.Test.YtmonponfppdgfaaGreatDoorM34
section
/- Idle: the walk. -/
namespace Go.Proofs.YtmonponfppdgfaaGreatDoor
open Go Go.Abs Go.Proofs
set_option linter.unusedSimpArgs false
set_option linter.unusedVariables false
noncomputable def listAv (u:UnitS) (t:Int) (l:List Bool):AV:=if rightB u = true then (if t < 0 ∨ (u.graphs.length:Int) ≤ t then .tup [.im 1 .any [],i64 2] else .tup [imB l,i64 0]) else .tup [.im 1 .any [],i64 60]
theorem classesU_len (u:UnitS):(classesU u).length = u.shared.length:=by simp [classesU]
theorem Idle_pure (u:UnitS) (hu:u.Wf) (t:Int):Pure Tryz.prog 7 [u.av,i64 t] (fun r => r = listAv u t (idleL (u.gr t.toNat) (classesU u) t.toNat)):=by
 unfold listAv
 by_cases hr:RightU u
 ·rw [if_pos (rightB_iff.2 hr)]
  by_cases ht:t < 0 ∨ (u.graphs.length:Int) ≤ t
  ·rw [if_pos ht]
   have ha:=asked_range u hu hr t ht
   refine nil_tab ?_
   refine Go.pureL lf7 rfl ?_
   repeat' (first|((with_reducible refine Go.red ?_);conv => whnf)|refine aG ?_|exact aCn|with_reducible refine Go.and ?_ ?_|((with_reducible refine Ask.mk ?_);first|exact aAsk|exact aAsk2|(intro h;simp_all [UnitS.cells] <;> fail)|(simp_all [UnitS.cells] <;> fail))|(apply Go.elem;(·exact aElem))|refine aK (ha) ?_|refine aH ?_|((with_reducible refine Go.bool ?_ ?_) <;> intro hc <;> (try simp only [List.length_map,ne_eq,hcs] at hc) <;> try (exfalso;omega)))
   exact rfl
  ·rw [if_neg ht]
   obtain ⟨k,rfl⟩:∃ k:Nat,t = k:=⟨t.toNat,by omega⟩
   rw [Int.toNat_natCast]
   have hk:k < u.graphs.length:=by omega
   have ha:=asked_ok u hu hr k hk
   have hgo:=hr.gr hk
   have hfew:=hr.few
   have hcl:=classesU_len u
   refine pure_of_call ?_ (by rw [fitA,fitL,fitL,fitL];exact ⟨by simp [imB,fitA,fitL_map],by simp [fitA],trivial⟩)
   refine Go.fnL lf7 rfl ?_
   repeat' (first|((with_reducible refine Go.red ?_);conv => whnf)|refine aG ?_|exact aCn|with_reducible refine Go.and ?_ ?_|((with_reducible refine Ask.mk ?_);first|exact aAsk|exact aAsk2|(intro h;simp_all [UnitS.cells] <;> fail)|(simp_all [UnitS.cells] <;> fail))|(apply Go.elem;(·exact aElem))|refine aK (ha) ?_|refine aH ?_|((with_reducible refine Go.bool ?_ ?_) <;> intro hc <;> (try simp only [List.length_map,ne_eq,hcs] at hc) <;> try (exfalso;omega)))
   refine Go.callN (idle_call u (u.gr k) (hu.graphs _ (getD_mem' default hk)) hgo k (classesU u) hcl (by omega) _ _) ?_
   rintro _ H2 n2 ⟨b,d,rfl,hb1,hb2,hb,_⟩
   repeat' (first|((with_reducible refine Go.red ?_);conv => whnf)|refine aG ?_|exact aC|with_reducible refine Go.and ?_ ?_|(apply Go.elem;(·exact aElem))|refine aH ?_|((with_reducible refine Go.bool ?_ ?_) <;> intro hc <;> (try simp only [List.length_map,ne_eq,hcs] at hc) <;> try (exfalso;omega)))
   refine ⟨frz_tup2.trans ?_⟩
   rw [frz_sc 5 (by simp [fitA])]
   refine congrArg (fun z => AV.tup [z,i64 0]) ((frz_sl (e:=4) (sz:=1) (d:=d) (es:=(idleL (u.gr k) (classesU u) k).map bl) aRow (by rw [List.length_map,idleL_len])).trans ?_)
   rw [frz_same _ (fit_bools _ _)]
   rfl
 ·rw [if_neg (mt rightB_iff.1 hr)]
  have ha:=asked_bad u hu hr t
  refine nil_tab ?_
  refine Go.pureL lf7 rfl ?_
  repeat' (first|((with_reducible refine Go.red ?_);conv => whnf)|refine aG ?_|exact aCn|with_reducible refine Go.and ?_ ?_|((with_reducible refine Ask.mk ?_);first|exact aAsk|exact aAsk2|(intro h;simp_all [UnitS.cells] <;> fail)|(simp_all [UnitS.cells] <;> fail))|(apply Go.elem;(·exact aElem))|refine aK (ha) ?_|refine aH ?_|((with_reducible refine Go.bool ?_ ?_) <;> intro hc <;> (try simp only [List.length_map,ne_eq,hcs] at hc) <;> try (exfalso;omega)))
  exact rfl
abbrev mapN (E:List (Int × Int)):List AV:=mapE (fun n:Int => Value.int .i64 n) i64 E
theorem getN (E:List (Int × Int)) (t:Int):mget false (.int .i64 t) (mapN E) (i64 0) = some (i64 ((lookE E t).getD 0),(lookE E t).isSome):=(mget_E keyInt i64 t E (i64 0)).trans (by cases lookE E t <;> rfl)
theorem putN (E:List (Int × Int)) (t v:Int):mput false (.int .i64 t) (mapN E) (i64 v) = some (mapN (putE E t v)):=mput_E keyInt i64 t v E
theorem delI (E:List (Int × Bool)) (t:Int):mdel false (.int .i64 t) (mapI E) = some (mapI (delE E t)):=mdel_E keyInt bl t E
structure HOpen (out:List Bool) (g:Graph) (E:List (Int × Bool)) (F:List (Int × Int)):Prop where
 nodup:(E.map Prod.fst).Nodup
 keys:∀ k ∈ E.map Prod.fst,0 ≤ k∧k < out.length
 yes:∀ k,lookE E k ≠ some false
 is:∀ (i:Nat),i < out.length→lookE E i = none→lookE F i = some (heir out g i:Int)
 no:∀ (i:Nat),i < out.length→lookE E i ≠ none→lookE F i = none
 far:∀ k,lookE F k ≠ none→0 ≤ k∧k < out.length
theorem putE_new {κ β:Type} [DecidableEq κ]:∀ (E:List (κ × β)) (k:κ) (v:β),k ∉ E.map Prod.fst→putE E k v = E ++ [(k,v)]
 | [],k,v,_ => rfl
 | (a,b) :: E,k,v,h => by
  simp only [List.map_cons,List.mem_cons,not_or] at h
  rw [putE,if_neg h.1,putE_new E k v h.2];rfl
def openTo (i:Nat):List (Int × Bool):=(List.range i).map fun (j:Nat) => ((j:Int),true)
theorem openTo_keys (i:Nat):(openTo i).map Prod.fst = (List.range i).map fun (j:Nat) => (j:Int):=by simp [openTo,Function.comp_def]
theorem openTo_mem (i:Nat) (k:Int):k ∈ (openTo i).map Prod.fst ↔ 0 ≤ k∧k < i:=by
 rw [openTo_keys,List.mem_map]
 constructor
 ·rintro ⟨j,hj,rfl⟩;have:=List.mem_range.1 hj;omega
 ·intro h;exact ⟨k.toNat,List.mem_range.2 (by omega),by omega⟩
theorem openTo_next (i:Nat):putE (openTo i) (i:Int) true = openTo (i + 1):=by
 rw [putE_new _ _ _ (fun h => by have:=(openTo_mem i i).1 h;omega),openTo,openTo,List.range_succ,List.map_append];rfl
theorem look_mem {κ β:Type} [DecidableEq κ]:∀ {E:List (κ × β)} {k:κ} {v:β},lookE E k = some v→(k,v) ∈ E
 | (a,b) :: E,k,v,h => by
  rw [lookE] at h
  split at h
  ·rename_i e;cases h;rw [e];simp
  ·exact List.mem_cons_of_mem _ (look_mem h)
theorem HOpen.start (out:List Bool) (g:Graph):HOpen out g (openTo out.length) []:=by
 refine ⟨?_,fun k hk => (openTo_mem _ _).1 hk,fun k h => ?_,fun i hi h => ?_,fun i hi h => rfl,fun k h => absurd rfl h⟩
 ·rw [openTo_keys]
  exact List.pairwise_map.2 ((List.pairwise_lt_range (n:=out.length)).imp fun h e => by omega)
 ·have:=look_mem h
  unfold openTo at this
  simp at this
 ·exact absurd ((openTo_mem _ _).2 ⟨by omega,by omega⟩) ((look_none _ _).1 h)
theorem HOpen.settle {out:List Bool} {g:Graph} {E:List (Int × Bool)} {F:List (Int × Int)} (h:HOpen out g E F) {i:Nat} (hi:i < out.length) (ho:lookE E (i:Int) ≠ none):HOpen out g (delE E (i:Int)) (putE F (i:Int) (heir out g i:Int))∧(delE E (i:Int)).length + 1 = E.length:=by
 have hd:=keys_del E (i:Int) h.nodup
 refine ⟨⟨hd.2,fun k hk => h.keys k ((hd.1 k).1 hk).2,fun k hk => ?_,fun j hj hl => ?_,fun j hj hl => ?_,fun k hk => ?_⟩,?_⟩
 ·rw [look_del _ _ _ h.nodup] at hk
  split at hk
  ·cases hk
  ·exact h.yes k hk
 ·rw [look_put]
  by_cases e:(j:Int) = (i:Int)
  ·rw [if_pos e,show j = i by omega]
  ·rw [if_neg e]
   rw [look_del _ _ _ h.nodup,if_neg e] at hl
   exact h.is j hj hl
 ·rw [look_del _ _ _ h.nodup] at hl
  by_cases e:(j:Int) = (i:Int)
  ·rw [if_pos e] at hl;exact absurd rfl hl
  ·rw [if_neg e] at hl
   rw [look_put,if_neg e]
   exact h.no j hj hl
 ·rw [look_put] at hk
  split at hk
  ·rename_i e;rw [e];omega
  ·exact h.far k hk
 ·have:=len_del E (i:Int)
  cases hl:lookE E (i:Int) with
  | none => exact absurd hl ho
  | some v => rw [hl] at this;simpa using this
theorem HOpen.turns {out:List Bool} {g:Graph} {E:List (Int × Bool)} {F:List (Int × Int)} (h:HOpen out g E F) (he:Ends out g) (hne:E ≠ []):¬ ∀ (j:Nat),j < out.length→lookE E (j:Int) ≠ none→tf out j = true∧lookE E (nxt g j:Int) ≠ none:=by
 intro hall
 obtain ⟨p,hp⟩:=List.exists_mem_of_ne_nil _ hne
 have hpk:p.1 ∈ E.map Prod.fst:=List.mem_map_of_mem hp
 have hk:=h.keys _ hpk
 obtain ⟨i,hi⟩:∃ i:Nat,p.1 = i:=⟨p.1.toNat,by omega⟩
 obtain ⟨k,h1,h2,h3⟩:=he i
 have hop:∀ q,q ≤ k→lookE E (iter g i q:Int) ≠ none∧iter g i q < out.length:=by
  intro q
  induction q with
  | zero =>
   intro _
   refine ⟨?_,?_⟩
   ·show lookE E (i:Int) ≠ none
    rw [← hi];exact fun e => (look_none _ _).1 e hpk
   ·show i < out.length
    omega
  | succ q ih =>
   intro hq
   obtain ⟨a1,a2⟩:=ih (by omega)
   have hx:lookE E (iter g i (q + 1):Int) ≠ none:=(hall _ a2 a1).2
   refine ⟨hx,?_⟩
   have:(iter g i (q + 1):Int) ∈ E.map Prod.fst:=Classical.byContradiction fun e => hx ((look_none _ _).2 e)
   have:=h.keys _ this
   omega
 have:=(hall _ (hop k (Nat.le_refl _)).2 (hop k (Nat.le_refl _)).1).1
 rw [h2] at this;cases this
set_option maxRecDepth 4000 in
set_option maxHeartbeats 8000000 in
theorem heirs_call (g:Graph) (hg:g.Wf) (t:Nat) (cls:List ClassV) (out:List Bool) (hm:out.length = g.nodes.length) (hm4:out.length ≤ 4096) (he:Ends out g) (hnx:∀ j,tf out j = true→0 ≤ (g.nd j).next∧(g.nd j).next < out.length) (b:Nat) (H:Hp) (nx:Nat) (d:AV) (hb:getH H b = some (.row 4 1 d (out.map bl))) (hbn:b < nx) :
 CallN Tryz.prog 54 [lookX g t cls,.sl b out.length] H nx (fun r H2 n2 => ∃ mm d2 em F,r = .mp mm∧nx ≤ mm∧mm < n2∧getH H2 mm = some (.row em 0 d2 (mapA (mapN F)))∧(∀ i:Nat,i < out.length→lookE F (i:Int) = some (heir out g i:Int))∧∀ y,y < nx→getH H2 y = getH H y):=by
 refine Go.fnL lf54 rfl ?_
 have hml:(out.map bl).length = out.length:=by simp
 have hnl:(g.nodes.map Node.av).length = out.length:=by rw [List.length_map,hm]
 repeat' (first|((with_reducible refine Go.red ?_);conv => whnf)|refine aG ?_|exact aCn|with_reducible refine Go.and ?_ ?_|((with_reducible refine Ask.mk ?_);first|exact aAsk|(exact hml)|exact aAsk2)|(apply Go.elem;(·exact aElem))|refine aH ?_|((with_reducible refine Go.bool ?_ ?_) <;> intro hc <;> (try simp only [List.length_map,ne_eq,hcs] at hc) <;> try (exfalso;omega)))
 refine Go.loop (fun i:Nat => [(0,lookX g t cls),(1,.sl b out.length),(5,.mp (nx + 1)),(13,i64 out.length),(14,i64 i)])
  (fun i H' n' => i ≤ out.length∧nx + 6 ≤ n'∧(∃ d,getH H' b = some (.row 4 1 d (out.map bl)))∧(∃ d,getH H' (nx + 1) = some (.row 3 0 d (mapA (mapI (openTo i)))))∧∀ y,y < nx→getH H' y = getH H y) (fun i => out.length - i) 0 aLess ⟨Nat.zero_le _,aNx,⟨_,aRow⟩,⟨_,aRow⟩,fun y hy => aSkip⟩ ?_
 clear hb
 rintro i H1 n1 ⟨hi,hn1,⟨db,rb⟩,⟨d1,r1⟩,hk1⟩
 by_cases hil:i < out.length
 ·have hnxt:=openTo_next i
  repeat' (first|((with_reducible refine Go.red ?_);conv => whnf)|refine aG ?_|exact aCn|with_reducible refine Go.and ?_ ?_|((with_reducible refine Ask.mk ?_);first|exact aAsk|(exact hml)|exact aAsk2)|(apply Go.elem;(·exact aElem))|(apply Go.givesG (g:=none);(·exact fun _ => putI _ _ _))|refine aH ?_|((with_reducible refine Go.bool ?_ ?_) <;> intro hc <;> (try simp only [List.length_map,ne_eq,hcs] at hc) <;> try (exfalso;omega)))
  exact ⟨i + 1,by omega,aLess,by omega,by omega,⟨_,aRow⟩,⟨_,by rw [← hnxt];exact aRow⟩,fun y hy => Eq.trans aSkip (hk1 y hy)⟩
 ·have:i = out.length:=by omega
  subst this
  repeat' (first|((with_reducible refine Go.red ?_);conv => whnf)|refine aG ?_|exact aC|with_reducible refine Go.and ?_ ?_|(apply Go.elem;(·exact aElem))|refine aH ?_|((with_reducible refine Go.bool ?_ ?_) <;> intro hc <;> (try simp only [List.length_map,ne_eq,hcs] at hc) <;> try (exfalso;omega)))
  refine Go.loop (fun s:List (Int × Bool) × List (Int × Int) => [(0,lookX g t cls),(1,.sl b out.length),(5,.mp (nx + 1)),(7,.mp (n1 + 1))])
   (fun s H' n' => n1 + 3 ≤ n'∧(∃ d,getH H' b = some (.row 4 1 d (out.map bl)))∧(∃ d,getH H' (nx + 1) = some (.row 3 0 d (mapA (mapI s.1))))∧(∃ d,getH H' (n1 + 1) = some (.row 3 0 d (mapA (mapN s.2))))∧HOpen out g s.1 s.2∧∀ y,y < nx→getH H' y = getH H y) (fun s => s.1.length) (openTo out.length,[]) aLess ⟨aNx,⟨_,aRow⟩,⟨_,aRow⟩,⟨_,aRow⟩,HOpen.start out g,fun y hy => Eq.trans aSkip (hk1 y hy)⟩ ?_
  clear rb r1 hk1
  rintro ⟨E,F⟩ H2 n2 ⟨hn2,⟨db,rb⟩,⟨d1,r1⟩,⟨d2,r2⟩,hop,hk2⟩
  dsimp only at r1 r2 hop ⊢
  have hEl:(mapI E).length = E.length:=by simp [mapE]
  by_cases hE:E = []
  ·subst hE
   repeat' (first|((with_reducible refine Go.red ?_);conv => whnf)|refine aG ?_|exact aC|with_reducible refine Go.and ?_ ?_|(apply Go.elem;(·exact aElem))|refine aH ?_|((with_reducible refine Go.bool ?_ ?_) <;> intro hc <;> (try simp only [List.length_map,ne_eq,hcs] at hc) <;> try (exfalso;omega)))
   exact ⟨⟨n1 + 1,d2,_,F,rfl,by omega,aNx,aRow,fun i hi => hop.is i hi rfl,fun y hy => Eq.trans aSkip (hk2 y hy)⟩⟩
  ·have hE0:0 < E.length:=List.length_pos_iff.2 hE
   repeat' (first|((with_reducible refine Go.red ?_);conv => whnf)|refine aG ?_|exact aCn|with_reducible refine Go.and ?_ ?_|((with_reducible refine Ask.mk ?_);first|exact aAsk|(exact hml)|(rw [hEl];omega)|exact aAsk2)|(apply Go.elem;(·exact aElem))|(simp only [hEl])|refine aH ?_|((with_reducible refine Go.bool ?_ ?_) <;> intro hc <;> (try simp only [List.length_map,ne_eq,hcs] at hc) <;> try (exfalso;omega)))
   refine Go.loop (fun s:(List (Int × Bool) × List (Int × Int)) × Nat => [(0,lookX g t cls),(1,.sl b out.length),(5,.mp (nx + 1)),(7,.mp (n1 + 1)),(25,i64 out.length),(26,i64 s.2)])
    (fun s H' n' => s.2 ≤ out.length∧n2 ≤ n'∧(∃ d,getH H' b = some (.row 4 1 d (out.map bl)))∧(∃ d,getH H' (nx + 1) = some (.row 3 0 d (mapA (mapI s.1.1))))∧(∃ d,getH H' (n1 + 1) = some (.row 3 0 d (mapA (mapN s.1.2))))∧HOpen out g s.1.1 s.1.2∧s.1.1.length ≤ E.length∧(s.1.1.length = E.length→s.1 = (E,F)∧∀ (j:Nat),j < s.2→lookE E (j:Int) ≠ none→tf out j = true∧lookE E (nxt g j:Int) ≠ none)∧∀ y,y < nx→getH H' y = getH H y) (fun s => out.length - s.2) ((E,F),0) aLess ⟨Nat.zero_le _,aNx,⟨_,aRow⟩,⟨_,aRow⟩,⟨_,aRow⟩,hop,Nat.le_refl _,fun _ => ⟨rfl,fun j hj => absurd hj (Nat.not_lt_zero _)⟩,fun y hy => Eq.trans aSkip (hk2 y hy)⟩ ?_
   clear rb r1 r2 hk2
   rintro ⟨⟨E2,F2⟩,i⟩ H3 n3 ⟨hi,hn3,⟨db,rb⟩,⟨d1,r1⟩,⟨d2,r2⟩,hop2,hle,hsame,hk3⟩
   dsimp only at hi r1 r2 hop2 hle hsame ⊢
   by_cases hil:i < out.length
   ·have eg:=getI E2 (i:Int)
    have el:=fun d => bl_at (l:=out) (k:=i) hil d
    cases hlk:lookE E2 (i:Int) with
    | none =>
     rw [hlk] at eg
     repeat' (first|((with_reducible refine Go.red ?_);conv => whnf)|refine aG ?_|exact aCn|with_reducible refine Go.and ?_ ?_|((with_reducible refine Ask.mk ?_);first|exact aAsk|(exact hml)|exact aAsk2)|(apply Go.elem;(·exact aElem))|(apply Go.givesG (g:=none);(·exact fun _ => eg))|refine aH ?_|((with_reducible refine Go.bool ?_ ?_) <;> intro hc <;> (try simp only [List.length_map,ne_eq,hcs] at hc) <;> try (exfalso;omega)))
     refine ⟨((E2,F2),i + 1),by dsimp only;omega,aLess,by dsimp only;omega,by omega,⟨_,aRow⟩,⟨_,aRow⟩,⟨_,aRow⟩,hop2,hle,fun h => ⟨(hsame h).1,fun j hj ho => ?_⟩,fun y hy => Eq.trans aSkip (hk3 y hy)⟩
     by_cases e:j = i
     ·subst e
      have:=(hsame h).1
      cases this
      exact absurd hlk ho
     ·exact (hsame h).2 j (by dsimp only at hj;omega) ho
    | some v =>
     have hv:v = true:=by
      cases v with
      | true => rfl
      | false => exact absurd hlk (hop2.yes _)
     subst hv
     have hon:lookE E2 (i:Int) ≠ none:=by rw [hlk];exact fun e => by cases e
     obtain ⟨hst,hsl⟩:=hop2.settle hil hon
     rw [hlk] at eg
     cases hto:tf out i with
     | false =>
      rw [show out.getD i false = false from hto] at el
      have hh:heir out g i = i:=heir_self hto
      rw [hh] at hst
      repeat' (first|((with_reducible refine Go.red ?_);conv => whnf)|refine aG ?_|exact aCn|with_reducible refine Go.and ?_ ?_|((with_reducible refine Ask.mk ?_);first|exact aAsk|(exact hml)|exact aAsk2)|(apply Go.elem;(·(first|exact el _|exact aElem)))|(apply Go.givesG (g:=none);(·exact fun _ => eg))|(apply Go.givesG (g:=none);(·exact fun _ => putN _ _ _))|(apply Go.givesG (g:=none);(·exact fun _ => delI _ _))|refine aH ?_|((with_reducible refine Go.bool ?_ ?_) <;> intro hc <;> (try simp only [List.length_map,ne_eq,hcs] at hc) <;> try (exfalso;omega)))
      exact ⟨((delE E2 (i:Int),putE F2 (i:Int) (i:Int)),i + 1),by dsimp only;omega,aLess,by dsimp only;omega,by omega,⟨_,aRow⟩,⟨_,aRow⟩,⟨_,aRow⟩,hst,by dsimp only;omega,fun h => by dsimp only at h;omega,fun y hy => Eq.trans aSkip (hk3 y hy)⟩
     | true =>
      rw [show out.getD i false = true from hto] at el
      obtain ⟨x0,x1⟩:=hnx i hto
      have hxn:(g.nd i).next = (nxt g i:Int):=(Int.toNat_of_nonneg x0).symm
      have hxl:nxt g i < out.length:=by show (g.nd i).next.toNat < out.length;omega
      have en:=fun d => nd_at (l:=g.nodes) (i:=i) (by rw [← hm];exact hil) d
      have eg2:=getN F2 (g.nd i).next
      rw [hxn] at eg2
      have hho:=heir_on he hto
      cases hlf:lookE F2 (nxt g i:Int) with
      | none =>
       rw [hlf] at eg2
       rw [← hxn] at eg2
       repeat' (first|((with_reducible refine Go.red ?_);conv => whnf)|refine aG ?_|exact aCn|with_reducible refine Go.and ?_ ?_|((with_reducible refine Ask.mk ?_);first|exact aAsk|(exact hml)|(rw [hnl];omega)|exact aAsk2|(intro h;simp_all [lookCells,Node.cells] <;> fail)|(simp_all [lookCells,Node.cells] <;> fail))|(apply Go.elem;(·(first|exact el _|exact en _|exact aElem)))|(apply Go.givesG (g:=none);(·exact fun _ => eg))|(apply Go.givesG (g:=none);(·exact fun _ => eg2))|refine aH ?_|((with_reducible refine Go.bool ?_ ?_) <;> intro hc <;> (try simp only [List.length_map,ne_eq,hcs] at hc) <;> try (exfalso;omega)))
       refine ⟨((E2,F2),i + 1),by dsimp only;omega,aLess,by dsimp only;omega,by omega,⟨_,aRow⟩,⟨_,aRow⟩,⟨_,aRow⟩,hop2,hle,fun h => ⟨(hsame h).1,fun j hj ho => ?_⟩,fun y hy => Eq.trans aSkip (hk3 y hy)⟩
       by_cases e:j = i
       ·subst e
        have:=(hsame h).1
        cases this
        refine ⟨hto,fun h2 => ?_⟩
        rw [hop2.is _ hxl h2] at hlf
        cases hlf
       ·exact (hsame h).2 j (by dsimp only at hj;omega) ho
      | some hv =>
       have hhv:hv = (heir out g (nxt g i):Int):=by
        cases h2:lookE E2 (nxt g i:Int) with
        | none => rw [hop2.is _ hxl h2] at hlf;cases hlf;rfl
        | some w => rw [hop2.no _ hxl (by rw [h2];exact fun e => by cases e)] at hlf;cases hlf
       rw [hlf] at eg2
       rw [← hxn] at eg2
       subst hhv
       rw [← hho] at eg2
       repeat' (first|((with_reducible refine Go.red ?_);conv => whnf)|refine aG ?_|exact aCn|with_reducible refine Go.and ?_ ?_|((with_reducible refine Ask.mk ?_);first|exact aAsk|(exact hml)|(rw [hnl];omega)|exact aAsk2|(intro h;simp_all [lookCells,Node.cells] <;> fail)|(simp_all [lookCells,Node.cells] <;> fail))|(apply Go.elem;(·(first|exact el _|exact en _|exact aElem)))|(apply Go.givesG (g:=none);(·exact fun _ => eg))|(apply Go.givesG (g:=none);(·exact fun _ => eg2))|(apply Go.givesG (g:=none);(·exact fun _ => putN _ _ _))|(apply Go.givesG (g:=none);(·exact fun _ => delI _ _))|refine aH ?_|((with_reducible refine Go.bool ?_ ?_) <;> intro hc <;> (try simp only [List.length_map,ne_eq,hcs] at hc) <;> try (exfalso;omega)))
       exact ⟨((delE E2 (i:Int),putE F2 (i:Int) (heir out g i:Int)),i + 1),by dsimp only;omega,aLess,by dsimp only;omega,by omega,⟨_,aRow⟩,⟨_,aRow⟩,⟨_,aRow⟩,hst,by dsimp only;omega,fun h => by dsimp only at h;omega,fun y hy => Eq.trans aSkip (hk3 y hy)⟩
   ·have:i = out.length:=by omega
    subst this
    have hlt:E2.length < E.length:=by
     apply Nat.lt_of_le_of_ne hle
     intro h
     obtain ⟨e,hall⟩:=hsame h
     exact hop.turns he hE hall
    repeat' (first|((with_reducible refine Go.red ?_);conv => whnf)|refine aG ?_|exact aC|with_reducible refine Go.and ?_ ?_|(apply Go.elem;(·exact aElem))|refine aH ?_|((with_reducible refine Go.bool ?_ ?_) <;> intro hc <;> (try simp only [List.length_map,ne_eq,hcs] at hc) <;> try (exfalso;omega)))
    exact ⟨(E2,F2),hlt,aLess,by omega,⟨_,aRow⟩,⟨_,aRow⟩,⟨_,aRow⟩,hop2,fun y hy => Eq.trans aSkip (hk3 y hy)⟩
end Go.Proofs.YtmonponfppdgfaaGreatDoor
end
section
/- The order of what is left, in plain data. -/
namespace Go.Proofs.YtmonponfppdgfaaGreatDoor
open Go Go.Abs Go.Proofs
set_option linter.unusedSimpArgs false
set_option linter.unusedVariables false
noncomputable def keepsI (g:Graph) (out:List Bool) (i:Nat):Bool:=fnd (reachL g (-1)) (i:Int) && !tf out i && decide (i ≠ heir out g 0)
noncomputable def orderTo (g:Graph) (out:List Bool) (m:Nat):List Nat:=heir out g 0 :: (List.range m).filter (keepsI g out)
theorem orderTo_all (g:Graph) (out:List Bool):orderTo g out g.nodes.length = orderL g out:=rfl
theorem orderTo_next (g:Graph) (out:List Bool) (m:Nat):orderTo g out (m + 1) = if keepsI g out m = true then orderTo g out m ++ [m] else orderTo g out m:=by
 rw [orderTo,List.range_succ,List.filter_append]
 by_cases h:keepsI g out m = true
 ·rw [if_pos h];simp [orderTo,h]
 ·rw [if_neg h];simp [orderTo,h]
theorem orderTo_lt {g:Graph} {out:List Bool} {m:Nat} (hh:heir out g 0 < g.nodes.length) (hm:m ≤ g.nodes.length):∀ x ∈ orderTo g out m,x < g.nodes.length:=by
 intro x hx
 rcases List.mem_cons.1 hx with rfl|hx
 ·exact hh
 ·have:=List.mem_range.1 (List.mem_filter.1 hx).1;omega
theorem orderTo_nodup (g:Graph) (out:List Bool) (m:Nat):(orderTo g out m).Nodup:=by
 rw [orderTo,List.nodup_cons]
 refine ⟨fun h => ?_,List.nodup_range.filter _⟩
 have:=(List.mem_filter.1 h).2
 unfold keepsI at this
 simp at this
theorem orderTo_len {g:Graph} {out:List Bool} {m:Nat} (hh:heir out g 0 < g.nodes.length) (hm:m ≤ g.nodes.length):(orderTo g out m).length ≤ g.nodes.length:=by
 have:=nodup_sub (m:=List.range g.nodes.length) (orderTo_nodup g out m) fun x hx => List.mem_range.2 (orderTo_lt hh hm x hx)
 simpa using this
def numTo (o:List Nat) (k:Nat):List (Int × Int):=(List.range k).foldl (fun E j => putE E ((o.getD j 0:Nat):Int) (j:Int)) []
theorem numTo_next (o:List Nat) (k:Nat):numTo o (k + 1) = putE (numTo o k) ((o.getD k 0:Nat):Int) (k:Int):=by
 rw [numTo,List.range_succ,List.foldl_append];rfl
theorem numTo_look {o:List Nat} (hn:o.Nodup) (i:Nat):∀ k,k ≤ o.length→lookE (numTo o k) (i:Int) = ((o.take k).findIdx? (fun j => decide (j = i))).map fun j => (j:Int)
 | 0,_ => by simp [numTo,lookE]
 | k + 1,hk => by
  have hkl:k < o.length:=by omega
  rw [numTo_next,look_put,numTo_look hn i k (by omega),List.take_succ_eq_append_getElem hkl,List.findIdx?_append,gd hkl]
  have hni:o[k] ∉ o.take k:=by
   have h1:=hn
   rw [← List.take_append_drop k o,List.nodup_append] at h1
   intro hm
   refine h1.2.2 _ hm (o[k]) ?_ rfl
   rw [List.drop_eq_getElem_cons hkl];exact List.mem_cons_self
  by_cases e:i = o[k]
  ·have hnone:(o.take k).findIdx? (fun j => decide (j = i)) = none:=by
    rw [List.findIdx?_eq_none_iff]
    intro x hx
    rw [decide_eq_false_iff_not]
    intro h;rw [h,e] at hx;exact hni hx
   rw [if_pos (by rw [e]),hnone]
   simp [List.findIdx?_cons,e,List.length_take,Nat.min_eq_left (Nat.le_of_lt hkl)]
  ·rw [if_neg (by omega)]
   have:[o[k]].findIdx? (fun j => decide (j = i)) = none:=by simp [List.findIdx?_cons,Ne.symm e]
   rw [this]
   simp
theorem num_place {o:List Nat} (hn:o.Nodup) (i:Nat):(lookE (numTo o o.length) (i:Int)).getD 0 = (placeN o i:Int):=by
 rw [numTo_look hn i _ (Nat.le_refl _),List.take_length,placeN]
 cases o.findIdx? (fun j => decide (j = i)) <;> rfl
end Go.Proofs.YtmonponfppdgfaaGreatDoor
end
section
/- What is left of a right thread is right, in plain data. -/
namespace Go.Proofs.YtmonponfppdgfaaGreatDoor
open Go Go.Abs Go.Proofs
set_option linter.unusedSimpArgs false
set_option linter.unusedVariables false
theorem come_in {g:Graph} (hw:Whole g) {i:Int} (h:Come g (-1) i):0 ≤ i∧i.toNat < g.nodes.length:=by
 induction h with
 | zero => exact ⟨by omega,by have:=hw.1;simp;omega⟩
 | @step i k _ _ hk ih => exact (hw.2.2 i.toNat ih.2).2.2 k hk
theorem fnd_come {g:Graph} {i:Nat} (hi:i < g.nodes.length):fnd (reachL g (-1)) (i:Int) = true ↔ Come g (-1) (i:Int):=by
 unfold fnd;rw [Int.toNat_natCast];exact reachL_get g (-1) hi
structure Idl (u:UnitS) (g:Graph) (out:List Bool):Prop where
 ok:GraphOk u g
 len:out.length = g.nodes.length
 ends:Ends out g
 such:∀ i,tf out i = true→i < g.nodes.length∧Come g (-1) (i:Int)∧((g.nd i).kind = 1 ∨ (g.nd i).kind = 2 ∨ (g.nd i).kind = 3 ∨ ((g.nd i).kind = 8∧(g.nd i).next = (g.nd i).els))
theorem idl_of {u:UnitS} {g:Graph} (h:GraphOk u g) (cls:List ClassV) (t:Nat):Idl u g (idleL g cls t):=by
 refine ⟨h,idleL_len _ _ _,ends_idle _ _,fun i hi => ?_⟩
 have h1:=(idleOf_get.1 hi).1
 have hl:i < g.nodes.length:=by have:=tf_lt h1;rw [suchL_len] at this;exact this
 have hs:suchB g cls t i = true:=by simpa [tf,suchL,suchTo,List.getD,hl] using h1
 unfold suchB at hs
 dsimp only at hs
 rw [Bool.and_eq_true] at hs
 refine ⟨hl,(fnd_come hl).1 hs.1,?_⟩
 have hs:=hs.2
 split at hs
 ·exact .inl (by assumption)
 ·split at hs
  ·exact .inr (.inl (by assumption))
  ·split at hs
   ·exact .inr (.inr (.inl (by assumption)))
   ·split at hs
    ·exact .inr (.inr (.inr ⟨by assumption,of_decide_eq_true hs⟩))
    ·cases hs
section
variable {u:UnitS} {g:Graph} {out:List Bool}
theorem Idl.fol (h:Idl u g out) {i:Nat} (hi:tf out i = true):(g.nd i).next ∈ (g.nd i).fol∧∀ k ∈ (g.nd i).fol,k = (g.nd i).next:=by
 obtain ⟨_,_,hk⟩:=h.such i hi
 unfold Node.fol
 rw [if_neg (by omega)]
 split
 ·have:(g.nd i).next = (g.nd i).els:=by omega
  rw [← this]
  exact ⟨by simp,fun k hk => by simpa using hk⟩
 ·exact ⟨by simp,fun k hk => by simpa using hk⟩
theorem Idl.next (h:Idl u g out) {i:Nat} (hi:tf out i = true):0 ≤ (g.nd i).next∧nxt g i < g.nodes.length:=by
 obtain ⟨hl,_,_⟩:=h.such i hi
 have:=fol_ok (h.ok.node hl) (h.fol hi).1
 exact ⟨this.1,by show (g.nd i).next.toNat < _;omega⟩
theorem Idl.nextCome (h:Idl u g out) {i:Nat} (hi:tf out i = true):Come g (-1) (nxt g i:Int):=by
 have h1:=h.next hi
 have:(nxt g i:Int) = (g.nd i).next:=by show ((g.nd i).next.toNat:Int) = _;omega
 rw [this]
 exact Come.step (h.such i hi).2.1 (by omega) (by rw [Int.toNat_natCast];exact (h.fol hi).1)
theorem Idl.heirCome (h:Idl u g out) {i:Nat} (hi:Come g (-1) (i:Int)):Come g (-1) (heir out g i:Int) :=
 heir_ind h.ends (P:=fun (i:Nat) => Come g (-1) (i:Int)) (fun _ hj _ => h.nextCome hj) hi
theorem Idl.mem (h:Idl u g out) {i:Nat}:i ∈ orderL g out ↔ Come g (-1) (i:Int)∧tf out i = false:=by
 have h0:Come g (-1) (heir out g 0:Int):=h.heirCome (i:=0) .zero
 unfold orderL
 rw [List.mem_cons,List.mem_filter,List.mem_range]
 constructor
 ·rintro (rfl|⟨h1,h2⟩)
  ·exact ⟨h0,heir_not h.ends 0⟩
  ·simp only [Bool.and_eq_true,Bool.not_eq_true',decide_eq_true_eq] at h2
   exact ⟨(fnd_come h1).1 h2.1.1,h2.1.2⟩
 ·rintro ⟨h1,h2⟩
  by_cases e:i = heir out g 0
  ·exact .inl e
  ·have hl:=(come_in h.ok.whole h1).2
   rw [Int.toNat_natCast] at hl
   refine .inr ⟨hl,?_⟩
   simp only [Bool.and_eq_true,Bool.not_eq_true',decide_eq_true_eq]
   exact ⟨⟨(fnd_come hl).2 h1,h2⟩,e⟩
theorem Idl.heirMem (h:Idl u g out) {i:Nat} (hi:Come g (-1) (i:Int)):heir out g i ∈ orderL g out:=h.mem.2 ⟨h.heirCome hi,heir_not h.ends i⟩
theorem find_place:∀ (o:List Nat) (i:Nat),i ∈ o→∃ k,o.findIdx? (fun j => decide (j = i)) = some k∧k < o.length∧o.getD k 0 = i
 | [],_,h => by simp at h
 | a :: o,i,h => by
  rw [List.findIdx?_cons]
  by_cases e:a = i
  ·exact ⟨0,by simp [e],by simp,by simp [e]⟩
  ·obtain ⟨k,h1,h2,h3⟩:=find_place o i ((List.mem_cons.1 h).resolve_left fun x => e x.symm)
   exact ⟨k + 1,by simp [e,h1],by simpa using h2,by simpa using h3⟩
theorem place_in {o:List Nat} {i:Nat} (h:i ∈ o):placeN o i < o.length∧o.getD (placeN o i) 0 = i:=by
 obtain ⟨k,h1,h2,h3⟩:=find_place o i h
 have:placeN o i = k:=by unfold placeN;rw [h1];rfl
 rw [this];exact ⟨h2,h3⟩
theorem nodup_inj {l:List Nat} (hn:l.Nodup) {a b:Nat} (ha:a < l.length) (hb:b < l.length) (h:l.getD a 0 = l.getD b 0):a = b:=by
 rw [gd ha,gd hb] at h
 have hp:=List.pairwise_iff_getElem.1 hn
 rcases Nat.lt_trichotomy a b with hab|hab|hab
 ·exact absurd h (hp a b ha hb hab)
 ·exact hab
 ·exact absurd h.symm (hp b a hb ha hab)
theorem place_get {o:List Nat} (hn:o.Nodup) {k:Nat} (hk:k < o.length):placeN o (o.getD k 0) = k:=by
 have hm:o.getD k 0 ∈ o:=by rw [gd hk];exact List.getElem_mem hk
 obtain ⟨h1,h2⟩:=place_in hm
 exact nodup_inj hn h1 hk h2
noncomputable def ordG (g:Graph) (out:List Bool):Graph:={ g with nodes:=(orderL g out).map fun i => reNode g out (orderL g out) (g.nd i) }
theorem ordG_len:(ordG g out).nodes.length = (orderL g out).length:=by simp [ordG]
theorem ordG_nd {k:Nat} (hk:k < (orderL g out).length):(ordG g out).nd k = reNode g out (orderL g out) (g.nd ((orderL g out).getD k 0)):=by
 show ((orderL g out).map fun i => reNode g out (orderL g out) (g.nd i)).getD k default = _
 rw [gd hk]
 simp [List.getD,hk]
theorem reNode_fol (n:Node):(reNode g out (orderL g out) n).fol = n.fol.map fun x => (placeN (orderL g out) (heir out g x.toNat):Int):=by
 unfold reNode Node.fol
 dsimp only
 by_cases h9:n.kind = 9
 ·rw [if_pos h9,if_pos h9];rfl
 ·rw [if_neg h9,if_neg h9,if_pos h9]
  by_cases h8:n.kind = 8
  ·rw [if_pos h8,if_pos h8,if_pos h8];rfl
  ·rw [if_neg h8,if_neg h8];rfl
theorem order_nodup (g:Graph) (out:List Bool):(orderL g out).Nodup:=orderTo_nodup g out g.nodes.length
theorem Idl.lt (h:Idl u g out) {i:Nat} (hi:i ∈ orderL g out):i < g.nodes.length:=by
 have:=(come_in h.ok.whole (h.mem.1 hi).1).2
 rwa [Int.toNat_natCast] at this
theorem Idl.olen (h:Idl u g out):1 ≤ (orderL g out).length∧(orderL g out).length ≤ g.nodes.length:=by
 refine ⟨by simp [orderL],?_⟩
 have:=nodup_sub (m:=List.range g.nodes.length) (order_nodup g out) fun x hx => List.mem_range.2 (h.lt hx)
 simpa using this
theorem Idl.to (h:Idl u g out) {i:Nat} (hi:Come g (-1) (i:Int)) {x:Int} (hx:x ∈ (g.nd i).fol):placeN (orderL g out) (heir out g x.toNat) < (orderL g out).length∧(orderL g out).getD (placeN (orderL g out) (heir out g x.toNat)) 0 = heir out g x.toNat∧Come g (-1) (x.toNat:Int):=by
 have hc:Come g (-1) x:=Come.step hi (by omega) (by rw [Int.toNat_natCast];exact hx)
 have h0:=(come_in h.ok.whole hc).1
 have hc2:Come g (-1) (x.toNat:Int):=by rw [Int.toNat_of_nonneg h0];exact hc
 have:=place_in (h.heirMem hc2)
 exact ⟨this.1,this.2,hc2⟩
theorem Idl.node (h:Idl u g out) {u2:UnitS} (h1:u2.shared.length = u.shared.length) (h2:u2.locks.length = u.locks.length):∀ n ∈ (ordG g out).nodes,NodeOk u2 (ordG g out) n:=by
 intro n hn
 obtain ⟨i,hi,rfl⟩:=List.mem_map.1 hn
 have hc:=(h.mem.1 hi).1
 have ho:=h.ok.node (h.lt hi)
 have hfol:∀ x ∈ (g.nd i).fol,(0:Int) ≤ (placeN (orderL g out) (heir out g x.toNat):Int)∧(placeN (orderL g out) (heir out g x.toNat):Int) < ((ordG g out).nodes.length:Int):=fun x hx => by
  have:=(h.to hc hx).1
  rw [ordG_len];omega
 refine ⟨ho.kind,ho.origin,ho.op,ho.slot,?_,ho.a,ho.b,?_,?_⟩
 ·have:=ho.thing
  rw [← h1,← h2] at this
  exact this
 ·refine ⟨fun hu => ?_,fun hu => ?_⟩
  ·have h9:(g.nd i).kind ≠ 9:=by
    have:usesNext (g.nd i).kind = true:=hu
    unfold usesNext at this
    have:=of_decide_eq_true this
    omega
   have:(reNode g out (orderL g out) (g.nd i)).next = (placeN (orderL g out) (heir out g (g.nd i).next.toNat):Int):=by unfold reNode;dsimp only;rw [if_pos h9]
   rw [this]
   refine hfol _ ?_
   unfold Node.fol;rw [if_neg h9];split <;> simp
  ·have hk:=ho.kind
   have h9:(g.nd i).kind = 9:=by
    have:usesNext (g.nd i).kind = false:=hu
    unfold usesNext at this
    have:=of_decide_eq_false this
    omega
   have:(reNode g out (orderL g out) (g.nd i)).next = (g.nd i).next:=by unfold reNode;dsimp only;rw [if_neg (fun x => x h9)]
   rw [this]
   exact ho.next.2 hu
 ·refine ⟨fun hu => ?_,fun hu => ?_⟩
  ·have h8:(g.nd i).kind = 8:=hu
   have:(reNode g out (orderL g out) (g.nd i)).els = (placeN (orderL g out) (heir out g (g.nd i).els.toNat):Int):=by unfold reNode;dsimp only;rw [if_pos h8]
   rw [this]
   refine hfol _ ?_
   unfold Node.fol;rw [if_neg (by omega),if_pos h8];simp
  ·have h8:(g.nd i).kind ≠ 8:=hu
   have:(reNode g out (orderL g out) (g.nd i)).els = (g.nd i).els:=by unfold reNode;dsimp only;rw [if_neg h8]
   rw [this]
   exact ho.els.2 h8
theorem Idl.whole (h:Idl u g out):Whole (ordG g out):=whole_of (u:=u) (by rw [ordG_len];have:=h.olen;have:=h.ok.len;omega) (h.node rfl rfl)
theorem Idl.held (h:Idl u g out) {lk:Nat→List Int} (hlk:LkOk g lk):LkOk (ordG g out) fun k => lk ((orderL g out).getD k 0):=by
 have hone:∀ i:Nat,tf out i = true→lk (nxt g i) = lk i:=fun i hi => by
  obtain ⟨_,hc,hk⟩:=h.such i hi
  obtain ⟨now,h1,h2⟩:=hlk.on i hc
  rw [Int.toNat_natCast] at h1 h2
  have:now = lk i:=by
   unfold heldNow at h1
   rw [if_neg (by omega),if_neg (by omega),if_neg (by omega)] at h1
   cases h1;rfl
  rw [← this]
  exact h2 _ (h.fol hi).1
 have hheir:∀ i:Nat,lk (heir out g i) = lk i:=fun i =>
  heir_ind h.ends (P:=fun j => lk j = lk i) (fun j hj hp => (hone j hj).trans hp) rfl
 refine ⟨?_,fun k hk => ?_⟩
 ·show lk (heir out g 0) = []
  rw [hheir,hlk.zero]
 ·obtain ⟨h0,hkl⟩:=come_in h.whole hk
  rw [ordG_len] at hkl
  have hm:(orderL g out).getD k.toNat 0 ∈ orderL g out:=by rw [gd hkl];exact List.getElem_mem hkl
  have hc:=(h.mem.1 hm).1
  obtain ⟨now,h1,h2⟩:=hlk.on _ hc
  rw [Int.toNat_natCast] at h1 h2
  refine ⟨now,?_,fun x hx => ?_⟩
  ·rw [ordG_nd hkl];exact h1
  ·rw [ordG_nd hkl,reNode_fol] at hx
   obtain ⟨y,hy,rfl⟩:=List.mem_map.1 hx
   rw [Int.toNat_natCast,(h.to hc hy).2.1,hheir]
   exact h2 y hy
theorem Idl.graph (h:Idl u g out) {u2:UnitS} (h1:u2.shared.length = u.shared.length) (h2:u2.locks.length = u.locks.length):GraphOk u2 (ordG g out):=by
 obtain ⟨_,_,hlk,_⟩:=heldG_ok h.ok.whole h.ok.held
 refine ⟨h.ok.locals,h.ok.slots,?_,h.node h1 h2,?_⟩
 ·rw [ordG_len];have:=h.olen;have:=h.ok.len;omega
 ·rw [heldG_to h.whole (h.held hlk)];omega
theorem Idl.full (h:Idl u g out) (hl:(orderL g out).length = g.nodes.length):∀ i,i < g.nodes.length→i ∈ orderL g out:=by
 intro i hi
 apply Classical.byContradiction
 intro hn
 have:=nodup_sub (l:=i :: orderL g out) (m:=List.range g.nodes.length) (List.nodup_cons.2 ⟨hn,order_nodup g out⟩) fun x hx => by
  rcases List.mem_cons.1 hx with rfl|hx
  ·exact List.mem_range.2 hi
  ·exact List.mem_range.2 (h.lt hx)
 simp at this
 omega
theorem Idl.range (h:Idl u g out) (hl:(orderL g out).length = g.nodes.length):orderL g out = List.range g.nodes.length:=by
 have hf:=h.full hl
 have hw:=h.ok.len
 have h0:heir out g 0 = 0:=heir_self (h.mem.1 (hf 0 (by omega))).2
 unfold orderL
 rw [h0,show (List.range g.nodes.length).filter (fun (i:Nat) => fnd (reachL g (-1)) (i:Int) && !tf out i && decide (i ≠ 0)) = (List.range g.nodes.length).filter (fun (i:Nat) => decide (i ≠ 0)) from List.filter_congr fun i hi => by
  have hi:=List.mem_range.1 hi
  have:=h.mem.1 (hf i hi)
  rw [(fnd_come hi).2 this.1,this.2];rfl]
 obtain ⟨m,hm⟩:∃ m,g.nodes.length = m + 1:=⟨g.nodes.length - 1,by omega⟩
 rw [hm,List.range_succ_eq_map,List.filter_cons_of_neg (by simp)]
 congr 1
 rw [List.filter_eq_self]
 intro a ha
 obtain ⟨b,_,rfl⟩:=List.mem_map.1 ha
 simp
theorem Idl.same (h:Idl u g out) (hl:(orderL g out).length = g.nodes.length):ordG g out = g:=by
 have hr:=h.range hl
 have hf:=h.full hl
 have hp:∀ j,j < g.nodes.length→placeN (orderL g out) (heir out g j) = j:=fun j hj => by
  rw [heir_self (h.mem.1 (hf j hj)).2]
  have:=place_get (order_nodup g out) (k:=j) (by omega)
  rw [hr] at this ⊢
  rw [gd (by simpa using hj)] at this
  simpa using this
 have hn:(ordG g out).nodes = g.nodes:=by
  apply List.ext_getElem (by rw [ordG_len,hl])
  intro i h1 h2
  have hi:i < (orderL g out).length:=by omega
  have e1:(ordG g out).nodes[i] = (ordG g out).nd i:=by simp [Graph.nd,List.getD,h1]
  have e2:g.nodes[i] = g.nd i:=by simp [Graph.nd,List.getD,h2]
  rw [e1,e2,ordG_nd hi]
  have:(orderL g out).getD i 0 = i:=by rw [hr,gd (by simpa using h2)];simp
  rw [this]
  have ho:=h.ok.node h2
  have hk:=ho.kind
  unfold reNode
  have a1:(if (g.nd i).kind ≠ 9 then (placeN (orderL g out) (heir out g (g.nd i).next.toNat):Int) else (g.nd i).next) = (g.nd i).next:=by
   split
   ·have:=ho.next.1 (by unfold usesNext;exact decide_eq_true (by omega))
    rw [hp _ (by omega)];omega
   ·rfl
  have a2:(if (g.nd i).kind = 8 then (placeN (orderL g out) (heir out g (g.nd i).els.toNat):Int) else (g.nd i).els) = (g.nd i).els:=by
   split
   ·rename_i h8
    have:=ho.els.1 h8
    rw [hp _ (by omega)];omega
   ·rfl
  rw [a1,a2]
 show ({ g with nodes:=(ordG g out).nodes }:Graph) = g
 rw [hn]
end
end Go.Proofs.YtmonponfppdgfaaGreatDoor
end
section
/- Units without what can be left out: once, and till nothing changes, in plain data. -/
namespace Go.Proofs.YtmonponfppdgfaaGreatDoor
open Go Go.Abs Go.Proofs
set_option linter.unusedSimpArgs false
set_option linter.unusedVariables false
theorem onceG_eq (g:Graph) (cls:List ClassV) (t:Nat):onceG g cls t = ordG g (idleL g cls t):=rfl
theorem onceU_len (u:UnitS):(onceU u).graphs.length = u.graphs.length:=by simp [onceU]
theorem onceU_gr {u:UnitS} {t:Nat} (ht:t < u.graphs.length):(onceU u).gr t = onceG (u.gr t) (classesU u) t:=by
 show ((List.range u.graphs.length).map fun t => onceG (u.gr t) (classesU u) t).getD t default = _
 simp [List.getD,ht]
theorem gr_mem {u:UnitS} {g:Graph} (h:g ∈ u.graphs):∃ t,t < u.graphs.length∧u.gr t = g:=by
 obtain ⟨t,ht,rfl⟩:=List.getElem_of_mem h
 exact ⟨t,ht,by simp [UnitS.gr,List.getD,ht]⟩
theorem once_names (u:UnitS):namesU (onceU u) = namesU u:=by
 unfold namesU
 have:(onceU u).graphs.map Graph.name = u.graphs.map Graph.name:=by
  apply List.ext_getElem (by simp [onceU])
  intro i h1 h2
  have hi:i < u.graphs.length:=by simpa using h2
  simp [onceU,onceG,UnitS.gr,List.getD,hi]
 rw [this];rfl
theorem once_right {u:UnitS} (h:RightU u):RightU (onceU u):=by
 refine ⟨?_,fun g hg => ?_⟩
 ·have:=h.named
  unfold namedB at this ⊢
  rw [once_names,onceU_len]
  exact this
 ·obtain ⟨t,ht,rfl⟩:=gr_mem hg
  rw [onceU_len] at ht
  rw [onceU_gr ht]
  exact (idl_of (h.gr ht) (classesU u) t).graph rfl rfl
theorem once_wf {u:UnitS} (hu:u.Wf) (hr:RightU u):(onceU u).Wf:=by
 refine ⟨hu.shared,hu.sharedlen,hu.locks,hu.lockslen,fun g hg => ?_,by rw [onceU_len];exact hu.graphslen⟩
 obtain ⟨t,ht,rfl⟩:=gr_mem hg
 rw [onceU_len] at ht
 have hgw:=hu.graphs _ (getD_mem' default ht)
 have hi:=idl_of (hr.gr ht) (classesU u) t
 have hg2:GraphOk u ((onceU u).gr t):=by rw [onceU_gr ht];exact hi.graph rfl rfl
 have hl:=hg2.len
 have hsame:((onceU u).gr t).name = (u.gr t).name∧((onceU u).gr t).locals = (u.gr t).locals∧((onceU u).gr t).slots = (u.gr t).slots:=by rw [onceU_gr ht];exact ⟨rfl,rfl,rfl⟩
 refine ⟨by rw [hsame.1];exact hgw.name,by rw [hsame.2.1];exact hgw.locals,by rw [hsame.2.2];exact hgw.slots,fun n hn => ?_,by omega⟩
 have ho:=hg2.nodes n hn
 rw [onceU_gr ht] at hn
 obtain ⟨i,hi2,rfl⟩:=List.mem_map.1 hn
 have hnw:=hgw.nodes _ (getD_mem' default (hi.lt hi2))
 have hin:∀ x:Int,0 ≤ x∧x < ((onceU u).gr t).nodes.length→wf64 x:=fun x hx => by unfold wf64;omega
 refine ⟨hnw.kind,hnw.op,hnw.slot,hnw.thing,hnw.a,hnw.b,?_,?_,hnw.origin⟩
 ·cases hun:usesNext (reNode (u.gr t) (idleL (u.gr t) (classesU u) t) (orderL (u.gr t) (idleL (u.gr t) (classesU u) t)) ((u.gr t).nd i)).kind with
  | true => exact hin _ (ho.next.1 hun)
  | false => rw [ho.next.2 hun];unfold wf64;omega
 ·by_cases h8:(reNode (u.gr t) (idleL (u.gr t) (classesU u) t) (orderL (u.gr t) (idleL (u.gr t) (classesU u) t)) ((u.gr t).nd i)).kind = 8
  ·exact hin _ (ho.els.1 h8)
  ·rw [ho.els.2 h8];unfold wf64;omega
theorem sum_le {α:Type} (f h:α→Nat):∀ (l:List α),(∀ a ∈ l,f a ≤ h a)→(l.map f).sum ≤ (l.map h).sum∧((l.map f).sum = (l.map h).sum→∀ a ∈ l,f a = h a)
 | [],_ => by simp
 | a :: l,hl => by
  obtain ⟨h1,h2⟩:=sum_le f h l fun x hx => hl x (List.mem_cons_of_mem _ hx)
  have h3:=hl a (by simp)
  simp only [List.map_cons,List.sum_cons]
  refine ⟨by omega,fun e x hx => ?_⟩
  rcases List.mem_cons.1 hx with rfl|hx
  ·omega
  ·exact h2 (by omega) x hx
theorem size_range (u:UnitS):sizeU u = ((List.range u.graphs.length).map fun t => (u.gr t).nodes.length).sum:=by
 unfold sizeU
 congr 1
 apply List.ext_getElem (by simp)
 intro i h1 h2
 have hi:i < u.graphs.length:=by simpa using h1
 simp [UnitS.gr,List.getD,hi]
theorem once_less {u:UnitS} (h:RightU u):∀ t,t < u.graphs.length→((onceU u).gr t).nodes.length ≤ (u.gr t).nodes.length:=fun t ht => by
 rw [onceU_gr ht,onceG_eq,ordG_len];exact (idl_of (h.gr ht) (classesU u) t).olen.2
theorem units_ext {u v:UnitS} (h1:u.shared = v.shared) (h2:u.locks = v.locks) (h3:u.graphs.length = v.graphs.length) (h4:∀ t,t < u.graphs.length→u.gr t = v.gr t):u = v:=by
 obtain ⟨a,b,c⟩:=u
 obtain ⟨a',b',c'⟩:=v
 simp only at h1 h2 h3
 subst h1;subst h2
 have:c = c':=by
  apply List.ext_getElem h3
  intro i hi1 hi2
  have:=h4 i hi1
  simpa [UnitS.gr,List.getD,hi1,hi2] using this
 rw [this]
theorem once_size {u:UnitS} (h:RightU u):sizeU (onceU u) ≤ sizeU u∧(sizeU (onceU u) = sizeU u→onceU u = u):=by
 rw [size_range,size_range u,onceU_len]
 obtain ⟨h1,h2⟩:=sum_le (fun t => ((onceU u).gr t).nodes.length) (fun t => (u.gr t).nodes.length) (List.range u.graphs.length) fun t ht => once_less h t (List.mem_range.1 ht)
 refine ⟨h1,fun e => units_ext rfl rfl (onceU_len u) fun t ht => ?_⟩
 rw [onceU_len] at ht
 have:=h2 e t (List.mem_range.2 ht)
 rw [onceU_gr ht,onceG_eq] at this ⊢
 rw [ordG_len] at this
 exact (idl_of (h.gr ht) (classesU u) t).same this
theorem sweep_ends {v:UnitS} (h:RightU v) (hs:sizeU v = 0):onceU v = v:=(once_size h).2 (by have:=(once_size h).1;omega)
theorem sweepN_more:∀ (f f2:Nat) (v:UnitS),RightU v→sizeU v ≤ f→sizeU v ≤ f2→sweepN f v = sweepN f2 v
 | 0,0,v,_,_,_ => rfl
 | 0,f2 + 1,v,h,h1,_ => by rw [sweepN,sweepN,if_pos (sweep_ends h (by omega))]
 | f + 1,0,v,h,_,h2 => by rw [sweepN,sweepN,if_pos (sweep_ends h (by omega))]
 | f + 1,f2 + 1,v,h,h1,h2 => by
  rw [sweepN,sweepN]
  by_cases e:onceU v = v
  ·rw [if_pos e,if_pos e]
  ·rw [if_neg e,if_neg e]
   have h3:=once_size h
   have:sizeU (onceU v) < sizeU v:=Nat.lt_of_le_of_ne h3.1 fun x => e (h3.2 x)
   exact sweepN_more f f2 _ (once_right h) (by omega) (by omega)
theorem sweep_stop {v:UnitS} (h:RightU v) (e:onceU v = v):sweepN (sizeU v) v = v:=by
 cases hf:sizeU v with
 | zero => rfl
 | succ f => rw [sweepN,if_pos e]
theorem sweep_on {v:UnitS} (h:RightU v) (e:onceU v ≠ v):sweepN (sizeU v) v = sweepN (sizeU (onceU v)) (onceU v)∧sizeU (onceU v) < sizeU v:=by
 have h3:=once_size h
 have hlt:sizeU (onceU v) < sizeU v:=Nat.lt_of_le_of_ne h3.1 fun x => e (h3.2 x)
 refine ⟨?_,hlt⟩
 obtain ⟨f,hf⟩:∃ f,sizeU v = f + 1:=⟨sizeU v - 1,by omega⟩
 rw [hf,sweepN,if_neg e]
 exact sweepN_more _ _ _ (once_right h) (by omega) (Nat.le_refl _)
theorem sweepU_eq {u:UnitS} (h:RightU u):sweepU u = sweepN (sizeU (onceU u)) (onceU u):=sweepN_more _ _ _ (once_right h) (once_size h).1 (Nat.le_refl _)
end Go.Proofs.YtmonponfppdgfaaGreatDoor
end
