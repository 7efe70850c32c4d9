import Derived.Test.YtmonponfppdgfaaGreatDoorM29
import Derived.Test.YtmonponfppdgfaaGreatDoorM23
section
/- A thread is asked for: the walk; Live. -/
namespace Go.Proofs.YtmonponfppdgfaaGreatDoor
open Go Go.Abs Go.Proofs
set_option linter.unusedSimpArgs false
set_option linter.unusedVariables false
abbrev nilP:AV:=.sc (.pointer none)
theorem asked_bad (u:UnitS) (hu:u.Wf) (hr:¬ RightU u) (t:Int):Pure Tryz.prog 22 [u.av,i64 t] (fun r => r = .tup [nilP,i64 60]):=by
 have h:=classes_pure u hu
 rw [if_neg (mt rightB_iff.1 hr)] at h
 refine Go.pureL lf22 rfl ?_
 repeat' (first|((with_reducible refine Go.red ?_);conv => whnf)|refine aG ?_|exact aCn|with_reducible refine Go.and ?_ ?_|((with_reducible refine Ask.mk ?_);first|exact aAsk|exact aAsk2|(intro h;simp_all [UnitS.cells] <;> fail)|(simp_all [UnitS.cells] <;> fail))|(apply Go.elem;(·exact aElem))|refine aK (h) ?_|refine aH ?_|((with_reducible refine Go.bool ?_ ?_) <;> intro hc <;> (try simp only [List.length_map,ne_eq,hcs] at hc) <;> try (exfalso;omega)))
 exact rfl
theorem asked_range (u:UnitS) (hu:u.Wf) (hr:RightU u) (t:Int) (ht:t < 0 ∨ (u.graphs.length:Int) ≤ t):Pure Tryz.prog 22 [u.av,i64 t] (fun r => r = .tup [nilP,i64 2]):=by
 have h:=classes_pure u hu
 rw [if_pos (rightB_iff.2 hr)] at h
 unfold classesAv at h
 have hf:fitL 0 ((classesU u).map ClassV.av):=fit_classes _
 refine Go.pureL lf22 rfl ?_
 repeat' (first|((with_reducible refine Go.red ?_);conv => whnf)|refine aG ?_|exact aCn|with_reducible refine Go.and ?_ ?_|((with_reducible refine Ask.mk ?_);first|exact aAsk|exact aAsk2|(intro h;simp_all [UnitS.cells] <;> fail)|(simp_all [UnitS.cells] <;> fail))|(apply Go.elem;(·exact aElem))|refine aK (h) ?_|refine aH ?_|((with_reducible refine Go.bool ?_ ?_) <;> intro hc <;> (try simp only [List.length_map,ne_eq,hcs] at hc) <;> try (exfalso;omega)))
 all_goals first|exact rfl|(exfalso;omega)
theorem frz_tup2 {H:Hp} {k:Nat} {a b:AV}:Abs.frz H (k + 1) (.tup [a,b]) = .tup [Abs.frz H k a,Abs.frz H k b]:=by simp only [frz,List.map_cons,List.map_nil]
theorem frz_sc {H:Hp} (k:Nat) {v:Value} (h:fitA 0 (.sc v)):Abs.frz H k (.sc v) = .sc v:=frz_fit k h
set_option maxRecDepth 4000 in
set_option maxHeartbeats 4000000 in
theorem asked_ok (u:UnitS) (hu:u.Wf) (hr:RightU u) (t:Nat) (ht:t < u.graphs.length):Pure Tryz.prog 22 [u.av,i64 t] (fun r => r = .tup [lookX (u.gr t) t (classesU u),i64 0]):=by
 have h:=classes_pure u hu
 rw [if_pos (rightB_iff.2 hr)] at h
 unfold classesAv at h
 have hgw:=hu.graphs _ (getD_mem' default ht)
 have hgo:=hr.gr ht
 have hrp:=reached_pure (u.gr t) hgw (wholeB_of hgo.whole) (spread_pure (u.gr t) hgw hgo.whole (-1) (by unfold wf64;omega))
 have eg:=fun d => gr_at ht d
 refine pure_of_call ?_ (by rw [fitA,fitL,fitL,fitL];exact ⟨fit_lookX _ _ _,by simp [fitA],trivial⟩)
 refine Go.fnL lf22 rfl ?_
 repeat' (first|((with_reducible refine Go.red ?_);conv => whnf)|refine aG ?_|exact aCn|with_reducible refine Go.and ?_ ?_|((with_reducible refine Ask.mk ?_);first|exact aAsk|exact aAsk2|(intro h;simp_all [UnitS.cells,Graph.cells] <;> fail)|(simp_all [UnitS.cells,Graph.cells] <;> fail))|(apply Go.elem;(·(first|exact eg _|exact aElem)))|refine aK (h) ?_|refine aK (hrp) ?_|refine aH ?_|((with_reducible refine Go.bool ?_ ?_) <;> intro hc <;> (try simp only [List.length_map,ne_eq,hcs] at hc) <;> try (exfalso;omega)))
 refine ⟨frz_tup2.trans ?_⟩
 rw [frz_sc 5 (by simp [fitA])]
 refine congrArg (fun z => AV.tup [z,i64 0]) ?_
 refine (frz_at (e:=76) (d:=.any) (es:=[.agg (lookCells (u.gr t) t (classesU u))]) aRow rfl).trans ?_
 rw [frz_same _ (by rw [fitL,fitA,fitL];exact ⟨fit_lookCells _ _ _ _,trivial⟩)]
noncomputable def tabAv (u:UnitS) (t:Int) (T:Tab):AV:=if rightB u = true then (if t < 0 ∨ (u.graphs.length:Int) ≤ t then .tup [.im 1 .any [],i64 2] else .tup [.im 1 .any (T.map imB),i64 0]) else .tup [.im 1 .any [],i64 60]
theorem fit_tab (T:Tab):fitL 0 (T.map imB):=(fitL_map _ _).2 fun _ _ => by simp [imB,fitA,fitL_map]
theorem nil_tab {P:Program} {f:FuncId} {args:List AV} {n:Int} (h:Pure P f args (fun r => r = .tup [.sc (.slice none 0 0),i64 n])):Pure P f args (fun r => r = .tup [.im 1 .any [],i64 n]):=by
 refine pure_le (u:=.tup [.sc (.slice none 0 0),i64 n]) (h.mono fun r hr => .inl hr) (by simp [fitA,fitL]) fun c => ?_
 intro v hv
 rw [VR] at hv ⊢
 obtain ⟨vs,rfl,hv⟩:=hv
 refine ⟨vs,rfl,?_⟩
 rw [VRs] at hv ⊢
 obtain ⟨v1,vs1,e1,h1,h2⟩:=hv
 exact ⟨v1,vs1,e1,Abs.AVle.nilIm c c 1 .any _ h1,h2⟩
theorem Live_pure (u:UnitS) (hu:u.Wf) (t:Int):Pure Tryz.prog 17 [u.av,i64 t] (fun r => r = tabAv u t (liveT (u.gr t.toNat))):=by
 unfold tabAv
 by_cases hr:RightU u
 ·rw [if_pos (rightB_iff.2 hr)]
  by_cases ht:t < 0 ∨ (u.graphs.length:Int) ≤ t
  ·rw [if_pos ht]
   have ha:=asked_range u hu hr t ht
   refine nil_tab ?_
   refine Go.pureL lf17 rfl ?_
   repeat' (first|((with_reducible refine Go.red ?_);conv => whnf)|refine aG ?_|exact aCn|with_reducible refine Go.and ?_ ?_|((with_reducible refine Ask.mk ?_);first|exact aAsk|exact aAsk2|(intro h;simp_all [UnitS.cells] <;> fail)|(simp_all [UnitS.cells] <;> fail))|(apply Go.elem;(·exact aElem))|refine aK (ha) ?_|refine aH ?_|((with_reducible refine Go.bool ?_ ?_) <;> intro hc <;> (try simp only [List.length_map,ne_eq,hcs] at hc) <;> try (exfalso;omega)))
   exact rfl
  ·rw [if_neg ht]
   obtain ⟨k,rfl⟩:∃ k:Nat,t = k:=⟨t.toNat,by omega⟩
   rw [Int.toNat_natCast]
   have hk:k < u.graphs.length:=by omega
   have ha:=asked_ok u hu hr k hk
   have hgo:=hr.gr hk
   refine pure_of_call ?_ (by rw [fitA,fitL,fitL,fitL,fitA];exact ⟨fit_tab _,by simp [fitA],trivial⟩)
   refine Go.fnL lf17 rfl ?_
   repeat' (first|((with_reducible refine Go.red ?_);conv => whnf)|refine aG ?_|exact aCn|with_reducible refine Go.and ?_ ?_|((with_reducible refine Ask.mk ?_);first|exact aAsk|exact aAsk2|(intro h;simp_all [UnitS.cells] <;> fail)|(simp_all [UnitS.cells] <;> fail))|(apply Go.elem;(·exact aElem))|refine aK (ha) ?_|refine aH ?_|((with_reducible refine Go.bool ?_ ?_) <;> intro hc <;> (try simp only [List.length_map,ne_eq,hcs] at hc) <;> try (exfalso;omega)))
   refine Go.callN (live_call u (u.gr k) (hu.graphs _ (getD_mem' default hk)) hgo k (classesU u) _ _) ?_
   rintro _ H2 n2 ⟨b,rfl,hgr⟩
   obtain ⟨ids,h1,h2⟩:=hgr.at_
   repeat' (first|((with_reducible refine Go.red ?_);conv => whnf)|refine aG ?_|exact aC|with_reducible refine Go.and ?_ ?_|(apply Go.elem;(·exact aElem))|refine aH ?_|((with_reducible refine Go.bool ?_ ?_) <;> intro hc <;> (try simp only [List.length_map,ne_eq,hcs] at hc) <;> try (exfalso;omega)))
   refine ⟨frz_tup2.trans ?_⟩
   have hl:(liveT (u.gr k)).length = (u.gr k).nodes.length:=(shape_ahdT _ _ _ _).len
   rw [frz_sc 5 (by simp [fitA]),← hl]
   exact congrArg (fun z => AV.tup [z,i64 0]) (tab_frz (h1.keep fun x hx => aSkip) 3)
 ·rw [if_neg (mt rightB_iff.1 hr)]
  have ha:=asked_bad u hu hr t
  refine nil_tab ?_
  refine Go.pureL lf17 rfl ?_
  repeat' (first|((with_reducible refine Go.red ?_);conv => whnf)|refine aG ?_|exact aCn|with_reducible refine Go.and ?_ ?_|((with_reducible refine Ask.mk ?_);first|exact aAsk|exact aAsk2|(intro h;simp_all [UnitS.cells] <;> fail)|(simp_all [UnitS.cells] <;> fail))|(apply Go.elem;(·exact aElem))|refine aK (ha) ?_|refine aH ?_|((with_reducible refine Go.bool ?_ ?_) <;> intro hc <;> (try simp only [List.length_map,ne_eq,hcs] at hc) <;> try (exfalso;omega)))
  exact rfl
theorem Waits_pure (u:UnitS) (hu:u.Wf) (t:Int):Pure Tryz.prog 20 [u.av,i64 t] (fun r => r = tabAv u t (waitT (u.gr t.toNat) (classesU u) t.toNat)):=by
 unfold tabAv
 by_cases hr:RightU u
 ·rw [if_pos (rightB_iff.2 hr)]
  by_cases ht:t < 0 ∨ (u.graphs.length:Int) ≤ t
  ·rw [if_pos ht]
   have ha:=asked_range u hu hr t ht
   refine nil_tab ?_
   refine Go.pureL lf20 rfl ?_
   repeat' (first|((with_reducible refine Go.red ?_);conv => whnf)|refine aG ?_|exact aCn|with_reducible refine Go.and ?_ ?_|((with_reducible refine Ask.mk ?_);first|exact aAsk|exact aAsk2|(intro h;simp_all [UnitS.cells] <;> fail)|(simp_all [UnitS.cells] <;> fail))|(apply Go.elem;(·exact aElem))|refine aK (ha) ?_|refine aH ?_|((with_reducible refine Go.bool ?_ ?_) <;> intro hc <;> (try simp only [List.length_map,ne_eq,hcs] at hc) <;> try (exfalso;omega)))
   exact rfl
  ·rw [if_neg ht]
   obtain ⟨k,rfl⟩:∃ k:Nat,t = k:=⟨t.toNat,by omega⟩
   rw [Int.toNat_natCast]
   have hk:k < u.graphs.length:=by omega
   have ha:=asked_ok u hu hr k hk
   have hgo:=hr.gr hk
   have hfew:=hr.few
   have hcl:(classesU u).length = u.shared.length:=by simp [classesU]
   refine pure_of_call ?_ (by rw [fitA,fitL,fitL,fitL,fitA];exact ⟨fit_tab _,by simp [fitA],trivial⟩)
   refine Go.fnL lf20 rfl ?_
   repeat' (first|((with_reducible refine Go.red ?_);conv => whnf)|refine aG ?_|exact aCn|with_reducible refine Go.and ?_ ?_|((with_reducible refine Ask.mk ?_);first|exact aAsk|exact aAsk2|(intro h;simp_all [UnitS.cells] <;> fail)|(simp_all [UnitS.cells] <;> fail))|(apply Go.elem;(·exact aElem))|refine aK (ha) ?_|refine aH ?_|((with_reducible refine Go.bool ?_ ?_) <;> intro hc <;> (try simp only [List.length_map,ne_eq,hcs] at hc) <;> try (exfalso;omega)))
   refine Go.callN (waits_call u (u.gr k) (hu.graphs _ (getD_mem' default hk)) hgo k (classesU u) (by omega) _ _) ?_
   rintro _ H2 n2 ⟨b,rfl,hgr⟩
   obtain ⟨ids,h1,h2⟩:=hgr.at_
   repeat' (first|((with_reducible refine Go.red ?_);conv => whnf)|refine aG ?_|exact aC|with_reducible refine Go.and ?_ ?_|(apply Go.elem;(·exact aElem))|refine aH ?_|((with_reducible refine Go.bool ?_ ?_) <;> intro hc <;> (try simp only [List.length_map,ne_eq,hcs] at hc) <;> try (exfalso;omega)))
   refine ⟨frz_tup2.trans ?_⟩
   have hl:(waitT (u.gr k) (classesU u) k).length = (u.gr k).nodes.length:=(shape_ahdT _ _ _ _).len
   rw [frz_sc 5 (by simp [fitA]),← hl]
   exact congrArg (fun z => AV.tup [z,i64 0]) (tab_frz (h1.keep fun x hx => aSkip) 3)
 ·rw [if_neg (mt rightB_iff.1 hr)]
  have ha:=asked_bad u hu hr t
  refine nil_tab ?_
  refine Go.pureL lf20 rfl ?_
  repeat' (first|((with_reducible refine Go.red ?_);conv => whnf)|refine aG ?_|exact aCn|with_reducible refine Go.and ?_ ?_|((with_reducible refine Ask.mk ?_);first|exact aAsk|exact aAsk2|(intro h;simp_all [UnitS.cells] <;> fail)|(simp_all [UnitS.cells] <;> fail))|(apply Go.elem;(·exact aElem))|refine aK (ha) ?_|refine aH ?_|((with_reducible refine Go.bool ?_ ?_) <;> intro hc <;> (try simp only [List.length_map,ne_eq,hcs] at hc) <;> try (exfalso;omega)))
  exact rfl
end Go.Proofs.YtmonponfppdgfaaGreatDoor
end
section
/- The document's question of names: the walk. -/
namespace Go.Proofs.YtmonponfppdgfaaGreatDoor
open Go Go.Abs Go.Proofs
set_option linter.unusedSimpArgs false
set_option linter.unusedVariables false
abbrev strs (l:List ByteArray):List AV:=l.map fun s => st s
theorem str_at {l:List ByteArray} {i:Nat} (h:i < l.length) (d:AV):(strs l).getD ((i:Int)).toNat d = st (l.getD i default):=by rw [Int.toNat_natCast];exact getD_av (fun s => st s) l i d h
theorem strs_app (l:List ByteArray) (s:ByteArray):strs l ++ [st s] = strs (l ++ [s]):=by simp [strs]
theorem strs_len (l:List ByteArray):(strs l).length = l.length:=by simp [strs]
theorem dec_at' {l:List Decl} {i:Nat} (h:i < l.length) (d:AV):(l.map Decl.av).getD ((i:Int)).toNat d = (l.getD i default).av:=by rw [Int.toNat_natCast];exact getD_av Decl.av l i d h
def okN:List ByteArray→List Decl→Bool→Bool
 | _,[],_ => true
 | acc,d :: r,w => if (nameB d.name && (w || decide (d.word = 0)) && !memS acc d.name) = true then okN (acc ++ [d.name]) r w else false
def namD (l:List Decl) (i:Nat):List ByteArray:=(l.take i).map Decl.name
theorem okN_next {acc:List ByteArray} {l:List Decl} {w:Bool} {i:Nat} (h:i < l.length):okN acc (l.drop i) w = if (nameB (l.getD i default).name && (w || decide ((l.getD i default).word = 0)) && !memS acc (l.getD i default).name) = true then okN (acc ++ [(l.getD i default).name]) (l.drop (i + 1)) w else false:=by
 rw [List.drop_eq_getElem_cons h,okN,show l.getD i default = l[i] by simp [List.getD,h]]
theorem namD_next {l:List Decl} {i:Nat} (h:i < l.length):namD l (i + 1) = namD l i ++ [(l.getD i default).name]:=by
 unfold namD
 rw [List.take_succ_eq_append_getElem h,List.map_append,show l.getD i default = l[i] by simp [List.getD,h]];rfl
theorem namD_len {l:List Decl} {i:Nat} (h:i ≤ l.length):(namD l i).length = i:=by simp [namD];omega
theorem memS_take {l:List ByteArray} {k:Nat} (h:k < l.length) (s:ByteArray):memS (l.take (k + 1)) s = (memS (l.take k) s || decide (s = l.getD k default)):=by
 rw [Bool.eq_iff_iff,Bool.or_eq_true,memS_iff,memS_iff,decide_eq_true_eq,List.take_succ_eq_append_getElem h,List.mem_append,show l.getD k default = l[k] by simp [List.getD,h]]
 simp
theorem beqB' (a b:ByteArray):(a == b) = decide (a = b):=by
 obtain ⟨d⟩:=a
 obtain ⟨d'⟩:=b
 show (d == d') = _
 rw [Bool.eq_iff_iff]
 simp
def ToldS (nv:AV) (L:List ByteArray) (H:Hp) (nx:Nat):Prop:=(nv = .sc (.slice none 0 0)∧L = []) ∨ ∃ b d,nv = .sl b L.length∧b < nx∧getH H b = some (.row 9 1 d (strs L))
def ApartS (nv:AV) (y:Nat):Prop:=∀ b n,nv = .sl b n→y ≠ b
theorem apart_sl {b n y:Nat} (h:ApartS (.sl b n) y):y ≠ b:=h b n rfl
theorem apart_of {b n m y:Nat} (h:ApartS (.sl b n) y):ApartS (.sl b m) y:=fun b' n' e => by cases e;exact h b n rfl
set_option maxRecDepth 4000 in
set_option maxHeartbeats 8000000 in
theorem rnamed_call (l:List Decl) (hl:l.length ≤ 64) (hw:∀ d ∈ l,d.Wf) (a0:List ByteArray) (ha:a0.length ≤ 1000) (w:Bool) (nv0:AV) (H0:Hp) (nx:Nat) (ht0:ToldS nv0 a0 H0 nx):CallN Tryz.prog 55 [declsAv l,nv0,bl w] H0 nx (fun r H n => nx ≤ n∧(∀ y,y < nx→ApartS nv0 y→getH H y = getH H0 y)∧(okN a0 l w = true→∃ nv,r = .tup [nv,bl true]∧ToldS nv (a0 ++ l.map Decl.name) H n∧∀ y,y < nx→ApartS nv0 y→ApartS nv y)∧(okN a0 l w = false→r = .tup [.sc (.slice none 0 0),bl false])):=by
 have hml:(l.map Decl.av).length = l.length:=by simp
 refine Go.fnL lf55 rfl ?_
 repeat' (first|((with_reducible refine Go.red ?_);conv => whnf)|refine aG ?_|exact aC|with_reducible refine Go.and ?_ ?_|(apply Go.elem;(·exact aElem))|refine aH ?_|((with_reducible refine Go.bool ?_ ?_) <;> intro hc <;> (try simp only [List.length_map,ne_eq,hcs] at hc) <;> try (exfalso;omega)))
 refine Go.loop (fun σ:Nat × AV => [(0,declsAv l),(1,σ.2),(2,bl w),(8,i64 σ.1)])
  (fun σ H n => σ.1 ≤ l.length∧nx ≤ n∧okN (a0 ++ namD l σ.1) (l.drop σ.1) w = okN a0 l w∧ToldS σ.2 (a0 ++ namD l σ.1) H n∧(∀ y,y < nx→ApartS nv0 y→ApartS σ.2 y)∧∀ y,y < nx→ApartS nv0 y→getH H y = getH H0 y) (fun σ => l.length - σ.1) (0,nv0) aLess ⟨Nat.zero_le _,aNx,by simp [namD],?_,fun _ _ h => h,fun y hy _ => aSkip⟩ ?_
 ·rw [show a0 ++ namD l (0:Nat) = a0 by simp [namD]]
  rcases ht0 with h|⟨b,d,h1,h2,h3⟩
  ·exact .inl h
  ·exact .inr ⟨b,d,h1,Nat.lt_of_lt_of_le h2 aNx,Eq.trans aSkip h3⟩
 rintro ⟨i,nv⟩ H n ⟨hi,hnn,hok,htold,hap,hkp⟩
 dsimp only at hi hok htold hap ⊢
 have hLl:(a0 ++ namD l i).length = a0.length + i:=by rw [List.length_append,namD_len hi]
 by_cases hil:i < l.length
 ·have ed:=fun d => dec_at' (l:=l) hil d
  have hdw:=hw _ (getD_mem' default hil)
  have hnm:=rname_pure (l.getD i default).name hdw.name
  rw [okN_next hil] at hok
  have hnx:a0 ++ namD l (i + 1) = (a0 ++ namD l i) ++ [(l.getD i default).name]:=by rw [namD_next hil,List.append_assoc]
  generalize hL:a0 ++ namD l i = L at *
  generalize l.getD i default = dd at *
  have hsl:(strs L).length = L.length:=strs_len L
  rcases htold with ⟨rfl,hL0⟩|⟨b,d,rfl,hbn,hb⟩
  ·have hL0l:L.length = 0:=by rw [hL0];rfl
   repeat' (first|((with_reducible refine Go.red ?_);conv => whnf)|refine aG ?_|exact aCn|with_reducible refine Go.and ?_ ?_|((with_reducible refine Ask.mk ?_);first|exact aAsk|(exact hml)|(exact hsl)|exact aAsk2|(intro h;simp_all [Decl.cells] <;> fail)|(simp_all [Decl.cells] <;> fail))|(apply Go.elem;(·(first|exact ed _|exact aElem)))|refine aK (hnm) ?_|refine aH ?_|((with_reducible refine Go.bool ?_ ?_) <;> intro hc <;> (try simp only [List.length_map,ne_eq,hcs] at hc) <;> try (exfalso;omega)))
   refine Go.loop (fun σ:Nat × Bool => [(0,declsAv l),(1,.sc (.slice none 0 0)),(2,bl w),(8,i64 i),(9,bl σ.2),(10,i64 σ.1)])
    (fun σ H2 n2 => σ.1 ≤ L.length∧n ≤ n2∧σ.2 = (nameB dd.name && (w || decide (dd.word = 0)) && !memS (L.take σ.1) dd.name)∧∀ y,y < nx→ApartS nv0 y→getH H2 y = getH H0 y) (fun σ => L.length - σ.1) (0,(if nameB dd.name = true then (if w = true then true else decide (dd.word = 0)) else false)) aLess ⟨Nat.zero_le _,aNx,by cases nameB dd.name <;> cases w <;> simp [memS],fun y hy h => Eq.trans aSkip (hkp y hy h)⟩ ?_
   rintro ⟨k,okv⟩ H2 n2 ⟨hk,hn2,hokv,hkp2⟩
   dsimp only at hk hokv ⊢
   by_cases hkl:k < L.length
   ·exfalso;omega
   ·have:k = L.length:=by omega
    subst this
    rw [List.take_length] at hokv
    rw [← hokv] at hok
    cases okv with
    | false =>
     rw [if_neg (by decide)] at hok
     repeat' (first|((with_reducible refine Go.red ?_);conv => whnf)|refine aG ?_|exact aC|with_reducible refine Go.and ?_ ?_|(apply Go.elem;(·exact aElem))|refine aH ?_|((with_reducible refine Go.bool ?_ ?_) <;> intro hc <;> (try simp only [List.length_map,ne_eq,hcs] at hc) <;> try (exfalso;omega)))
     first|refine ⟨?_,?_,?_,?_⟩|refine ⟨⟨?_,?_,?_,?_⟩⟩
     ·exact Nat.le_trans (Nat.le_trans hnn hn2) aNx
     ·exact fun y hy h => Eq.trans aSkip (hkp2 y hy h)
     ·intro h;rw [← hok] at h;cases h
     ·exact fun _ => rfl
    | true =>
     rw [if_pos rfl] at hok
     repeat' (first|((with_reducible refine Go.red ?_);conv => whnf)|refine aG ?_|exact aCn|with_reducible refine Go.and ?_ ?_|((with_reducible refine Ask.mk ?_);first|exact aAsk|(exact hml)|(exact hsl)|exact aAsk2|(intro h;simp_all [Decl.cells] <;> fail)|(simp_all [Decl.cells] <;> fail))|(apply Go.elem;(·(first|exact ed _|exact aElem)))|refine aH ?_|((with_reducible refine Go.bool ?_ ?_) <;> intro hc <;> (try simp only [List.length_map,ne_eq,hcs] at hc) <;> try (exfalso;omega)))
     refine ⟨(i + 1,.sl (n2 + 13) ([dd.name]:List ByteArray).length),by dsimp only;omega,aLess,by dsimp only;omega,Nat.le_trans (Nat.le_trans hnn hn2) aNx,by dsimp only;rw [hnx];exact hok,?_,fun y hy h => ?_,fun y hy h => Eq.trans aSkip (hkp2 y hy h)⟩
     ·rw [hnx,hL0];exact .inr ⟨n2 + 13,_,rfl,aNx,aRow⟩
     ·intro b' n' e;cases e;omega
  ·repeat' (first|((with_reducible refine Go.red ?_);conv => whnf)|refine aG ?_|exact aCn|with_reducible refine Go.and ?_ ?_|((with_reducible refine Ask.mk ?_);first|exact aAsk|(exact hml)|(exact hsl)|exact aAsk2|(intro h;simp_all [Decl.cells] <;> fail)|(simp_all [Decl.cells] <;> fail))|(apply Go.elem;(·(first|exact ed _|exact aElem)))|refine aK (hnm) ?_|refine aH ?_|((with_reducible refine Go.bool ?_ ?_) <;> intro hc <;> (try simp only [List.length_map,ne_eq,hcs] at hc) <;> try (exfalso;omega)))
   refine Go.loop (fun σ:Nat × Bool => [(0,declsAv l),(1,.sl b L.length),(2,bl w),(8,i64 i),(9,bl σ.2),(10,i64 σ.1)])
    (fun σ H2 n2 => σ.1 ≤ L.length∧n ≤ n2∧σ.2 = (nameB dd.name && (w || decide (dd.word = 0)) && !memS (L.take σ.1) dd.name)∧(∃ d,getH H2 b = some (.row 9 1 d (strs L)))∧∀ y,y < nx→ApartS nv0 y→getH H2 y = getH H0 y) (fun σ => L.length - σ.1) (0,(if nameB dd.name = true then (if w = true then true else decide (dd.word = 0)) else false)) aLess ⟨Nat.zero_le _,aNx,by cases nameB dd.name <;> cases w <;> simp [memS],⟨_,aRow⟩,fun y hy h => Eq.trans aSkip (hkp y hy h)⟩ ?_
   rintro ⟨k,okv⟩ H2 n2 ⟨hk,hn2,hokv,⟨d2,hb2⟩,hkp2⟩
   dsimp only at hk hokv ⊢
   by_cases hkl:k < L.length
   ·have es:=fun d => str_at (l:=L) hkl d
    have hstep:(if okv = true then !(L.getD k default == dd.name) else false) = (nameB dd.name && (w || decide (dd.word = 0)) && !memS (L.take (k + 1)) dd.name):=by
     rw [memS_take hkl,beqB',hokv]
     have:decide (L.getD k default = dd.name) = decide (dd.name = L.getD k default):=decide_eq_decide.2 ⟨Eq.symm,Eq.symm⟩
     rw [this]
     cases nameB dd.name <;> cases (w || decide (dd.word = 0)) <;> cases memS (L.take k) dd.name <;> cases decide (dd.name = L.getD k default) <;> rfl
    repeat' (first|((with_reducible refine Go.red ?_);conv => whnf)|refine aG ?_|exact aCn|with_reducible refine Go.and ?_ ?_|((with_reducible refine Ask.mk ?_);first|exact aAsk|(exact hml)|(exact hsl)|exact aAsk2|(intro h;simp_all [Decl.cells] <;> fail)|(simp_all [Decl.cells] <;> fail))|(apply Go.elem;(·(first|exact ed _|exact es _|exact aElem)))|refine aH ?_|((with_reducible refine Go.bool ?_ ?_) <;> intro hc <;> (try simp only [List.length_map,ne_eq,hcs] at hc) <;> try (exfalso;omega)))
    exact ⟨(k + 1,if okv = true then !(L.getD k default == dd.name) else false),by dsimp only;omega,aLess,by dsimp only;omega,by first|omega|exact aNx,hstep,⟨_,aRow⟩,fun y hy h => Eq.trans aSkip (hkp2 y hy h)⟩
   ·have:k = L.length:=by omega
    subst this
    rw [List.take_length] at hokv
    rw [← hokv] at hok
    cases okv with
    | false =>
     rw [if_neg (by decide)] at hok
     repeat' (first|((with_reducible refine Go.red ?_);conv => whnf)|refine aG ?_|exact aC|with_reducible refine Go.and ?_ ?_|(apply Go.elem;(·exact aElem))|refine aH ?_|((with_reducible refine Go.bool ?_ ?_) <;> intro hc <;> (try simp only [List.length_map,ne_eq,hcs] at hc) <;> try (exfalso;omega)))
     first|refine ⟨?_,?_,?_,?_⟩|refine ⟨⟨?_,?_,?_,?_⟩⟩
     ·exact Nat.le_trans (Nat.le_trans hnn hn2) aNx
     ·exact fun y hy h => Eq.trans aSkip (hkp2 y hy h)
     ·intro h;rw [← hok] at h;cases h
     ·exact fun _ => rfl
    | true =>
     rw [if_pos rfl] at hok
     repeat' (first|((with_reducible refine Go.red ?_);conv => whnf)|refine aG ?_|exact aCn|with_reducible refine Go.and ?_ ?_|((with_reducible refine Ask.mk ?_);first|exact aAsk|(exact hml)|(exact hsl)|exact aAsk2|(intro h;simp_all [Decl.cells] <;> fail)|(simp_all [Decl.cells] <;> fail))|(apply Go.elem;(·(first|exact ed _|exact aElem)))|refine aH ?_|((with_reducible refine Go.bool ?_ ?_) <;> intro hc <;> (try simp only [List.length_map,ne_eq,hcs] at hc) <;> try (exfalso;omega)))
     refine ⟨(i + 1,.sl b (L ++ [dd.name]).length),by dsimp only;omega,by rw [List.length_append];exact aLess,by dsimp only;omega,Nat.le_trans (Nat.le_trans hnn hn2) aNx,by dsimp only;rw [hnx];exact hok,?_,fun y hy h => apart_of (hap y hy h),fun y hy h => ?_⟩
     ·rw [hnx];exact .inr ⟨b,_,rfl,Nat.lt_of_lt_of_le hbn (Nat.le_trans hn2 aNx),by rw [← strs_app];exact aRow⟩
     ·have hyb:=apart_sl (hap y hy h)
      exact Eq.trans aSkip (hkp2 y hy h)
 ·have:i = l.length:=by omega
  subst this
  rw [List.drop_eq_nil_of_le (Nat.le_refl _),okN] at hok
  have hall:namD l l.length = l.map Decl.name:=by simp [namD]
  rw [hall] at htold
  rcases htold with ⟨rfl,hL0⟩|⟨b,d,rfl,hbn,hb⟩
  ·repeat' (first|((with_reducible refine Go.red ?_);conv => whnf)|refine aG ?_|exact aCn|with_reducible refine Go.and ?_ ?_|((with_reducible refine Ask.mk ?_);first|exact aAsk|(exact hml)|exact aAsk2)|(apply Go.elem;(·exact aElem))|refine aH ?_|((with_reducible refine Go.bool ?_ ?_) <;> intro hc <;> (try simp only [List.length_map,ne_eq,hcs] at hc) <;> try (exfalso;omega)))
   first|refine ⟨?_,?_,?_,?_⟩|refine ⟨⟨?_,?_,?_,?_⟩⟩
   ·exact Nat.le_trans hnn aNx
   ·exact fun y hy h => Eq.trans aSkip (hkp y hy h)
   ·exact fun _ => ⟨_,rfl,.inl ⟨rfl,hL0⟩,hap⟩
   ·intro h;rw [← hok] at h;cases h
  ·repeat' (first|((with_reducible refine Go.red ?_);conv => whnf)|refine aG ?_|exact aCn|with_reducible refine Go.and ?_ ?_|((with_reducible refine Ask.mk ?_);first|exact aAsk|(exact hml)|exact aAsk2)|(apply Go.elem;(·exact aElem))|refine aH ?_|((with_reducible refine Go.bool ?_ ?_) <;> intro hc <;> (try simp only [List.length_map,ne_eq,hcs] at hc) <;> try (exfalso;omega)))
   first|refine ⟨?_,?_,?_,?_⟩|refine ⟨⟨?_,?_,?_,?_⟩⟩
   ·exact Nat.le_trans hnn aNx
   ·exact fun y hy h => Eq.trans aSkip (hkp y hy h)
   ·exact fun _ => ⟨_,rfl,.inr ⟨b,d,rfl,Nat.lt_of_lt_of_le hbn aNx,aRow⟩,hap⟩
   ·intro h;rw [← hok] at h;cases h
end Go.Proofs.YtmonponfppdgfaaGreatDoor
end
