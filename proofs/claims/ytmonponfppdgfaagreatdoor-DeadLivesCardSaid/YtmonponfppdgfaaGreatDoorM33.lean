import Derived.Test.YtmonponfppdgfaaGreatDoorM32
import Derived.Test.YtmonponfppdgfaaGreatDoorM30
import Derived.Test.YtmonponfppdgfaaGreatDoorM28
section
/- Is a unit right? The document's walk. -/
namespace Go.Proofs.YtmonponfppdgfaaGreatDoor
open Go Go.Abs Go.Proofs
set_option linter.unusedSimpArgs false
set_option linter.unusedVariables false
theorem rheld_pure (g:Graph) (hg:g.Wf) (hw:Whole g):Pure Tryz.prog 57 [g.av] (fun r => r = heldAv (heldG g)):=by
 have h:=rheld_call g hg hw
 have fL:∀ L:List (List Int),fitL 0 (L.map imF):=fun L => (fitL_map _ _).2 fun _ _ => by simp [imF,fitA,fitL_map]
 have fh:∀ r,fitA 0 (heldAv r):=fun r => by simp only [heldAv,fitA,fitL];exact ⟨fL _,trivial,trivial⟩
 by_cases hc:(heldG g).1 = []
 ·refine pure_le (u:=.tup [.sc (.slice none 0 0),i64 (heldG g).2]) (pure_or (h.mono ?_) (by simp [fitA,fitL]) (fh _)) (fh _) fun c => ?_
  ·rintro r H n (⟨a,rfl,e⟩|⟨b,d,L,rfl,e,hb⟩)
   ·left;rw [e];exact frz_fit _ (by simp [fitA,fitL])
   ·right
    rw [e]
    have e1:Abs.frz H 6 (.tup [.sl b L.length,i64 (-1)]) = .tup [Abs.frz H 5 (.sl b L.length),i64 (-1)]:=by
     simp only [frz,List.map_cons,List.map_nil]
    rw [e1,frz_sl hb (by simp),frz_same _ (fL L)]
    rfl
  ·unfold heldAv
   rw [hc]
   intro v hv
   rw [VR] at hv ⊢
   obtain ⟨vs,rfl,hv⟩:=hv
   refine ⟨vs,rfl,?_⟩
   rw [VRs] at hv ⊢
   obtain ⟨v1,vs1,e1,h1,h2⟩:=hv
   exact ⟨v1,vs1,e1,Abs.AVle.nilIm c c 1 .any _ h1,h2⟩
 ·refine pure_of_call (h.mono ?_) (fh _)
  rintro r H n (⟨a,rfl,e⟩|⟨b,d,L,rfl,e,hb⟩)
  ·rw [e] at hc;exact absurd rfl hc
  ·rw [e]
   have e1:Abs.frz H 6 (.tup [.sl b L.length,i64 (-1)]) = .tup [Abs.frz H 5 (.sl b L.length),i64 (-1)]:=by
    simp only [frz,List.map_cons,List.map_nil]
   rw [e1,frz_sl hb (by simp),frz_same _ (fL L)]
   rfl
theorem okN_all (acc:List ByteArray) (l:List Decl) (w:Bool):okN acc l w = (addAll acc (l.map Decl.name) && (w || l.all fun d => decide (d.word = 0))):=by
 induction l generalizing acc with
 | nil => simp [okN,addAll]
 | cons d r ih =>
  rw [okN,List.map_cons,addAll,ih,List.all_cons]
  cases nameB d.name <;> cases w <;> cases memS acc d.name <;> cases decide (d.word = 0) <;> cases addAll (acc ++ [d.name]) (r.map Decl.name) <;> simp
theorem addAll_app (acc a b:List ByteArray):addAll acc (a ++ b) = (addAll acc a && addAll (acc ++ a) b):=by
 induction a generalizing acc with
 | nil => simp [addAll]
 | cons s r ih =>
  rw [List.cons_append,addAll,addAll,ih,List.append_assoc,List.singleton_append]
  split <;> simp
def thrD (u:UnitS):List Decl:=u.graphs.map fun g => ⟨g.name,0,0⟩
theorem thrD_name (u:UnitS):(thrD u).map Decl.name = u.graphs.map Graph.name:=by simp [thrD,List.map_map,Function.comp_def]
theorem thrD_len (u:UnitS):(thrD u).length = u.graphs.length:=by simp [thrD]
theorem thrD_next {u:UnitS} {t:Nat} (h:t < u.graphs.length):(thrD u).take (t + 1) = (thrD u).take t ++ [⟨(u.gr t).name,0,0⟩]:=by
 rw [List.take_succ_eq_append_getElem (by rw [thrD_len];exact h)]
 simp [thrD,UnitS.gr,List.getD,h]
theorem named3 (u:UnitS) (h1:u.shared.length ≤ 64) (h2:u.locks.length ≤ 16) (h3:u.graphs.length ≤ 8) {L1 L2:List ByteArray}
 (e1:L1 = if okN [] u.shared true = true then [] ++ u.shared.map Decl.name else [])
 (e2:L2 = if okN L1 u.locks false = true then L1 ++ u.locks.map Decl.name else []) :
 (okN [] u.shared true && okN L1 u.locks false && okN L2 (thrD u) false) = namedB u:=by
 unfold namedB
 rw [decide_eq_true h1,decide_eq_true h2,decide_eq_true h3,namesU,addAll_app,addAll_app]
 have ht:(thrD u).all (fun d => decide (d.word = 0)) = true:=by simp [thrD]
 rw [okN_all L2,ht,thrD_name,Bool.or_true,Bool.and_true]
 rw [okN_all []] at e1 ⊢
 rw [okN_all L1] at e2 ⊢
 simp only [Bool.true_or,Bool.and_true,List.nil_append,Bool.true_and,Bool.false_or] at e1 e2 ⊢
 cases ha:addAll [] (u.shared.map Decl.name) with
 | false => simp
 | true =>
  rw [ha,if_pos rfl] at e1
  subst e1
  cases hb:addAll (u.shared.map Decl.name) (u.locks.map Decl.name) with
  | false => simp
  | true =>
   rw [hb] at e2
   cases hc:u.locks.all (fun d => decide (d.word = 0)) with
   | false => simp
   | true =>
    rw [hc,if_pos (by rfl)] at e2
    subst e2
    simp
theorem Wk.tupHead {a a2:AV} {l:List AV} {H H2:Hp} {nx nx2:Nat} (h:Wk a H nx a2 H2 nx2):Wk (.tup (a :: l)) H nx (.tup (a2 :: l)) H2 nx2:=by
 intro w0 ρ U w M0 hU hS
 obtain ⟨ρ2,U2,k1,k2,k3,k4⟩:=h w0 ρ U w M0 hU hS
 refine ⟨ρ2,U2,k1,k2,k3,fun v hv => ?_⟩
 rw [VR] at hv ⊢
 obtain ⟨vs,rfl,hv⟩:=hv
 refine ⟨vs,rfl,?_⟩
 rw [VRs] at hv ⊢
 obtain ⟨v1,vs1,e1,h1,h2⟩:=hv
 exact ⟨v1,vs1,e1,k4 _ h1,VRs.keep k3 h2⟩
theorem rnamed2 (l:List Decl) (hl:l.length ≤ 64) (hw:∀ d ∈ l,d.Wf) (a0:List ByteArray) (ha:a0.length ≤ 1000) (w:Bool) (nv0:AV) (H0:Hp) (nx:Nat) (ht0:ToldS nv0 a0 H0 nx):CallN Tryz.prog 55 [declsAv l,nv0,bl w] H0 nx (fun r H n => ∃ b d L,r = .tup [.sl b L.length,bl (okN a0 l w)]∧b < n∧getH H b = some (.row 9 1 d (strs L))∧L = (if okN a0 l w = true then a0 ++ l.map Decl.name else [])∧nx ≤ n∧∀ y,y < nx→ApartS nv0 y→getH H y = getH H0 y∧y ≠ b):=by
 refine (rnamed_call l hl hw a0 ha w nv0 H0 nx ht0).wk ?_
 rintro r H n ⟨h1,h2,h3,h4⟩
 have hnil:∀ bb:Bool,∀ L:List ByteArray,L = []→∃ r2 H2 n2,Wk (.tup [.sc (.slice none 0 0),bl bb]) H n r2 H2 n2∧∃ b d,r2 = .tup [.sl b L.length,bl bb]∧b < n2∧getH H2 b = some (.row 9 1 d (strs L))∧nx ≤ n2∧∀ y,y < nx→ApartS nv0 y→getH H2 y = getH H0 y∧y ≠ b:=by
  rintro bb L rfl
  refine ⟨_,_,_,Wk.tupHead (Wk.nil 9 1 .any (by omega)),n,.any,rfl,Nat.lt_succ_self _,getH_here _ _ _,Nat.le_succ_of_le h1,fun y a b => ?_⟩
  have hne:y ≠ n:=by omega
  exact ⟨(getH_skipEq hne).trans (h2 y a b),hne⟩
 cases hk:okN a0 l w with
 | true =>
  obtain ⟨nv,rfl,ht,hy⟩:=h3 hk
  rcases ht with ⟨rfl,hL⟩|⟨b,d,rfl,hbn,hb⟩
  ·obtain ⟨r2,H2,n2,k1,b,d,k2,k3,k4,k5,k6⟩:=hnil true _ hL
   exact ⟨r2,H2,n2,k1,b,d,_,k2,k3,k4,by rw [if_pos rfl],k5,k6⟩
  ·exact ⟨_,_,_,Wk.refl _ _ _,b,d,_,rfl,hbn,hb,by rw [if_pos rfl],h1,fun y a c => ⟨h2 y a c,apart_sl (hy y a c)⟩⟩
 | false =>
  rw [h4 hk]
  obtain ⟨r2,H2,n2,k1,b,d,k2,k3,k4,k5,k6⟩:=hnil false [] rfl
  exact ⟨r2,H2,n2,k1,b,d,_,k2,k3,k4,by rw [if_neg (by decide)],k5,k6⟩
set_option maxRecDepth 8000 in
set_option maxHeartbeats 8000000 in
theorem rcheck_pure (u:UnitS) (hu:u.Wf):Pure Tryz.prog 30 [u.av] (fun r => r = check3 (checkU u)):=by
 refine Go.pureL lf30 rfl ?_
 have hgl9:=hu.graphslen
 have hsl9:=hu.sharedlen
 have hll9:=hu.lockslen
 by_cases hsz:u.shared.length ≤ 64∧u.locks.length ≤ 16∧u.graphs.length ≤ 8
 ·obtain ⟨hs1,hs2,hs3⟩:=hsz
  have hgm:(u.graphs.map Graph.av).length = u.graphs.length:=by simp
  repeat' (first|((with_reducible refine Go.red ?_);conv => whnf)|refine aG ?_|exact aCn|with_reducible refine Go.and ?_ ?_|((with_reducible refine Ask.mk ?_);first|exact aAsk|exact aAsk2|(intro h;simp_all [UnitS.cells] <;> fail)|(simp_all [UnitS.cells] <;> fail))|(apply Go.elem;(·exact aElem))|refine aH ?_|((with_reducible refine Go.bool ?_ ?_) <;> intro hc <;> (try simp only [List.length_map,ne_eq,hcs] at hc) <;> try (exfalso;omega)))
  all_goals first|(exfalso;omega)|skip
  refine Go.loopF (fun σ:Nat × AV => [(1,.pt 0 1 0 0),(5,σ.2),(6,i64 σ.1)])
   (fun σ H n => 23 ≤ n∧(∃ d,getH H 0 = some (.row 25 3 d [u.av]))∧((σ.1 < u.graphs.length∧σ.2 = .sl 22 σ.1∧∃ d,getH H 22 = some (.row 48 3 d (((thrD u).take σ.1).map Decl.av))) ∨ (σ.1 = u.graphs.length∧σ.2 = declsAv (thrD u)))) (fun σ => u.graphs.length - σ.1) (0,if u.graphs.length = 0 then declsAv (thrD u) else .sl 22 0) ?_ ?_
  ·by_cases h0:u.graphs.length = 0
   ·have hz:thrD u = []:=List.length_eq_zero_iff.1 (by rw [thrD_len];exact h0)
    rw [if_pos h0,hz]
    exact ⟨_,_,_,(Rt.nil 5 48 3 (by omega) rfl).trans (Rt.iceSl 5 22 0 (e:=48) (sz:=3) (d:=.any) (es:=[]) rfl aRow rfl),aLess,aNx,⟨_,aRow⟩,.inr ⟨h0.symm,rfl⟩⟩
   ·rw [if_neg h0]
    exact ⟨_,_,_,Rt.nil 5 48 3 (by omega) rfl,aLess,aNx,⟨_,aRow⟩,.inl ⟨by dsimp only;omega,rfl,_,by simp only [List.take_zero,List.map_nil];exact aRow⟩⟩
  clear hc
  rintro ⟨t,av⟩ H n ⟨hn,⟨d0,r0⟩,hst⟩
  dsimp only at hst ⊢
  rcases hst with ⟨htl,rfl,d5,r5⟩|⟨ht,rfl⟩
  ·have eg:=fun d => gr_at (l:=u.graphs) htl d
   rw [show u.graphs.getD t default = u.gr t from rfl] at eg
   have hnx:=thrD_next htl
   have htm:(((thrD u).take t).map Decl.av).length = t:=by rw [List.length_map,List.length_take,thrD_len];omega
   have hap:(((thrD u).take t).map Decl.av) ++ [(⟨(u.gr t).name,0,0⟩:Decl).av] = (((thrD u).take (t + 1)).map Decl.av):=by rw [hnx];simp
   have hal:(((thrD u).take (t + 1)).map Decl.av).length = t + 1:=by rw [List.length_map,List.length_take,thrD_len];omega
   have hap2:=hap
   unfold Decl.av Decl.cells at hap2
   repeat' (first|((with_reducible refine Go.red ?_);conv => whnf)|refine aG ?_|exact aCn|with_reducible refine Go.and ?_ ?_|((with_reducible refine Ask.mk ?_);first|exact aAsk|(exact hgm)|(exact htm)|exact aAsk2|(intro h;simp_all [UnitS.cells,Graph.cells] <;> fail)|(simp_all [UnitS.cells,Graph.cells] <;> fail))|(apply Go.elem;(·(first|exact eg _|exact aElem)))|refine aH ?_|((with_reducible refine Go.bool ?_ ?_) <;> intro hc <;> (try simp only [List.length_map,ne_eq,hcs] at hc) <;> try (exfalso;omega)))
   by_cases hlast:t + 1 = u.graphs.length
   ·have hz:(thrD u).take (t + 1) = thrD u:=List.take_of_length_le (by rw [thrD_len];omega)
    rw [hz] at hap
    exact ⟨(t + 1,declsAv (thrD u)),by dsimp only;omega,_,_,_,Rt.iceSl 5 22 (t + 1) (e:=48) (sz:=3) (es:=(thrD u).map Decl.av) rfl (by rw [← hap];exact aRow) (by rw [List.length_map,thrD_len];omega),aLess,aNx,⟨_,aRow⟩,.inr ⟨hlast,rfl⟩⟩
   ·exact ⟨(t + 1,.sl 22 (t + 1)),by dsimp only;omega,_,_,_,Rt.refl _ _ _,aLess,aNx,⟨_,aRow⟩,.inl ⟨by dsimp only;omega,rfl,_,by dsimp only;rw [← hap];exact aRow⟩⟩
  ·subst ht
   repeat' (first|((with_reducible refine Go.red ?_);conv => whnf)|refine aG ?_|exact aCn|with_reducible refine Go.and ?_ ?_|((with_reducible refine Ask.mk ?_);first|exact aAsk|(exact hgm)|exact aAsk2|(intro h;simp_all [UnitS.cells] <;> fail)|(simp_all [UnitS.cells] <;> fail))|(apply Go.elem;(·exact aElem))|refine aH ?_|((with_reducible refine Go.bool ?_ ?_) <;> intro hc <;> (try simp only [List.length_map,ne_eq,hcs] at hc) <;> try (exfalso;omega)))
   refine Go.callN (rnamed2 u.shared hs1 hu.shared [] (by simp) true _ _ _ (.inl ⟨rfl,rfl⟩)) ?_
   rintro _ H1 n1 ⟨b1,d1,L1,rfl,hb1,hr1,hL1,hn1,hy1⟩
   obtain ⟨k1,a1⟩:=hy1 0 (by first|omega|exact aNx) (fun b' n' e => by cases e)
   have r1:∃ d,getH H1 0 = some (.row 25 3 d [u.av]):=⟨_,k1.trans aRow⟩
   have hnn1:23 ≤ n1:=Nat.le_trans (by first|omega|exact aNx) hn1
   have hl1:L1.length ≤ 64:=by rw [hL1];split <;> simp <;> omega
   clear k1 hy1 r0 hn1
   obtain ⟨d1',r1⟩:=r1
   generalize hok1:okN [] u.shared true = o1 at *
   repeat' (first|((with_reducible refine Go.red ?_);conv => whnf)|refine aG ?_|exact aCn|with_reducible refine Go.and ?_ ?_|((with_reducible refine Ask.mk ?_);first|exact aAsk|exact aAsk2|(intro h;simp_all [UnitS.cells] <;> fail)|(simp_all [UnitS.cells] <;> fail))|(apply Go.elem;(·exact aElem))|refine aH ?_|((with_reducible refine Go.bool ?_ ?_) <;> intro hc <;> (try simp only [List.length_map,ne_eq,hcs] at hc) <;> try (exfalso;omega)))
   refine Go.callN (rnamed2 u.locks (by omega) hu.locks L1 (by omega) false _ _ _ (.inr ⟨b1,_,rfl,Nat.lt_of_lt_of_le hb1 aNx,aRow⟩)) ?_
   rintro _ H2 n2 ⟨b2,d2,L2,rfl,hb2,hr2,hL2,hn2,hy2⟩
   obtain ⟨k2,a2⟩:=hy2 0 (by first|omega|exact aNx) (fun b' n' e => by cases e;exact a1)
   have r2:∃ d,getH H2 0 = some (.row 25 3 d [u.av]):=⟨_,k2.trans aRow⟩
   have hnn2:23 ≤ n2:=Nat.le_trans (by first|omega|exact aNx) hn2
   have hl2:L2.length ≤ 128:=by rw [hL2];split <;> simp <;> omega
   clear k2 hy2 r1 hr1 hn2
   obtain ⟨d2',r2⟩:=r2
   generalize hok2:okN L1 u.locks false = o2 at *
   repeat' (first|((with_reducible refine Go.red ?_);conv => whnf)|refine aG ?_|exact aCn|with_reducible refine Go.and ?_ ?_|((with_reducible refine Ask.mk ?_);first|exact aAsk|exact aAsk2|(intro h;simp_all [UnitS.cells] <;> fail)|(simp_all [UnitS.cells] <;> fail))|(apply Go.elem;(·exact aElem))|refine aH ?_|((with_reducible refine Go.bool ?_ ?_) <;> intro hc <;> (try simp only [List.length_map,ne_eq,hcs] at hc) <;> try (exfalso;omega)))
   refine Go.callN (rnamed2 (thrD u) (by rw [thrD_len];omega) (fun d hd => ?_) L2 (by omega) false _ _ _ (.inr ⟨b2,_,rfl,Nat.lt_of_lt_of_le hb2 aNx,aRow⟩)) ?_
   ·obtain ⟨g,hg,rfl⟩:=List.mem_map.1 hd
    have hz:wf64 0:=by unfold wf64;omega
    exact ⟨(hu.graphs g hg).name,hz,hz⟩
   rintro _ H3 n3 ⟨b3,d3,L3,rfl,hb3,hr3,hL3,hn3,hy3⟩
   obtain ⟨k3,a3⟩:=hy3 0 (by first|omega|exact aNx) (fun b' n' e => by cases e;exact a2)
   have r3:∃ d,getH H3 0 = some (.row 25 3 d [u.av]):=⟨_,k3.trans aRow⟩
   have hnn3:23 ≤ n3:=Nat.le_trans (by first|omega|exact aNx) hn3
   clear k3 hy3 r2 hr2 hr3 hn3
   obtain ⟨d3',r3⟩:=r3
   generalize hok3:okN L2 (thrD u) false = o3 at *
   have hnm:(o1 && o2 && o3) = namedB u:=by
    rw [← named3 u hs1 hs2 hs3 (L1:=L1) (L2:=L2) (by rw [hok1];exact hL1) (by rw [hok2];exact hL2),hok1,hok2,hok3]
   clear hL1 hL2 hL3 hok1 hok2 hok3
   cases hnb:namedB u with
   | false =>
    rw [checkU_named hnb]
    rw [hnb] at hnm
    repeat' (first|((with_reducible refine Go.red ?_);conv => whnf)|refine aG ?_|exact aCn|with_reducible refine Go.and ?_ ?_|((with_reducible refine Ask.mk ?_);first|exact aAsk|exact aAsk2|(intro h;simp_all [UnitS.cells] <;> fail)|(simp_all [UnitS.cells] <;> fail))|(apply Go.elem;(·exact aElem))|refine aH ?_|((with_reducible refine Go.bool ?_ ?_) <;> intro hc <;> (try simp only [List.length_map,ne_eq,hcs] at hc) <;> try (exfalso;omega)))
    ·exact rfl
    ·exfalso
     obtain ⟨hc1,hc2⟩:=hc
     subst hc2
     cases o1 <;> cases o2 <;> simp_all
   | true =>
    rw [hnb] at hnm
    have e1:o1 = true:=by cases o1;cases hnm;rfl
    have e2:o2 = true:=by cases o2;cases o1 <;> cases hnm;rfl
    have e3:o3 = true:=by cases o3;cases o1 <;> cases o2 <;> cases hnm;rfl
    subst e1;subst e2;subst e3
    have hck:checkU u = graphsF u u.graphs 0:=by unfold checkU;rw [if_pos hnb]
    rw [hck]
    repeat' (first|((with_reducible refine Go.red ?_);conv => whnf)|refine aG ?_|exact aCn|with_reducible refine Go.and ?_ ?_|((with_reducible refine Ask.mk ?_);first|exact aAsk|exact aAsk2|(intro h;simp_all [UnitS.cells] <;> fail)|(simp_all [UnitS.cells] <;> fail))|(apply Go.elem;(·exact aElem))|refine aH ?_|((with_reducible refine Go.bool ?_ ?_) <;> intro hc <;> (try simp only [List.length_map,ne_eq,hcs] at hc) <;> try (exfalso;omega)))
    refine Go.loop (fun t:Nat => [(1,.pt 0 1 0 0),(12,i64 t)])
     (fun t H n => t ≤ u.graphs.length∧1 ≤ n∧(∃ d,getH H 0 = some (.row 25 3 d [u.av]))∧graphsF u (u.graphs.drop t) t = graphsF u u.graphs 0) (fun t => u.graphs.length - t) 0 aLess ⟨Nat.zero_le _,aNx,⟨_,aRow⟩,rfl⟩ ?_
    clear r3
    rintro t H n ⟨ht,hn,⟨d0,r0⟩,hF⟩
    by_cases htl:t < u.graphs.length
    ·have hg:=hu.graphs _ (getD_mem' default htl)
     rw [graphsF_next htl] at hF
     have eg:=fun d => gr_at htl d
     generalize hG:u.graphs.getD t default = g at *
     have hl:=hg.len
     have hnm':(g.nodes.map Node.av).length = g.nodes.length:=by simp
     unfold graphF at hF
     by_cases hb:g.locals < 0 ∨ g.locals > 64 ∨ g.slots < g.locals ∨ g.slots > 4160 ∨ g.nodes.length < 1 ∨ g.nodes.length > 4096
     ·rw [if_pos hb] at hF
      rw [← hF]
      repeat' (first|((with_reducible refine Go.red ?_);conv => whnf)|refine aG ?_|exact aCn|with_reducible refine Go.and ?_ ?_|((with_reducible refine Ask.mk ?_);first|exact aAsk|(exact hgm)|(exact hnm')|exact aAsk2|(intro h;simp_all [UnitS.cells,Graph.cells] <;> fail)|(simp_all [UnitS.cells,Graph.cells] <;> fail))|(apply Go.elem;(·(first|exact eg _|exact aElem)))|refine aH ?_|((with_reducible refine Go.bool ?_ ?_) <;> intro hc <;> (try simp only [List.length_map,ne_eq,hcs] at hc) <;> try (exfalso;omega)))
      all_goals first|exact rfl|(exfalso;omega)
     ·rw [if_neg hb] at hF
      repeat' (first|((with_reducible refine Go.red ?_);conv => whnf)|refine aG ?_|exact aCn|with_reducible refine Go.and ?_ ?_|((with_reducible refine Ask.mk ?_);first|exact aAsk|(exact hgm)|(exact hnm')|exact aAsk2|(intro h;simp_all [UnitS.cells,Graph.cells] <;> fail)|(simp_all [UnitS.cells,Graph.cells] <;> fail))|(apply Go.elem;(·(first|exact eg _|exact aElem)))|refine aH ?_|((with_reducible refine Go.bool ?_ ?_) <;> intro hc <;> (try simp only [List.length_map,ne_eq,hcs] at hc) <;> try (exfalso;omega)))
      all_goals first|(exfalso;omega)|skip
      refine Go.loop (fun i:Nat => [(1,.pt 0 1 0 0),(12,i64 t),(13,.pt (n + 10) 1 0 0),(14,i64 i)])
       (fun i H2 n2 => i ≤ g.nodes.length∧n + 11 ≤ n2∧(∃ d,getH H2 0 = some (.row 25 3 d [u.av]))∧(∃ d,getH H2 (n + 10) = some (.row 40 4 d [g.av]))∧fstNot (nodeB u g) (g.nodes.drop i) i = fstNot (nodeB u g) g.nodes 0) (fun i => g.nodes.length - i) 0 aLess ⟨Nat.zero_le _,aNx,⟨_,aRow⟩,⟨_,aRow⟩,rfl⟩ ?_
      clear r0
      rintro i H2 n2 ⟨hi,hn2,⟨d02,r0⟩,⟨d4,r4⟩,hfst⟩
      by_cases hil:i < g.nodes.length
      ·have hp:=rnode_pure u g (g.nodes.getD i default) (hg.nodes _ (getD_mem' default hil))
       have en:=fun d => nd_at hil d
       have hfst2:=fstNot_get default hfst hil
       cases hnb:nodeB u g (g.nodes.getD i default) with
       | false =>
        rw [hnb] at hp
        rw [if_neg (by rw [hnb];decide)] at hfst2
        rw [hfst2] at hF
        rw [← hF]
        repeat' (first|((with_reducible refine Go.red ?_);conv => whnf)|refine aG ?_|exact aCn|with_reducible refine Go.and ?_ ?_|((with_reducible refine Ask.mk ?_);first|exact aAsk|(exact hnm')|exact aAsk2|(intro h;simp_all [UnitS.cells,Graph.cells,Node.cells] <;> fail)|(simp_all [UnitS.cells,Graph.cells,Node.cells] <;> fail))|(apply Go.elem;(·(first|exact en _|exact aElem)))|refine aK (hp) ?_|refine aH ?_|((with_reducible refine Go.bool ?_ ?_) <;> intro hc <;> (try simp only [List.length_map,ne_eq,hcs] at hc) <;> try (exfalso;omega)))
        exact rfl
       | true =>
        rw [hnb] at hp
        rw [if_pos hnb] at hfst2
        repeat' (first|((with_reducible refine Go.red ?_);conv => whnf)|refine aG ?_|exact aCn|with_reducible refine Go.and ?_ ?_|((with_reducible refine Ask.mk ?_);first|exact aAsk|(exact hnm')|exact aAsk2|(intro h;simp_all [UnitS.cells,Graph.cells,Node.cells] <;> fail)|(simp_all [UnitS.cells,Graph.cells,Node.cells] <;> fail))|(apply Go.elem;(·(first|exact en _|exact aElem)))|refine aK (hp) ?_|refine aH ?_|((with_reducible refine Go.bool ?_ ?_) <;> intro hc <;> (try simp only [List.length_map,ne_eq,hcs] at hc) <;> try (exfalso;omega)))
        exact ⟨i + 1,by omega,aLess,by omega,aNx,⟨_,aRow⟩,⟨_,aRow⟩,hfst2.symm⟩
      ·have:i = g.nodes.length:=by omega
       subst this
       rw [fstNot_end _ _ (Nat.le_refl _)] at hfst
       rw [← hfst] at hF
       dsimp only at hF
       have hok:Whole g:=whole_of (u:=u) (by omega) fun m hm => nodeB_iff.1 (fstNot_none.1 hfst.symm m hm)
       have hh:=rheld_pure g hg hok
       unfold heldAv at hh
       by_cases hb2:0 ≤ (heldG g).2
       ·rw [if_pos hb2] at hF
        rw [← hF]
        repeat' (first|((with_reducible refine Go.red ?_);conv => whnf)|refine aG ?_|exact aCn|with_reducible refine Go.and ?_ ?_|((with_reducible refine Ask.mk ?_);first|exact aAsk|(exact hnm')|exact aAsk2|(intro h;simp_all [UnitS.cells,Graph.cells] <;> fail)|(simp_all [UnitS.cells,Graph.cells] <;> fail))|(apply Go.elem;(·exact aElem))|refine aK (hh) ?_|refine aH ?_|((with_reducible refine Go.bool ?_ ?_) <;> intro hc <;> (try simp only [List.length_map,ne_eq,hcs] at hc) <;> try (exfalso;omega)))
        exact rfl
       ·rw [if_neg hb2] at hF
        repeat' (first|((with_reducible refine Go.red ?_);conv => whnf)|refine aG ?_|exact aCn|with_reducible refine Go.and ?_ ?_|((with_reducible refine Ask.mk ?_);first|exact aAsk|(exact hnm')|exact aAsk2|(intro h;simp_all [UnitS.cells,Graph.cells] <;> fail)|(simp_all [UnitS.cells,Graph.cells] <;> fail))|(apply Go.elem;(·exact aElem))|refine aK (hh) ?_|refine aH ?_|((with_reducible refine Go.bool ?_ ?_) <;> intro hc <;> (try simp only [List.length_map,ne_eq,hcs] at hc) <;> try (exfalso;omega)))
        exact ⟨t + 1,by omega,aLess,by omega,by omega,⟨_,aRow⟩,hF⟩
    ·have:t = u.graphs.length:=by omega
     subst this
     rw [List.drop_eq_nil_of_le (Nat.le_refl _),graphsF] at hF
     rw [← hF]
     repeat' (first|((with_reducible refine Go.red ?_);conv => whnf)|refine aG ?_|exact aCn|with_reducible refine Go.and ?_ ?_|((with_reducible refine Ask.mk ?_);first|exact aAsk|(exact hgm)|exact aAsk2|(intro h;simp_all [UnitS.cells] <;> fail)|(simp_all [UnitS.cells] <;> fail))|(apply Go.elem;(·exact aElem))|refine aH ?_|((with_reducible refine Go.bool ?_ ?_) <;> intro hc <;> (try simp only [List.length_map,ne_eq,hcs] at hc) <;> try (exfalso;omega)))
     exact rfl
 ·have hb:namedB u = false:=by
   unfold namedB
   by_cases e1:u.shared.length ≤ 64
   ·by_cases e2:u.locks.length ≤ 16
    ·have e3:¬ u.graphs.length ≤ 8:=fun e => hsz ⟨e1,e2,e⟩
     simp [e3]
    ·simp [e2]
   ·simp [e1]
  rw [checkU_named hb]
  repeat' (first|((with_reducible refine Go.red ?_);conv => whnf)|refine aG ?_|exact aCn|with_reducible refine Go.and ?_ ?_|((with_reducible refine Ask.mk ?_);first|exact aAsk|exact aAsk2|(intro h;simp_all [UnitS.cells] <;> fail)|(simp_all [UnitS.cells] <;> fail))|(apply Go.elem;(·exact aElem))|refine aH ?_|((with_reducible refine Go.bool ?_ ?_) <;> intro hc <;> (try simp only [List.length_map,ne_eq,hcs] at hc) <;> try (exfalso;omega)))
  all_goals first|exact rfl|(exfalso;omega)
end Go.Proofs.YtmonponfppdgfaaGreatDoor
end
section
/- What is reached, by the document: the walk. -/
namespace Go.Proofs.YtmonponfppdgfaaGreatDoor
open Go Go.Abs Go.Proofs
set_option linter.unusedSimpArgs false
set_option linter.unusedVariables false
set_option maxRecDepth 4000 in
set_option maxHeartbeats 4000000 in
theorem rwhole_pure (g:Graph) (hg:g.Wf) (hw:Whole g):Pure Tryz.prog 82 [g.av] (fun r => r = bl true):=by
 have hl:=hg.len
 have hl0:=hw.1
 have hl1:=hw.2.1
 refine Go.pureL lf82 rfl ?_
 repeat' (first|((with_reducible refine Go.red ?_);conv => whnf)|refine aG ?_|exact aCn|with_reducible refine Go.and ?_ ?_|((with_reducible refine Ask.mk ?_);first|exact aAsk|exact aAsk2|(intro h;simp_all [Graph.cells] <;> fail)|(simp_all [Graph.cells] <;> fail))|(apply Go.elem;(·exact aElem))|refine aH ?_|((with_reducible refine Go.bool ?_ ?_) <;> intro hc <;> (try simp only [List.length_map,ne_eq,hcs] at hc) <;> try (exfalso;omega)))
 refine Go.loop (fun i:Nat => [(1,.pt 0 1 0 0),(3,i64 i)])
  (fun i H n => i ≤ g.nodes.length∧1 ≤ n∧∃ d,getH H 0 = some (.row 40 4 d [g.av])) (fun i => g.nodes.length - i) 0 aLess ⟨Nat.zero_le _,aNx,⟨_,aRow⟩⟩ ?_
 rintro i H n ⟨hi,hn,⟨d0,r0⟩⟩
 by_cases hil:i < g.nodes.length
 ·have en:=fun d => nd_at (l:=g.nodes) hil d
  obtain ⟨k1,k2,k3⟩:=hw.2.2 i hil
  have k1:1 ≤ (g.nodes.getD i default).kind:=k1
  have k2:(g.nodes.getD i default).kind < 10:=k2
  have hf:=rfollows_pure (g.nd i)
  have hfl:=fol_len (g.nd i)
  unfold imF at hf
  repeat' (first|((with_reducible refine Go.red ?_);conv => whnf)|refine aG ?_|exact aCn|with_reducible refine Go.and ?_ ?_|((with_reducible refine Ask.mk ?_);first|exact aAsk|exact aAsk2|(intro h;simp_all [Graph.cells,Node.cells] <;> fail)|(simp_all [Graph.cells,Node.cells] <;> fail))|(apply Go.elem;(·(first|exact en _|exact aElem)))|refine aK (hf) ?_|refine aH ?_|((with_reducible refine Go.bool ?_ ?_) <;> intro hc <;> (try simp only [List.length_map,ne_eq,hcs] at hc) <;> try (exfalso;omega)))
  clear hf
  refine Go.loop (fun j:Nat => [(1,.pt 0 1 0 0),(3,i64 i),(5,.im 1 .any ((g.nd i).fol.map i64)),(6,i64 j)])
   (fun j H2 n2 => j ≤ (g.nd i).fol.length∧n ≤ n2∧∃ d,getH H2 0 = some (.row 40 4 d [g.av])) (fun j => (g.nd i).fol.length - j) 0 aLess ⟨Nat.zero_le _,aNx,⟨_,aRow⟩⟩ ?_
  rintro j H2 n2 ⟨hj,hn2,⟨d02,r02⟩⟩
  by_cases hjl:j < (g.nd i).fol.length
  ·have ej:=fun d => int_at (l:=(g.nd i).fol) hjl d
   have hk:=k3 _ (getD_mem' (0:Int) hjl)
   generalize (g.nd i).fol.getD j 0 = y at *
   repeat' (first|((with_reducible refine Go.red ?_);conv => whnf)|refine aG ?_|exact aCn|with_reducible refine Go.and ?_ ?_|((with_reducible refine Ask.mk ?_);first|exact aAsk|exact aAsk2|(intro h;simp_all [Graph.cells] <;> fail)|(simp_all [Graph.cells] <;> fail))|(apply Go.elem;(·(first|exact ej _|exact aElem)))|refine aH ?_|((with_reducible refine Go.bool ?_ ?_) <;> intro hc <;> (try simp only [List.length_map,ne_eq,hcs] at hc) <;> try (exfalso;omega)))
   exact ⟨j + 1,by omega,aLess,by omega,aNx,⟨_,aRow⟩⟩
  ·have:j = (g.nd i).fol.length:=by omega
   subst this
   repeat' (first|((with_reducible refine Go.red ?_);conv => whnf)|refine aG ?_|exact aCn|with_reducible refine Go.and ?_ ?_|((with_reducible refine Ask.mk ?_);first|exact aAsk|exact aAsk2|(intro h;simp_all [Graph.cells] <;> fail)|(simp_all [Graph.cells] <;> fail))|(apply Go.elem;(·exact aElem))|refine aH ?_|((with_reducible refine Go.bool ?_ ?_) <;> intro hc <;> (try simp only [List.length_map,ne_eq,hcs] at hc) <;> try (exfalso;omega)))
   exact ⟨i + 1,by omega,aLess,by omega,aNx,⟨_,aRow⟩⟩
 ·have:i = g.nodes.length:=by omega
  subst this
  repeat' (first|((with_reducible refine Go.red ?_);conv => whnf)|refine aG ?_|exact aCn|with_reducible refine Go.and ?_ ?_|((with_reducible refine Ask.mk ?_);first|exact aAsk|exact aAsk2|(intro h;simp_all [Graph.cells] <;> fail)|(simp_all [Graph.cells] <;> fail))|(apply Go.elem;(·exact aElem))|refine aH ?_|((with_reducible refine Go.bool ?_ ?_) <;> intro hc <;> (try simp only [List.length_map,ne_eq,hcs] at hc) <;> try (exfalso;omega)))
  exact rfl
set_option maxRecDepth 4000 in
set_option maxHeartbeats 4000000 in
theorem rwithout_pure (g:Graph) (hg:g.Wf) (hw:Whole g):Pure Tryz.prog 83 [g.av,i64 (-1)] (fun r => r = imB (reachL g (-1))):=by
 have hl:=hg.len
 have hl0:=hw.1
 have hl1:=hw.2.1
 have hrep:∀ d,(List.replicate (((List.map Node.av g.nodes).length:Nat):Int).toNat (zav false [Value.bool false])).getD (Int.toNat 0) d = bl false:=fun d => by
  rw [Int.toNat_natCast,show Int.toNat 0 = 0 from rfl,List.length_map,List.getD,List.getElem?_replicate,if_pos (by omega)];rfl
 refine pure_of_call ?_ (by simp [imB,fitA,fitL_map])
 refine Go.fnL lf83 rfl ?_
 repeat' (first|((with_reducible refine Go.red ?_);conv => whnf)|refine aG ?_|exact aCn|with_reducible refine Go.and ?_ ?_|((with_reducible refine Ask.mk ?_);first|exact aAsk|exact aAsk2|(intro h;simp_all [Graph.cells] <;> fail)|(simp_all [Graph.cells] <;> fail))|(apply Go.elem;(·(first|exact hrep _|exact aElem)))|refine aH ?_|((with_reducible refine Go.bool ?_ ?_) <;> intro hc <;> (try simp only [List.length_map,ne_eq,hcs] at hc) <;> try (exfalso;omega)))
 simp only [List.length_map,Int.toNat_natCast]
 have hst:(List.replicate g.nodes.length (zav false [Value.bool false])).set (Int.toNat 0) (AV.sc (Value.bool true)) = ((List.replicate g.nodes.length false).set 0 true).map bl:=by
  rw [List.map_set,List.map_replicate];rfl
 refine Go.loop (fun σ:Nat × List Bool × List Int => [(1,i64 (-1)),(2,.pt 0 1 0 0),(5,.sl 5 g.nodes.length),(6,.sl 10 σ.2.2.length),(7,i64 σ.1)])
  (fun σ H n => 11 ≤ n∧σ.1 ≤ σ.2.2.length∧Going g (-1) σ.2.1 (σ.2.2.drop σ.1)∧σ.2.2.length + σ.2.1.count false = g.nodes.length∧(∃ d,getH H 0 = some (.row 40 4 d [g.av]))∧(∃ d,getH H 5 = some (.row 4 1 d (σ.2.1.map bl)))∧∃ d,getH H 10 = some (.row 3 1 d (σ.2.2.map i64)))
  (fun σ => g.nodes.length - σ.1) (0,(List.replicate g.nodes.length false).set 0 true,[0]) aLess ⟨aNx,Nat.zero_le _,Going.start hw,?_,⟨_,aRow⟩,⟨_,by rw [← hst];exact aRow⟩,⟨_,aRow⟩⟩ ?_
 ·have:=count_set (l:=List.replicate g.nodes.length false) (i:=0) (by simp;omega) (by simp [List.getD,List.getElem?_replicate];split <;> rfl)
  simp only [List.count_replicate_self] at this
  simp only [List.length_cons,List.length_nil]
  omega
 rintro ⟨k,out,todo⟩ H n ⟨hn,hk,hgo,hcnt,⟨d0,r0⟩,⟨d5,r5⟩,⟨d10,r10⟩⟩
 dsimp only at hk hgo hcnt r5 r10 ⊢
 have hol:=hgo.len
 have hml:(todo.map i64).length = todo.length:=by simp
 have holm:(out.map bl).length = g.nodes.length:=by simp [hol]
 by_cases hkl:k < todo.length
 ·have hdr:todo.drop k = [] ++ todo.getD k 0 :: todo.drop (k + 1):=by rw [List.drop_eq_getElem_cons hkl,gd hkl];rfl
  obtain ⟨x0,x1,x2⟩:=hgo.inr (todo.getD k 0) (by rw [hdr];simp)
  rw [hol] at x1
  have et:=fun d => int_at (l:=todo) hkl d
  generalize hx:todo.getD k 0 = x at *
  have en:=fun d => nd_at (l:=g.nodes) x1 d
  have hf:=rfollows_pure (g.nd x.toNat)
  have hfl:=fol_len (g.nd x.toNat)
  unfold imF at hf
  repeat' (first|((with_reducible refine Go.red ?_);conv => whnf)|refine aG ?_|exact aCn|with_reducible refine Go.and ?_ ?_|((with_reducible refine Ask.mk ?_);first|exact aAsk|(exact hml)|exact aAsk2|(intro h;simp_all [Graph.cells,Node.cells] <;> fail)|(simp_all [Graph.cells,Node.cells] <;> fail))|(apply Go.elem;(·(first|exact et _|exact en _|exact aElem)))|refine aK (hf) ?_|refine aH ?_|((with_reducible refine Go.bool ?_ ?_) <;> intro hc <;> (try simp only [List.length_map,ne_eq,hcs] at hc) <;> try (exfalso;omega)))
  clear hf
  refine Go.loop (fun q:(List Bool × List Int) × Nat => [(1,i64 (-1)),(2,.pt 0 1 0 0),(5,.sl 5 g.nodes.length),(6,.sl 10 q.1.2.length),(7,i64 k),(8,.im 1 .any ((g.nd x.toNat).fol.map i64)),(9,i64 q.2)])
   (fun q H2 n2 => 11 ≤ n2∧q.2 ≤ (g.nd x.toNat).fol.length∧q.1.1.length = g.nodes.length∧q.1.2.length + q.1.1.count false = g.nodes.length∧spTo ((g.nd x.toNat).fol.drop q.2) q.1 = spTo (g.nd x.toNat).fol (out,todo)∧(∃ d,getH H2 0 = some (.row 40 4 d [g.av]))∧(∃ d,getH H2 5 = some (.row 4 1 d (q.1.1.map bl)))∧∃ d,getH H2 10 = some (.row 3 1 d (q.1.2.map i64)))
   (fun q => (g.nd x.toNat).fol.length - q.2) ((out,todo),0) aLess ⟨aNx,Nat.zero_le _,hol,hcnt,rfl,⟨_,aRow⟩,⟨_,aRow⟩,⟨_,aRow⟩⟩ ?_
  clear r0 r5 r10
  rintro ⟨⟨o2,t2⟩,j⟩ H2 n2 ⟨hn2,hj,ho2,hc2,hsp,⟨d0,r0⟩,⟨d5,r5⟩,⟨d10,r10⟩⟩
  dsimp only at hj ho2 hc2 hsp r5 r10 ⊢
  have hol2:(o2.map bl).length = g.nodes.length:=by simp [ho2]
  have htl2:(t2.map i64).length = t2.length:=by simp
  by_cases hjl:j < (g.nd x.toNat).fol.length
  ·obtain ⟨y0,y1⟩:=(hw.2.2 x.toNat x1).2.2 _ (getD_mem' 0 hjl)
   have ej:=fun d => int_at (l:=(g.nd x.toNat).fol) hjl d
   have ek:=fun d => bool_at (l:=o2) (k:=(g.nd x.toNat).fol.getD j 0) d (by rw [ho2];exact y1)
   rw [spTo_drop _ _ hjl] at hsp
   generalize (g.nd x.toNat).fol.getD j 0 = y at *
   cases hfd:fnd o2 y with
   | true =>
    rw [if_neg (by rw [hfd];decide)] at hsp
    rw [hfd] at ek
    repeat' (first|((with_reducible refine Go.red ?_);conv => whnf)|refine aG ?_|exact aCn|with_reducible refine Go.and ?_ ?_|((with_reducible refine Ask.mk ?_);first|exact aAsk|(exact hol2)|exact aAsk2)|(apply Go.elem;(·(first|exact ej _|exact ek _|exact aElem)))|refine aH ?_|((with_reducible refine Go.bool ?_ ?_) <;> intro hc <;> (try simp only [List.length_map,ne_eq,hcs] at hc) <;> try (exfalso;omega)))
    exact ⟨((o2,t2),j + 1),by dsimp only;omega,aLess,aNx,by dsimp only;omega,ho2,hc2,hsp,⟨_,aRow⟩,⟨_,aRow⟩,⟨_,aRow⟩⟩
   | false =>
    rw [if_pos hfd] at hsp
    rw [hfd] at ek
    have hct:=count_set (l:=o2) (i:=y.toNat) (by rw [ho2];exact y1) hfd
    repeat' (first|((with_reducible refine Go.red ?_);conv => whnf)|refine aG ?_|exact aCn|with_reducible refine Go.and ?_ ?_|((with_reducible refine Ask.mk ?_);first|exact aAsk|(exact hol2)|exact aAsk2)|(apply Go.elem;(·(first|exact ej _|exact ek _|exact aElem)))|refine aH ?_|((with_reducible refine Go.bool ?_ ?_) <;> intro hc <;> (try simp only [List.length_map,ne_eq,hcs] at hc) <;> try (exfalso;omega)))
    refine ⟨((o2.set y.toNat true,t2 ++ [y]),j + 1),by dsimp only;omega,aLess,aNx,by dsimp only;omega,by simp [ho2],?_,hsp,⟨_,aRow⟩,⟨_,by rw [← bool_set];exact aRow⟩,⟨_,by rw [← ints_app];exact aRow⟩⟩
    simp only [List.length_append,List.length_cons,List.length_nil]
    omega
  ·have:j = (g.nd x.toNat).fol.length:=by omega
   subst this
   rw [List.drop_eq_nil_of_le (Nat.le_refl _),spTo] at hsp
   have sp:=spTo_spread (g.nd x.toNat).fol (out,todo) (fun k hk => by have:=(hw.2.2 x.toNat x1).2.2 k hk;rw [← hol] at this;exact this)
   rw [← hsp] at sp
   obtain ⟨t',e1,_,_,e4⟩:=sp.more
   dsimp only at e1 e4
   have hon:=hgo.on hw (a:=[]) hdr (by omega) hsp.symm e1
   dsimp only at hon
   have hdr2:t2.drop (k + 1) = [] ++ todo.drop (k + 1) ++ t':=by rw [e1,List.drop_append_of_le_length (by omega)];rfl
   rw [← hdr2] at hon
   have hlt:t2.length = todo.length + t'.length:=by rw [e1,List.length_append]
   repeat' (first|((with_reducible refine Go.red ?_);conv => whnf)|refine aG ?_|exact aC|with_reducible refine Go.and ?_ ?_|(apply Go.elem;(·exact aElem))|refine aH ?_|((with_reducible refine Go.bool ?_ ?_) <;> intro hc <;> (try simp only [List.length_map,ne_eq,hcs] at hc) <;> try (exfalso;omega)))
   exact ⟨(k + 1,o2,t2),by dsimp only;omega,aLess,aNx,by dsimp only;omega,hon,hc2,⟨_,aRow⟩,⟨_,aRow⟩,⟨_,aRow⟩⟩
 ·have:k = todo.length:=by omega
  subst this
  rw [List.drop_eq_nil_of_le (Nat.le_refl _)] at hgo
  have hfin:=hgo.fin hw
  subst hfin
  repeat' (first|((with_reducible refine Go.red ?_);conv => whnf)|refine aG ?_|exact aC|with_reducible refine Go.and ?_ ?_|(apply Go.elem;(·exact aElem))|refine aH ?_|((with_reducible refine Go.bool ?_ ?_) <;> intro hc <;> (try simp only [List.length_map,ne_eq,hcs] at hc) <;> try (exfalso;omega)))
  refine ⟨(frz_sl aRow holm).trans ?_⟩
  rw [frz_same _ (fit_bools _ _)];rfl
theorem rreached_pure (g:Graph) (hg:g.Wf) (hw:Whole g):Pure Tryz.prog 48 [g.av] (fun r => r = imB (reachL g (-1))):=by
 have h1:=rwhole_pure g hg hw
 have h2:=rwithout_pure g hg hw
 refine Go.pureL lf48 rfl ?_
 repeat' (first|((with_reducible refine Go.red ?_);conv => whnf)|refine aG ?_|exact aCn|with_reducible refine Go.and ?_ ?_|((with_reducible refine Ask.mk ?_);first|exact aAsk|exact aAsk2|(intro h;simp_all [Graph.cells] <;> fail)|(simp_all [Graph.cells] <;> fail))|(apply Go.elem;(·exact aElem))|refine aK (h1) ?_|refine aK (h2) ?_|refine aH ?_|((with_reducible refine Go.bool ?_ ?_) <;> intro hc <;> (try simp only [List.length_map,ne_eq,hcs] at hc) <;> try (exfalso;omega)))
 exact Res.eq (by simp [imB,fitA,fitL_map]) rfl
end Go.Proofs.YtmonponfppdgfaaGreatDoor
end
section
/- The document's lists of locks. -/
namespace Go.Proofs.YtmonponfppdgfaaGreatDoor
open Go Go.Abs Go.Proofs
set_option linter.unusedSimpArgs false
set_option linter.unusedVariables false
set_option maxRecDepth 4000 in
theorem rhas_pure (l:List Int) (hl:l.length ≤ 5000) (n:Int):Pure Tryz.prog 81 [imF l,i64 n] (fun r => r = bl (decide (n ∈ l))):=by
 refine Go.pureL lf81 rfl ?_
 have hm:(l.map i64).length = l.length:=by simp
 unfold imF
 repeat' (first|((with_reducible refine Go.red ?_);conv => whnf)|refine aG ?_|exact aC|with_reducible refine Go.and ?_ ?_|(apply Go.elem;(·exact aElem))|refine aH ?_|((with_reducible refine Go.bool ?_ ?_) <;> intro hc <;> (try simp only [List.length_map,ne_eq,hcs] at hc) <;> try (exfalso;omega)))
 refine Go.loop (fun i:Nat => [(0,imF l),(1,i64 n),(5,i64 i)])
  (fun i H m => i ≤ l.length∧∀ j,j < i→l.getD j 0 ≠ n) (fun i => l.length - i) 0 aLess ⟨Nat.zero_le _,fun j hj => by omega⟩ ?_
 rintro i H m ⟨hi,hall⟩
 unfold imF
 by_cases hil:i < l.length
 ·have ei:=fun d => int_at hil d
  repeat' (first|((with_reducible refine Go.red ?_);conv => whnf)|refine aG ?_|exact aCn|with_reducible refine Go.and ?_ ?_|((with_reducible refine Ask.mk ?_);first|exact aAsk|(exact hm)|exact aAsk2)|(apply Go.elem;(·(first|exact ei _|exact aElem)))|refine aH ?_|((with_reducible refine Go.bool ?_ ?_) <;> intro hc <;> (try simp only [List.length_map,ne_eq,hcs] at hc) <;> try (exfalso;omega)))
  ·refine bl_eq (Eq.symm (decide_eq_true ?_))
   rw [← hc];exact getD_mem' 0 hil
  ·refine ⟨i + 1,by omega,aLess,by omega,fun j hj => ?_⟩
   by_cases e:j = i
   ·subst e;exact hc
   ·exact hall j (by omega)
 ·have:i = l.length:=by omega
  subst this
  repeat' (first|((with_reducible refine Go.red ?_);conv => whnf)|refine aG ?_|exact aCn|with_reducible refine Go.and ?_ ?_|((with_reducible refine Ask.mk ?_);first|exact aAsk|(exact hm)|exact aAsk2)|(apply Go.elem;(·exact aElem))|refine aH ?_|((with_reducible refine Go.bool ?_ ?_) <;> intro hc <;> (try simp only [List.length_map,ne_eq,hcs] at hc) <;> try (exfalso;omega)))
  refine bl_eq (Eq.symm (decide_eq_false fun h => ?_))
  obtain ⟨j,hj,e⟩:=List.getElem_of_mem h
  exact hall j hj (by simpa [List.getD,hj] using e)
def insAt (out:List Int) (x:Int):Nat:=(out.takeWhile fun y => decide (y < x)).length
theorem insAt_eq {out:List Int} {x:Int} {p:Nat} (h1:p ≤ out.length) (h2:∀ j,j < p→out.getD j 0 < x) (h3:p = out.length ∨ ¬ out.getD p 0 < x):insAt out x = p:=by
 unfold insAt
 induction out generalizing p with
 | nil => simp at h1;simp [h1]
 | cons a r ih =>
  rw [List.takeWhile_cons]
  cases p with
  | zero =>
   rcases h3 with h3|h3
   ·simp at h3
   ·have:¬ a < x:=by simpa [List.getD] using h3
    simp [this]
  | succ q =>
   have ha:a < x:=by simpa [List.getD] using h2 0 (by omega)
   rw [if_pos (by simpa using ha),List.length_cons]
   rw [ih (p:=q) (by simpa using h1) (fun j hj => by simpa [List.getD] using h2 (j + 1) (by omega)) (by
    rcases h3 with h3|h3
    ·left;simpa using h3
    ·right;simpa [List.getD] using h3)]
theorem insAt_le (out:List Int) (x:Int):insAt out x ≤ out.length:=by
 unfold insAt
 exact (List.takeWhile_prefix _).length_le
def insR (out:List Int) (x:Int):List Int:=if insAt out x < out.length∧out.getD (insAt out x) 0 = x then out else out.take (insAt out x) ++ [x] ++ out.drop (insAt out x)
theorem insR_mem (out:List Int) (x z:Int):z ∈ insR out x ↔ z ∈ out ∨ z = x:=by
 unfold insR
 by_cases h:insAt out x < out.length∧out.getD (insAt out x) 0 = x
 ·rw [if_pos h]
  refine ⟨.inl,fun e => e.elim id fun e => ?_⟩
  rw [e,← h.2];exact getD_mem' 0 h.1
 ·rw [if_neg h]
  have hz:z ∈ out ↔ z ∈ out.take (insAt out x) ∨ z ∈ out.drop (insAt out x):=by
   rw [← List.mem_append,List.take_append_drop]
  rw [hz]
  simp only [List.mem_append,List.mem_cons,List.not_mem_nil,or_false]
  constructor
  ·rintro ((a|a)|a)
   ·exact .inl (.inl a)
   ·exact .inr a
   ·exact .inl (.inr a)
  ·rintro ((a|a)|a)
   ·exact .inl (.inl a)
   ·exact .inr a
   ·exact .inl (.inr a)
theorem insR_len (out:List Int) (x:Int):(insR out x).length ≤ out.length + 1:=by
 unfold insR
 have:=insAt_le out x
 split
 ·omega
 ·simp;omega
def risL (l:List Int):List Int:=l.foldl insR []
theorem risL_app (l:List Int) (x:Int):risL (l ++ [x]) = insR (risL l) x:=by simp [risL]
theorem risL_next {l:List Int} {i:Nat} (h:i < l.length):risL (l.take (i + 1)) = insR (risL (l.take i)) (l.getD i 0):=by
 rw [List.take_succ_eq_append_getElem h,risL_app];simp [List.getD,h]
theorem foldR_mem (l:List Int):∀ (o:List Int) (z:Int),z ∈ l.foldl insR o ↔ z ∈ o ∨ z ∈ l:=by
 induction l with
 | nil => simp
 | cons a r ih =>
  intro o z
  rw [List.foldl_cons,ih,insR_mem]
  simp only [List.mem_cons]
  constructor
  ·rintro ((a|a)|a)
   ·exact .inl a
   ·exact .inr (.inl a)
   ·exact .inr (.inr a)
  ·rintro (a|a|a)
   ·exact .inl (.inl a)
   ·exact .inl (.inr a)
   ·exact .inr a
theorem risL_mem (l:List Int) (z:Int):z ∈ risL l ↔ z ∈ l:=by
 unfold risL;rw [foldR_mem];simp
theorem foldR_len (l:List Int):∀ (o:List Int),(l.foldl insR o).length ≤ o.length + l.length:=by
 induction l with
 | nil => simp
 | cons a r ih =>
  intro o
  rw [List.foldl_cons]
  have:=ih (insR o a)
  have:=insR_len o a
  simp;omega
theorem risL_len (l:List Int):(risL l).length ≤ l.length:=by
 have:=foldR_len l []
 simpa [risL] using this
theorem row_eq {e:TypeId} {s:Nat} {d:AV} {es es2:List AV} (h:es = es2):some (Blk.row e s d es) = some (Blk.row e s d es2):=by rw [h]
set_option maxRecDepth 4000 in
set_option maxHeartbeats 4000000 in
theorem rising_pure (l:List Int) (hl:l.length ≤ 5000):Pure Tryz.prog 103 [imF l] (fun r => r = imF (risL l)):=by
 have hm:(l.map i64).length = l.length:=by simp
 refine pure_of_call ?_ (by simp [imF,fitA,fitL_map])
 refine Go.fnL lf103 rfl ?_
 unfold imF
 repeat' (first|((with_reducible refine Go.red ?_);conv => whnf)|refine aG ?_|exact aC|with_reducible refine Go.and ?_ ?_|(apply Go.elem;(·exact aElem))|refine aH ?_|((with_reducible refine Go.bool ?_ ?_) <;> intro hc <;> (try simp only [List.length_map,ne_eq,hcs] at hc) <;> try (exfalso;omega)))
 refine Go.loopF (fun σ:Nat × Nat × Nat => [(0,imF l),(3,.sl σ.2.1 σ.2.2),(4,i64 σ.1)])
  (fun σ H n => σ.1 ≤ l.length∧σ.2.1 < n∧σ.2.2 = (risL (l.take σ.1)).length∧∃ d,getH H σ.2.1 = some (.row 3 1 d ((risL (l.take σ.1)).map i64))) (fun σ => l.length - σ.1) (0,3,0) ⟨_,_,_,Rt.nil 3 3 1 (by omega) rfl,aLess,Nat.zero_le _,aNx,rfl,⟨_,aRow⟩⟩ ?_
 rintro ⟨i,b,bn⟩ H n ⟨hi,hb,hbn,d,r⟩
 dsimp only at hi hb hbn r ⊢
 subst hbn
 unfold imF
 by_cases hil:i < l.length
 ·have ei:=fun d => int_at hil d
  have hnx:=risL_next hil
  have hol:=risL_len (l.take i)
  rw [List.length_take] at hol
  generalize hx:l.getD i 0 = x at *
  generalize risL (l.take i) = out at *
  have hom:(out.map i64).length = out.length:=by simp
  repeat' (first|((with_reducible refine Go.red ?_);conv => whnf)|refine aG ?_|exact aCn|with_reducible refine Go.and ?_ ?_|((with_reducible refine Ask.mk ?_);first|exact aAsk|(exact hm)|(exact hom)|exact aAsk2)|(apply Go.elem;(·(first|exact ei _|exact aElem)))|refine aH ?_|((with_reducible refine Go.bool ?_ ?_) <;> intro hc <;> (try simp only [List.length_map,ne_eq,hcs] at hc) <;> try (exfalso;omega)))
  refine Go.loop (fun p:Nat => [(0,imF l),(3,.sl b out.length),(4,i64 i),(5,i64 p)])
   (fun p H n2 => n ≤ n2∧p ≤ out.length∧(∀ j,j < p→out.getD j 0 < x)∧∃ d,getH H b = some (.row 3 1 d (out.map i64))) (fun p => out.length - p) 0 aLess ⟨aNx,Nat.zero_le _,fun j hj => by omega,_,aRow⟩ ?_
  clear r
  rintro p H2 n2 ⟨hn2,hp,hlt,d,r⟩
  unfold imF
  by_cases hpl:p < out.length
  ·have ep:=fun d => int_at hpl d
   by_cases hlx:out.getD p 0 < x
   ·repeat' (first|((with_reducible refine Go.red ?_);conv => whnf)|refine aG ?_|exact aCn|with_reducible refine Go.and ?_ ?_|((with_reducible refine Ask.mk ?_);first|exact aAsk|(exact hm)|(exact hom)|exact aAsk2)|(apply Go.elem;(·(first|exact ei _|exact ep _|exact aElem)))|refine aH ?_|((with_reducible refine Go.bool ?_ ?_) <;> intro hc <;> (try simp only [List.length_map,ne_eq,hcs] at hc) <;> try (exfalso;omega)))
    exact ⟨p + 1,by omega,aLess,aNx,by omega,fun j hj => by
     by_cases e:j = p
     ·rw [e];exact hlx
     ·exact hlt j (by omega),_,aRow⟩
   ·have hat:=insAt_eq hp hlt (.inr hlx)
    by_cases hex:out.getD p 0 = x
    ·have hin:insR out x = out:=by unfold insR;rw [hat,if_pos ⟨hpl,hex⟩]
     repeat' (first|((with_reducible refine Go.red ?_);conv => whnf)|refine aG ?_|exact aCn|with_reducible refine Go.and ?_ ?_|((with_reducible refine Ask.mk ?_);first|exact aAsk|(exact hm)|(exact hom)|exact aAsk2)|(apply Go.elem;(·(first|exact ei _|exact ep _|exact aElem)))|refine aH ?_|((with_reducible refine Go.bool ?_ ?_) <;> intro hc <;> (try simp only [List.length_map,ne_eq,hcs] at hc) <;> try (exfalso;omega)))
     exact ⟨(i + 1,b,out.length),by dsimp only;omega,_,_,_,Rt.refl _ _ _,aLess,by dsimp only;omega,aNx,by dsimp only;rw [hnx,hin],⟨_,by dsimp only;rw [hnx,hin];exact aRow⟩⟩
    ·have hin:insR out x = out.take p ++ [x] ++ out.drop p:=by unfold insR;rw [hat,if_neg (fun h => hex h.2)]
     have htk:List.take ((p:Int).toNat - 0) (List.drop 0 (List.map i64 out)) = List.map i64 (out.take p):=by simp [List.map_take]
     have hdr:List.take (out.length - (p:Int).toNat) (List.drop (p:Int).toNat (List.map i64 out)) = List.map i64 (out.drop p):=by rw [Int.toNat_natCast,← List.map_drop,List.take_of_length_le (by simp)]
     repeat' (first|((with_reducible refine Go.red ?_);conv => whnf)|refine aG ?_|exact aCn|with_reducible refine Go.and ?_ ?_|((with_reducible refine Ask.mk ?_);first|exact aAsk|(exact hm)|(exact hom)|(simp [maxB] <;> omega)|exact aAsk2)|(apply Go.elem;(·(first|exact ei _|exact ep _|exact aElem)))|((with_reducible apply Go.gives);(·exact slc_sl (es:=List.map i64 out) aRow hom aEnd aEnd aIn))|refine aH ?_|((with_reducible refine Go.bool ?_ ?_) <;> intro hc <;> (try simp only [List.length_map,ne_eq,hcs] at hc) <;> try (exfalso;omega)))
     all_goals refine ⟨(i + 1,_,_),by dsimp only;omega,_,_,_,Rt.refl _ _ _,aLess,by dsimp only;omega,aNx,?_,⟨_,Eq.trans (b:=some (.row 3 1 _ _)) aRow (row_eq ?_)⟩⟩
     all_goals dsimp only
     all_goals rw [hnx,hin]
     ·simp;omega
     ·rw [htk,hdr,List.map_append,List.map_append];rfl
  ·have:p = out.length:=by omega
   subst this
   have hat:=insAt_eq (Nat.le_refl _) hlt (.inl rfl)
   have hin:insR out x = out ++ [x]:=by unfold insR;rw [hat,if_neg (fun h => Nat.lt_irrefl _ h.1)];simp
   have htk:List.take ((out.length:Int).toNat - 0) (List.drop 0 (List.map i64 out)) = List.map i64 out:=by rw [Int.toNat_natCast,Nat.sub_zero,List.drop_zero,List.take_of_length_le (by simp)]
   have hdr:List.take (out.length - (out.length:Int).toNat) (List.drop (out.length:Int).toNat (List.map i64 out)) = []:=by simp
   have hll:decide ((out.length:Int) < (out.length:Int)) = false:=by simp
   repeat' (first|((with_reducible refine Go.red ?_);conv => whnf)|refine aG ?_|exact aCn|with_reducible refine Go.and ?_ ?_|((with_reducible refine Ask.mk ?_);first|exact aAsk|(exact hm)|(exact hom)|(simp [maxB] <;> omega)|exact aAsk2)|(apply Go.elem;(·(first|exact ei _|exact aElem)))|(simp only [hll])|((with_reducible apply Go.gives);(·exact slc_sl (es:=List.map i64 out) aRow hom aEnd aEnd aIn))|refine aH ?_|((with_reducible refine Go.bool ?_ ?_) <;> intro hc <;> (try simp only [List.length_map,ne_eq,hcs] at hc) <;> try (exfalso;omega)))
   all_goals refine ⟨(i + 1,_,_),by dsimp only;omega,_,_,_,Rt.refl _ _ _,aLess,by dsimp only;omega,aNx,?_,⟨_,Eq.trans (b:=some (.row 3 1 _ _)) aRow (row_eq ?_)⟩⟩
   all_goals dsimp only
   all_goals rw [hnx,hin]
   ·simp
   ·rw [htk,hdr,List.map_append,List.append_nil];rfl
 ·have:i = l.length:=by omega
  subst this
  rw [List.take_length] at r ⊢
  repeat' (first|((with_reducible refine Go.red ?_);conv => whnf)|refine aG ?_|exact aCn|with_reducible refine Go.and ?_ ?_|((with_reducible refine Ask.mk ?_);first|exact aAsk|(exact hm)|exact aAsk2)|(apply Go.elem;(·exact aElem))|refine aH ?_|((with_reducible refine Go.bool ?_ ?_) <;> intro hc <;> (try simp only [List.length_map,ne_eq,hcs] at hc) <;> try (exfalso;omega)))
  exact ⟨(frz_sl aRow (by simp)).trans (by rw [frz_same _ (fit_ints _ _)])⟩
end Go.Proofs.YtmonponfppdgfaaGreatDoor
end
