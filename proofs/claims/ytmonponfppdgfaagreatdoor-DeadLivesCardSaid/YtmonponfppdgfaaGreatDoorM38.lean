import Derived.Test.YtmonponfppdgfaaGreatDoorM37
import Derived.Test.YtmonponfppdgfaaGreatDoorM31
section
/- Units compared and copied: the walk. -/
namespace Go.Proofs.YtmonponfppdgfaaGreatDoor
open Go Go.Abs Go.Proofs
set_option linter.unusedSimpArgs false
set_option linter.unusedVariables false
theorem dec_at {l:List Decl} {i:Nat} (h:i < l.length) (d:AV):(l.map Decl.av).getD ((i:Int)).toNat d = (l.getD i default).av:=by rw [Int.toNat_natCast];exact getD_av Decl.av l i d h
theorem list_eq {α:Type} {l m:List α} (d:α) (hlm:l.length = m.length) (h:∀ j,j < l.length→l.getD j d = m.getD j d):l = m:=by
 refine List.ext_getElem hlm fun j h1 h2 => ?_
 have:=h j h1
 simpa [List.getD,h1,h2] using this
theorem beqB (a b:ByteArray):(a == b) = decide (a = b):=by
 obtain ⟨d⟩:=a
 obtain ⟨d'⟩:=b
 show (d == d') = _
 rw [Bool.eq_iff_iff]
 simp
theorem Decl.ext3 {a b:Decl} (h1:a.name = b.name) (h2:a.word = b.word) (h3:a.at_ = b.at_):a = b:=by
 obtain ⟨a1,a2,a3⟩:=a
 obtain ⟨b1,b2,b3⟩:=b
 simp only at h1 h2 h3
 subst h1;subst h2;subst h3;rfl
theorem Val.ext3 {a b:Val} (h1:a.isSlot = b.isSlot) (h2:a.slot = b.slot) (h3:a.word = b.word):a = b:=by
 obtain ⟨a1,a2,a3⟩:=a
 obtain ⟨b1,b2,b3⟩:=b
 simp only at h1 h2 h3
 subst h1;subst h2;subst h3;rfl
theorem Node.ext9 {a b:Node} (h1:a.kind = b.kind) (h2:a.op = b.op) (h3:a.slot = b.slot) (h4:a.thing = b.thing) (h5:a.a = b.a) (h6:a.b = b.b) (h7:a.next = b.next) (h8:a.els = b.els) (h9:a.origin = b.origin):a = b:=by
 obtain ⟨a1,a2,a3,a4,a5,a6,a7,a8,a9⟩:=a
 obtain ⟨b1,b2,b3,b4,b5,b6,b7,b8,b9⟩:=b
 simp only at h1 h2 h3 h4 h5 h6 h7 h8 h9
 subst h1;subst h2;subst h3;subst h4;subst h5;subst h6;subst h7;subst h8;subst h9;rfl
theorem Graph.ext4 {a b:Graph} (h1:a.name = b.name) (h2:a.locals = b.locals) (h3:a.slots = b.slots) (h4:a.nodes = b.nodes):a = b:=by
 obtain ⟨a1,a2,a3,a4⟩:=a
 obtain ⟨b1,b2,b3,b4⟩:=b
 simp only at h1 h2 h3 h4
 subst h1;subst h2;subst h3;subst h4;rfl
theorem fit_decls (l:List Decl):fitL 0 (l.map Decl.av):=(fitL_map _ _).2 fun _ _ => by simp [fitA,fitL,Decl.cells]
theorem fit_nodes (l:List Node):fitL 0 (l.map Node.av):=(fitL_map _ _).2 fun _ _ => by simp [fitA,fitL,Node.cells]
theorem fit_graphs (l:List Graph):fitL 0 (l.map Graph.av):=(fitL_map _ _).2 fun _ _ => by simp [fitA,fitL,Graph.cells,fit_nodes]
theorem cloneD_im {es:List AV} (hsz:es.length * 32 ≤ 140737488355328):CallN Tryz.prog 28 [.im 3 .any es] [] 0 (Cloned [] 0 48 3 es):=by
 refine Cloned.of (by omega) ?_
 refine Go.fnL lf28 rfl ?_
 cases hes:es with
 | nil =>
  repeat' (first|((with_reducible refine Go.red ?_);conv => whnf)|refine aG ?_|exact aC|with_reducible refine Go.and ?_ ?_|(apply Go.elem;(·exact aElem))|refine aH ?_|((with_reducible refine Go.bool ?_ ?_) <;> intro hc <;> (try simp only [List.length_map,ne_eq,hcs] at hc) <;> try (exfalso;omega)))
  ·exact ⟨.inl ⟨rfl,rfl,aNx,aKeep⟩⟩
  ·exact ⟨.inr ⟨_,_,rfl,aNx,aNx,aNx,aRow,aKeep⟩⟩
 | cons x t =>
  rw [hes] at hsz
  simp only [List.length_cons] at hsz
  repeat' (first|((with_reducible refine Go.red ?_);conv => whnf)|refine aG ?_|exact aC|with_reducible refine Go.and ?_ ?_|(apply Go.elem;(·exact aElem))|refine aH ?_|((with_reducible refine Go.bool ?_ ?_) <;> intro hc <;> (try simp only [List.length_map,ne_eq,hcs] at hc) <;> try (exfalso;omega)))
  ·exact ⟨.inr ⟨3,_,(by simp),aNx,aNx,aNx,aRow,aKeep⟩⟩
theorem cloneD_mk {es:List AV} (hsz:es.length * 32 ≤ 140737488355328):CallN Tryz.prog 28 [.im 3 .any es] [] 0 (fun r1 H1 _ => ∃ b d0,r1 = .sl b es.length∧getH H1 b = some (.row 48 3 d0 es)) :=
 (cloneD_im hsz).mono fun r H n ⟨b,d,h1,_,_,_,h2,_⟩ => ⟨b,d,h1,h2⟩
theorem cloneD_pure (l:List Decl) (hl:l.length * 32 ≤ 140737488351232):Pure Tryz.prog 28 [declsAv l] (fun r => r = declsAv l):=by
 refine pure_im (by rw [fitA];exact fit_decls l) ((cloneD_mk (es:=l.map Decl.av) (by rw [List.length_map];omega)).mono ?_)
 rintro r H n ⟨b,d0,rfl,hb⟩
 right
 rw [frz_sl hb (by simp),frz_same _ (fit_decls l)]
set_option maxRecDepth 4000 in
set_option maxHeartbeats 4000000 in
theorem eqDecls_pure (l m:List Decl) (hl:l.length * 32 ≤ 140737488351232) (hm:m.length * 32 ≤ 140737488351232):Pure Tryz.prog 59 [declsAv l,declsAv m] (fun r => r = bl (decide (l = m))):=by
 refine Go.pureL lf59 rfl ?_
 repeat' (first|((with_reducible refine Go.red ?_);conv => whnf)|refine aG ?_|exact aC|with_reducible refine Go.and ?_ ?_|(apply Go.elem;(·exact aElem))|refine aH ?_|((with_reducible refine Go.bool ?_ ?_) <;> intro hc <;> (try simp only [List.length_map,ne_eq,hcs] at hc) <;> try (exfalso;omega)))
 ·refine bl_eq (Eq.symm ?_)
  exact decide_eq_false fun e => hc (by rw [e])
 ·have hlm:l.length = m.length:=by omega
  refine Go.loop (fun i:Nat => [(0,declsAv l),(1,declsAv m),(12,i64 l.length),(13,i64 i)])
   (fun i H n => i ≤ l.length∧∀ j,j < i→l.getD j default = m.getD j default) (fun i => l.length - i) 0 aLess ⟨Nat.zero_le _,fun _ h => by omega⟩ ?_
  rintro i H n ⟨hi,hall⟩
  by_cases hil:i < l.length
  ·have e1:=fun d => dec_at (l:=l) hil d
   have e2:=fun d => dec_at (l:=m) (i:=i) (by omega) d
   repeat' (first|((with_reducible refine Go.red ?_);conv => whnf)|refine aG ?_|exact aCn|with_reducible refine Go.and ?_ ?_|((with_reducible refine Ask.mk ?_);first|exact aAsk|exact aAsk2|(intro h;simp_all [Decl.cells] <;> fail)|(simp_all [Decl.cells] <;> fail))|(apply Go.elem;(·(first|exact e1 _|exact e2 _|exact aElem)))|refine aH ?_|((with_reducible refine Go.bool ?_ ?_) <;> intro hc <;> (try simp only [List.length_map,ne_eq,hcs] at hc) <;> try (exfalso;omega)))
   ·refine bl_eq (Eq.symm ?_)
    refine decide_eq_false fun e => ?_
    rw [e] at hc
    simp [beqB] at hc
   ·refine ⟨i + 1,by omega,aLess,by omega,fun j hj => ?_⟩
    by_cases hji:j = i
    ·subst hji
     obtain ⟨h1,h2,h3,_⟩:=hc
     rw [beqB,decide_eq_true_eq] at h1
     exact Decl.ext3 h1 h2 h3
    ·exact hall j (by omega)
  ·have:i = l.length:=by omega
   subst this
   repeat' (first|((with_reducible refine Go.red ?_);conv => whnf)|refine aG ?_|exact aC|with_reducible refine Go.and ?_ ?_|(apply Go.elem;(·exact aElem))|refine aH ?_|((with_reducible refine Go.bool ?_ ?_) <;> intro hc <;> (try simp only [List.length_map,ne_eq,hcs] at hc) <;> try (exfalso;omega)))
   refine bl_eq (Eq.symm ?_)
   exact decide_eq_true (list_eq default hlm hall)
set_option maxRecDepth 4000 in
set_option maxHeartbeats 8000000 in
theorem eqNodes_pure (l m:List Node) (hl:l.length * 88 ≤ 140737488351232) (hm:m.length * 88 ≤ 140737488351232):Pure Tryz.prog 62 [nodesAv l,nodesAv m] (fun r => r = bl (decide (l = m))):=by
 refine Go.pureL lf62 rfl ?_
 repeat' (first|((with_reducible refine Go.red ?_);conv => whnf)|refine aG ?_|exact aC|with_reducible refine Go.and ?_ ?_|(apply Go.elem;(·exact aElem))|refine aH ?_|((with_reducible refine Go.bool ?_ ?_) <;> intro hc <;> (try simp only [List.length_map,ne_eq,hcs] at hc) <;> try (exfalso;omega)))
 ·refine bl_eq (Eq.symm ?_)
  exact decide_eq_false fun e => hc (by rw [e])
 ·have hlm:l.length = m.length:=by omega
  refine Go.loop (fun i:Nat => [(0,nodesAv l),(1,nodesAv m),(12,i64 l.length),(13,i64 i)])
   (fun i H n => i ≤ l.length∧∀ j,j < i→l.getD j default = m.getD j default) (fun i => l.length - i) 0 aLess ⟨Nat.zero_le _,fun _ h => by omega⟩ ?_
  rintro i H n ⟨hi,hall⟩
  by_cases hil:i < l.length
  ·have e1:=fun d => nd_at (l:=l) hil d
   have e2:=fun d => nd_at (l:=m) (i:=i) (by omega) d
   repeat' (first|((with_reducible refine Go.red ?_);conv => whnf)|refine aG ?_|exact aCn|with_reducible refine Go.and ?_ ?_|((with_reducible refine Ask.mk ?_);first|exact aAsk|exact aAsk2|(intro h;simp_all [Node.cells] <;> fail)|(simp_all [Node.cells] <;> fail))|(apply Go.elem;(·(first|exact e1 _|exact e2 _|exact aElem)))|refine aH ?_|((with_reducible refine Go.bool ?_ ?_) <;> intro hc <;> (try simp only [List.length_map,ne_eq,hcs] at hc) <;> try (exfalso;omega)))
   ·refine bl_eq (Eq.symm ?_)
    refine decide_eq_false fun e => ?_
    rw [e] at hc
    simp at hc
   ·refine ⟨i + 1,by omega,aLess,by omega,fun j hj => ?_⟩
    by_cases hji:j = i
    ·subst hji
     obtain ⟨h1,h2,h3,h4,h5,h6,h7,h8,h9,h10,h11,h12,h13,_⟩:=hc
     exact Node.ext9 h1 h2 h3 h4 (Val.ext3 (by simpa using h5) h6 h7) (Val.ext3 (by simpa using h8) h9 h10) h11 h12 h13
    ·exact hall j (by omega)
  ·have:i = l.length:=by omega
   subst this
   repeat' (first|((with_reducible refine Go.red ?_);conv => whnf)|refine aG ?_|exact aC|with_reducible refine Go.and ?_ ?_|(apply Go.elem;(·exact aElem))|refine aH ?_|((with_reducible refine Go.bool ?_ ?_) <;> intro hc <;> (try simp only [List.length_map,ne_eq,hcs] at hc) <;> try (exfalso;omega)))
   refine bl_eq (Eq.symm ?_)
   exact decide_eq_true (list_eq default hlm hall)
theorem eqGraph_pure (a b:Graph) (ha:a.Wf) (hb:b.Wf):Pure Tryz.prog 61 [a.av,b.av] (fun r => r = bl (decide (a = b))):=by
 have hla:=ha.len
 have hlb:=hb.len
 have hn:=eqNodes_pure a.nodes b.nodes hla hlb
 refine Go.pureL lf61 rfl ?_
 repeat' (first|((with_reducible refine Go.red ?_);conv => whnf)|refine aG ?_|exact aCn|with_reducible refine Go.and ?_ ?_|((with_reducible refine Ask.mk ?_);first|exact aAsk|exact aAsk2|(intro h;simp_all [Graph.cells] <;> fail)|(simp_all [Graph.cells] <;> fail))|(apply Go.elem;(·exact aElem))|refine aK (hn) ?_|refine aH ?_|((with_reducible refine Go.bool ?_ ?_) <;> intro hc <;> (try simp only [List.length_map,ne_eq,hcs] at hc) <;> try (exfalso;omega)))
 have key:decide (a = b) = (decide (a.name = b.name) && decide (a.locals = b.locals) && decide (a.slots = b.slots) && decide (a.nodes = b.nodes)):=by
  rw [Bool.eq_iff_iff]
  simp only [Bool.and_eq_true,decide_eq_true_eq]
  exact ⟨fun e => by rw [e];exact ⟨⟨⟨rfl,rfl⟩,rfl⟩,rfl⟩,fun ⟨⟨⟨h1,h2⟩,h3⟩,h4⟩ => Graph.ext4 h1 h2 h3 h4⟩
 refine bl_eq ?_
 rw [beqB,key]
 cases decide (a.name = b.name) <;> cases decide (a.locals = b.locals) <;> cases decide (a.slots = b.slots) <;> rfl
theorem eqGraphs_pure (l m:List Graph) (hl:∀ g ∈ l,g.Wf) (hm:∀ g ∈ m,g.Wf) (hll:l.length * 56 ≤ 140737488351232) (hml:m.length * 56 ≤ 140737488351232):Pure Tryz.prog 60 [graphsAv l,graphsAv m,.fn (.func 61) [] []] (fun r => r = bl (decide (l = m))):=by
 refine Go.pureL lf60 rfl ?_
 repeat' (first|((with_reducible refine Go.red ?_);conv => whnf)|refine aG ?_|exact aC|with_reducible refine Go.and ?_ ?_|(apply Go.elem;(·exact aElem))|refine aH ?_|((with_reducible refine Go.bool ?_ ?_) <;> intro hc <;> (try simp only [List.length_map,ne_eq,hcs] at hc) <;> try (exfalso;omega)))
 ·refine bl_eq (Eq.symm ?_)
  exact decide_eq_false fun e => hc (by rw [e])
 ·have hlm:l.length = m.length:=by omega
  refine Go.loop (fun i:Nat => [(1,graphsAv m),(2,.fn (.func 61) [] []),(15,graphsAv l),(16,i64 l.length),(17,i64 i)])
   (fun i H n => i ≤ l.length∧∀ j,j < i→l.getD j default = m.getD j default) (fun i => l.length - i) 0 aLess ⟨Nat.zero_le _,fun _ h => by omega⟩ ?_
  rintro i H n ⟨hi,hall⟩
  by_cases hil:i < l.length
  ·have e1:=fun d => gr_at (l:=l) hil d
   have e2:=fun d => gr_at (l:=m) (i:=i) (by omega) d
   have hcmp:=eqGraph_pure (l.getD i default) (m.getD i default) (hl _ (getD_mem' default hil)) (hm _ (getD_mem' default (by omega)))
   by_cases heq:l.getD i default = m.getD i default
   ·rw [decide_eq_true heq] at hcmp
    repeat' (first|((with_reducible refine Go.red ?_);conv => whnf)|refine aG ?_|exact aCn|with_reducible refine Go.and ?_ ?_|((with_reducible refine Ask.mk ?_);first|exact aAsk|exact aAsk2|(intro h;simp_all [Graph.cells] <;> fail)|(simp_all [Graph.cells] <;> fail))|(apply Go.elem;(·(first|exact e1 _|exact e2 _|exact aElem)))|refine aK (hcmp) ?_|refine aH ?_|((with_reducible refine Go.bool ?_ ?_) <;> intro hc <;> (try simp only [List.length_map,ne_eq,hcs] at hc) <;> try (exfalso;omega)))
    refine ⟨i + 1,by omega,aLess,by omega,fun j hj => ?_⟩
    by_cases hji:j = i
    ·subst hji;exact heq
    ·exact hall j (by omega)
   ·rw [decide_eq_false heq] at hcmp
    repeat' (first|((with_reducible refine Go.red ?_);conv => whnf)|refine aG ?_|exact aCn|with_reducible refine Go.and ?_ ?_|((with_reducible refine Ask.mk ?_);first|exact aAsk|exact aAsk2|(intro h;simp_all [Graph.cells] <;> fail)|(simp_all [Graph.cells] <;> fail))|(apply Go.elem;(·(first|exact e1 _|exact e2 _|exact aElem)))|refine aK (hcmp) ?_|refine aH ?_|((with_reducible refine Go.bool ?_ ?_) <;> intro hc <;> (try simp only [List.length_map,ne_eq,hcs] at hc) <;> try (exfalso;omega)))
    refine bl_eq (Eq.symm ?_)
    exact decide_eq_false fun e => heq (by rw [e])
  ·have:i = l.length:=by omega
   subst this
   repeat' (first|((with_reducible refine Go.red ?_);conv => whnf)|refine aG ?_|exact aC|with_reducible refine Go.and ?_ ?_|(apply Go.elem;(·exact aElem))|refine aH ?_|((with_reducible refine Go.bool ?_ ?_) <;> intro hc <;> (try simp only [List.length_map,ne_eq,hcs] at hc) <;> try (exfalso;omega)))
   refine bl_eq (Eq.symm ?_)
   exact decide_eq_true (list_eq default hlm hall)
theorem UnitS.ext3 {a b:UnitS} (h1:a.shared = b.shared) (h2:a.locks = b.locks) (h3:a.graphs = b.graphs):a = b:=by
 obtain ⟨a1,a2,a3⟩:=a
 obtain ⟨b1,b2,b3⟩:=b
 simp only at h1 h2 h3
 subst h1;subst h2;subst h3;rfl
theorem cfgSame_pure (u v:UnitS) (hu:u.Wf) (hv:v.Wf):Pure Tryz.prog 36 [u.av,v.av] (fun r => r = bl (decide (u = v))):=by
 have h1:=eqDecls_pure u.shared v.shared hu.sharedlen hv.sharedlen
 have h2:=eqDecls_pure u.locks v.locks hu.lockslen hv.lockslen
 have h3:=eqGraphs_pure u.graphs v.graphs hu.graphs hv.graphs hu.graphslen hv.graphslen
 refine Go.pureL lf36 rfl ?_
 repeat' (first|((with_reducible refine Go.red ?_);conv => whnf)|refine aG ?_|exact aCn|with_reducible refine Go.and ?_ ?_|((with_reducible refine Ask.mk ?_);first|exact aAsk|exact aAsk2|(intro h;simp_all [UnitS.cells] <;> fail)|(simp_all [UnitS.cells] <;> fail))|(apply Go.elem;(·exact aElem))|refine aK (h1) ?_|refine aK (h2) ?_|refine aK (h3) ?_|refine aH ?_|((with_reducible refine Go.bool ?_ ?_) <;> intro hc <;> (try simp only [List.length_map,ne_eq,hcs] at hc) <;> try (exfalso;omega)))
 have key:decide (u = v) = (decide (u.shared = v.shared) && decide (u.locks = v.locks) && decide (u.graphs = v.graphs)):=by
  rw [Bool.eq_iff_iff]
  simp only [Bool.and_eq_true,decide_eq_true_eq]
  exact ⟨fun e => by rw [e];exact ⟨⟨rfl,rfl⟩,rfl⟩,fun ⟨⟨h1,h2⟩,h3⟩ => UnitS.ext3 h1 h2 h3⟩
 refine bl_eq ?_
 rw [key]
 cases decide (u.shared = v.shared) <;> cases decide (u.locks = v.locks) <;> rfl
end Go.Proofs.YtmonponfppdgfaaGreatDoor
end
