import Derived.Test.YtflicfkgbjmffaaGreatM29
import Derived.Test.YtflicfkgbjmffaaGreatM30
import Derived.Test.YtflicfkgbjmffaaGreatM31
import Derived.Test.YtflicfkgbjmffaaGreatM24
import Derived.Test.YtflicfkgbjmffaaGreatM16
import Derived.Test.YtflicfkgbjmffaaGreatRows
section
/- The gathering at its place; an event is put, a writer comes. -/
namespace Go.Proofs.YtflicfkgbjmffaaGreat
open Go Go.Abs Go.Proofs V
set_option linter.unusedSimpArgs false
set_option linter.unusedVariables false
def SI (W:List (List Int)):List (List AV):=W.map (List.map i64)
theorem SI_get (W:List (List Int)) (q:Nat):(SI W).getD q [] = (W.getD q []).map i64:=by
 simp only [SI,List.getD,List.getElem?_map]
 cases W[q]? <;> rfl
theorem SI_set (W:List (List Int)) (q:Nat) (l:List Int):SI (W.set q l) = (SI W).set q (l.map i64):=by simp [SI,List.map_set]
theorem SI_len (W:List (List Int)):(SI W).length = W.length:=by simp [SI]
abbrev QI (b:Nat) (ids:List Nat) (W:List (List Int)) (H:Hp):Prop:=QAt 28 3 1 b ids (SI W) H
theorem QAt_same {te e:TypeId} {sz b:Nat} {ids:List Nat} {S:List (List AV)} {H:Hp} (h:QAt te e sz b ids S H) {H':Hp} {q:Nat} (hq:q < S.length) (l:List AV)
  (h1:∃ d es,getH H' b = some (.row te 1 d es)∧es = (qRow ids S).set q (.sl (ids.getD q 0) l.length)) (h2:∃ d es,getH H' (ids.getD q 0) = some (.row e sz d es)∧es = l)
  (h3:∀ j,j < S.length→j ≠ q→ids.getD j 0 ≠ b→ids.getD j 0 ≠ ids.getD q 0→getH H' (ids.getD j 0) = getH H (ids.getD j 0)):QAt te e sz b ids (S.set q l) H':=by
 have h4:=h.next hq l (.inl rfl) h1 h2 (fun j a1 a2 a3 a4 _ => h3 j a1 a2 a3 a4)
 have hqb:q < ids.length:=by rw [h.lens];exact hq
 have e:ids.getD q 0 = ids[q]:=by simp [List.getD,hqb]
 rw [e,List.set_getElem_self] at h4
 exact h4
theorem tell_suffix {te e:TypeId} {sz b q nx lo:Nat} {ids:List Nat} {S:List (List AV)} {H H0:Hp} {C:Hp→Nat→Prop} (hQ:QAt te e sz b ids S H0) (hq:q < S.length) (k:Nat) (hk:k ≤ (S.getD q []).length)
  (h1:∃ d es,getH H b = some (.row te 1 d es)∧es = (qRow ids S).set q (.sv (ids.getD q 0) (S.getD q []).length k ((S.getD q []).length - k)))
  (h3:∀ j,j < S.length→ids.getD j 0 ≠ b→ids.getD j 0 ∈ ids→getH H (ids.getD j 0) = getH H0 (ids.getD j 0)) (hlt:∀ x ∈ b :: ids,x < lo) (hlo:lo ≤ nx)
  (hC:∀ H2 m,lo ≤ m→QAt te e sz b (ids.set q m) (S.set q ((S.getD q []).drop k)) H2→(∀ y,y < lo→y ≠ b→y ≠ ids.getD q 0→getH H2 y = getH H y)→C H2 (m + 1)):∃ H2 nx2,Wk .any H nx .any H2 nx2∧C H2 nx2:=by
 obtain ⟨d,es,h1,he⟩:=h1
 obtain ⟨d2,h2⟩:=hQ.qs q hq
 have hmem:=getD_mem (l:=ids) (q:=q) (by rw [hQ.lens];exact hq)
 have hne:=hQ.ne hq
 have hl:es.length = S.length:=by rw [he,List.length_set,hQ.len]
 have hx:=hlt _ (List.mem_cons_of_mem b hmem)
 have hb:=hlt b (by simp)
 have h2':=(h3 q hq hne.symm hmem).trans h2
 have hfr:∀ y,y < lo→y ≠ b→y ≠ ids.getD q 0→getH ((nx,some (.row e sz .any ((S.getD q []).drop k))) :: (ids.getD q 0,none) :: (b,some (.row te 1 .any (es.set q (.sl nx ((S.getD q []).length - k))))) :: H) y = getH H y:=fun y m1 m2 m3 => by
  rw [getH_skipEq (by omega),getH_skipEq m3,getH_skipEq m2]
 refine ⟨_,_,Wk.suffix (lo:=k) (n:=(S.getD q []).length - k) h1 (q:=q) (by rw [hl];exact hq) (by rw [he,getD_set_self (by rw [hQ.len];exact hq)]) h2' rfl (by omega) hne.symm,hC _ nx hlo (hQ.next hq _ (.inr fun hm => by have:=hlt _ hm;omega) ⟨_,_,getH_skip (by omega) (getH_skip hne (getH_here _ _ _)),?_⟩ ⟨_,_,getH_here _ _ _,rfl⟩ (fun j hj hjq m1 m2 m3 => ?_)) hfr⟩
 ·rw [he,List.set_set,List.length_drop]
 ·have hjm:=getD_mem (l:=ids) (q:=j) (by rw [hQ.lens];exact hj)
  rw [hfr _ (hlt _ (List.mem_cons_of_mem b hjm)) m1 m2]
  exact h3 j hj m1 hjm
structure GLay where
 g:Nat
 fi:Nat
 ev:Nat
 fr:Nat
 af:Nat
 afs:List Nat
 w:Nat
 ws:List Nat
 la:Nat
 M:Lay
def GLay.own (L:GLay):List Nat:=L.g :: L.fi :: L.ev :: L.fr :: L.la :: ((L.af :: L.afs) ++ (L.w :: L.ws))
def GLay.ids (L:GLay):List Nat:=L.own ++ L.M.ids
abbrev gathAv (m nc n:Nat) (L:GLay) (many:Bool):AV:=.agg [.sl L.fi m,.sl L.ev n,.sl L.fr n,.sl L.af m,.pt L.M.m 1 0 0,.sl L.w nc,.sl L.la m,bl many]
structure GRow (m nc:Nat) (F:List Int) (g:GS) (L:GLay) (many:Bool) (H:Hp) (nx:Nat):Prop where
 row:∃ d,getH H L.g = some (.row 45 8 d [gathAv m nc g.ev.length L many])
 fi:∃ d,getH H L.fi = some (.row 2 1 d (F.map i64))
 ev:∃ d,getH H L.ev = some (.row 74 5 d (g.ev.map Deed.av))
 fr:∃ d,getH H L.fr = some (.row 3 1 d (g.frm.map i64))
 la:∃ d,getH H L.la = some (.row 3 1 d (g.last.map i64))
 af:QI L.af L.afs g.aft H
 w:QI L.w L.ws g.q H
 lf:g.frm.length = g.ev.length
 lF:F.length = m
 laf:g.aft.length = m
 lla:g.last.length = m
 lq:g.q.length = nc
 lt:∀ b ∈ L.ids,b < nx
 nodup:L.ids.Nodup
theorem GRow.keep {m nc:Nat} {F:List Int} {g:GS} {L:GLay} {many:Bool} {H H':Hp} {nx nx':Nat} (h:GRow m nc F g L many H nx) (hf:∀ b ∈ L.own,getH H' b = getH H b) (hn:nx ≤ nx'):GRow m nc F g L many H' nx':=by
 have hm:∀ b,b = L.g ∨ b = L.fi ∨ b = L.ev ∨ b = L.fr ∨ b = L.la→getH H' b = getH H b:=fun b hb => hf b (by rcases hb with rfl|rfl|rfl|rfl|rfl <;> simp [GLay.own])
 obtain ⟨d1,h1⟩:=h.row
 obtain ⟨d2,h2⟩:=h.fi
 obtain ⟨d3,h3⟩:=h.ev
 obtain ⟨d4,h4⟩:=h.fr
 obtain ⟨d5,h5⟩:=h.la
 exact ⟨⟨d1,(hm _ (by simp)).trans h1⟩,⟨d2,(hm _ (by simp)).trans h2⟩,⟨d3,(hm _ (by simp)).trans h3⟩,⟨d4,(hm _ (by simp)).trans h4⟩,⟨d5,(hm _ (by simp)).trans h5⟩,
  h.af.keep (fun x hx => hf x (by simp only [GLay.own,List.mem_cons,List.mem_append] at hx ⊢;rcases hx with hx|hx <;> simp [hx])),h.w.keep (fun x hx => hf x (by simp only [GLay.own,List.mem_cons,List.mem_append] at hx ⊢;rcases hx with hx|hx <;> simp [hx])),h.lf,h.lF,h.laf,h.lla,h.lq,fun b hb => Nat.lt_of_lt_of_le (h.lt b hb) hn,h.nodup⟩
structure GApart (L:GLay):Prop where
 a1:L.g ≠ L.fi
 a2:L.g ≠ L.ev
 a3:L.g ≠ L.fr
 a4:L.g ≠ L.la
 a5:L.fi ≠ L.ev
 a6:L.fi ≠ L.fr
 a7:L.fi ≠ L.la
 a8:L.ev ≠ L.fr
 a9:L.ev ≠ L.la
 b1:L.fr ≠ L.la
 af:∀ x ∈ L.af :: L.afs,L.g ≠ x∧L.fi ≠ x∧L.ev ≠ x∧L.fr ≠ x∧L.la ≠ x
 w:∀ x ∈ L.w :: L.ws,L.g ≠ x∧L.fi ≠ x∧L.ev ≠ x∧L.fr ≠ x∧L.la ≠ x
 aw:∀ x ∈ L.af :: L.afs,∀ y ∈ L.w :: L.ws,x ≠ y
 M:∀ x ∈ L.own,∀ y ∈ L.M.ids,x ≠ y
theorem GLay.apart {L:GLay} (h:L.ids.Nodup):GApart L:=by
 obtain ⟨h1,h2,h3⟩:=List.nodup_append.1 h
 simp only [GLay.own,List.nodup_cons,List.mem_cons,not_or] at h1
 obtain ⟨⟨a1,a2,a3,a4,x1⟩,⟨a5,a6,a7,x2⟩,⟨a8,a9,x3⟩,⟨b1,x4⟩,x5,x6⟩:=h1
 obtain ⟨y1,y2,y3⟩:=List.nodup_append.1 x6
 refine ⟨a1,a2,a3,a4,a5,a6,a7,a8,a9,b1,fun x hx => ?_,fun x hx => ?_,fun x hx y hy => y3 x hx y hy,fun x hx y hy => h3 x hx y hy⟩
 ·have hm:x ∈ (L.af :: L.afs) ++ (L.w :: L.ws):=List.mem_append_left _ hx
  exact ⟨fun e => x1 (e ▸ hm),fun e => x2 (e ▸ hm),fun e => x3 (e ▸ hm),fun e => x4 (e ▸ hm),fun e => x5 (e ▸ hm)⟩
 ·have hm:x ∈ (L.af :: L.afs) ++ (L.w :: L.ws):=List.mem_append_right _ hx
  exact ⟨fun e => x1 (e ▸ hm),fun e => x2 (e ▸ hm),fun e => x3 (e ▸ hm),fun e => x4 (e ▸ hm),fun e => x5 (e ▸ hm)⟩
section
variable {m nc:Nat} {F:List Int} {g:GS} {L:GLay} {H:Hp} {nx:Nat}
def Put (m nc:Nat) (F:List Int) (L:GLay) (H:Hp) (nx:Nat) (g':GS) (many:Bool) (r0:AV):AV→Hp→Nat→Prop:=fun r H' n => r = r0∧nx ≤ n∧GRow m nc F g' L many H' n∧∀ b,b < nx→b ∉ L.own→getH H' b = getH H b
theorem own_lt {many:Bool} (h:GRow m nc F g L many H nx):∀ b ∈ L.own,b < nx:=fun b hb => h.lt b (List.mem_append_left _ hb)
theorem own_six {b:Nat} (hb:b ∉ L.own):b ≠ L.g∧b ≠ L.fi∧b ≠ L.ev∧b ≠ L.fr∧b ≠ L.la∧b ≠ L.af∧b ∉ L.afs∧b ≠ L.w∧b ∉ L.ws:=by
 simp only [GLay.own,List.mem_cons,List.mem_append,not_or] at hb
 obtain ⟨h1,h2,h3,h4,h5,⟨h6,h7⟩,h8,h9⟩:=hb
 exact ⟨h1,h2,h3,h4,h5,h6,h7,h8,h9⟩
set_option maxHeartbeats 4000000 in
theorem put_many (h:GRow m nc F g L false H nx) (hn:64 ≤ g.ev.length) (d:Deed) (f:Int):CallN Tryz.prog 27 [.pt L.g 1 0 0,d.av,i64 f] H nx (Put m nc F L H nx g true (i64 0)):=by
 refine Go.fnL lf27 rfl ?_
 obtain ⟨d1,h1⟩:=h.row
 obtain ⟨d3,h3⟩:=h.ev
 have ap:=GLay.apart h.nodup
 obtain ⟨a1,a2,a3,a4,a5,a6,a7,a8,a9,b1,paf,pw,paw,pM⟩:=ap
 have l1:L.g < nx:=own_lt h _ (by simp [GLay.own])
 have l3:L.ev < nx:=own_lt h _ (by simp [GLay.own])
 repeat' (first|((with_reducible refine Go.red ?_);conv => whnf)|refine aG ?_|exact aCn|with_reducible refine Go.and ?_ ?_|((with_reducible refine Ask.mk ?_);first|exact aAsk|exact aAsk2|(intro h;simp_all [Deed.cells] <;> fail)|(simp_all [Deed.cells] <;> fail))|(apply Go.elem;(·exact aElem))|refine aH ?_|((with_reducible refine Go.bool ?_ ?_) <;> intro hc <;> (try simp only [List.length_map,ne_eq,hcs] at hc) <;> try (exfalso;omega)))
 refine ⟨⟨rfl,aNx,?_,fun b hb ho => ?_⟩⟩
 ·obtain ⟨d2,h2⟩:=h.fi
  obtain ⟨d4,h4⟩:=h.fr
  obtain ⟨d5,h5⟩:=h.la
  have l2:L.fi < nx:=own_lt h _ (by simp [GLay.own])
  have l4:L.fr < nx:=own_lt h _ (by simp [GLay.own])
  have l5:L.la < nx:=own_lt h _ (by simp [GLay.own])
  refine ⟨⟨_,aRow⟩,⟨_,aRow⟩,⟨_,aRow⟩,⟨_,aRow⟩,⟨_,aRow⟩,h.af.keep fun x hx => ?_,h.w.keep fun x hx => ?_,h.lf,h.lF,h.laf,h.lla,h.lq,fun b hb => Nat.lt_of_lt_of_le (h.lt b hb) aNx,h.nodup⟩
  ·have:=(paf x hx).1
   have hx2:x < nx:=own_lt h x (by simp only [GLay.own,List.mem_cons,List.mem_append] at hx ⊢;rcases hx with hx|hx <;> simp [hx])
   exact aSkip
  ·have:=(pw x hx).1
   have hx2:x < nx:=own_lt h x (by simp only [GLay.own,List.mem_cons,List.mem_append] at hx ⊢;rcases hx with hx|hx <;> simp [hx])
   exact aSkip
 ·have:=(own_six ho).1
  exact aSkip
set_option maxHeartbeats 4000000 in
theorem put_one (h:GRow m nc F g L false H nx) (hn:g.ev.length < 64) (d:Deed) (f:Int):CallN Tryz.prog 27 [.pt L.g 1 0 0,d.av,i64 f] H nx (Put m nc F L H nx (g.put d f) false (i64 g.ev.length)):=by
 refine Go.fnL lf27 rfl ?_
 obtain ⟨d1,h1⟩:=h.row
 obtain ⟨d3,h3⟩:=h.ev
 obtain ⟨d4,h4⟩:=h.fr
 have ap:=GLay.apart h.nodup
 obtain ⟨a1,a2,a3,a4,a5,a6,a7,a8,a9,b1,paf,pw,paw,pM⟩:=ap
 have l1:L.g < nx:=own_lt h _ (by simp [GLay.own])
 have l3:L.ev < nx:=own_lt h _ (by simp [GLay.own])
 have l4:L.fr < nx:=own_lt h _ (by simp [GLay.own])
 have hlf:=h.lf
 have hl3:(g.ev.map Deed.av).length = g.ev.length:=List.length_map _
 have hl4:(g.frm.map i64).length = g.ev.length:=by rw [List.length_map,hlf]
 repeat' (first|((with_reducible refine Go.red ?_);conv => whnf)|refine aG ?_|exact aCn|with_reducible refine Go.and ?_ ?_|((with_reducible refine Ask.mk ?_);first|exact aAsk|exact aAsk2|(intro h;simp_all [Deed.cells] <;> fail)|(simp_all [Deed.cells] <;> fail))|(apply Go.elem;(·exact aElem))|refine aH ?_|((with_reducible refine Go.bool ?_ ?_) <;> intro hc <;> (try simp only [List.length_map,ne_eq,hcs] at hc) <;> try (exfalso;omega)))
 refine ⟨⟨?_,aNx,?_,fun b hb ho => ?_⟩⟩
 ·show i64 (IntKind.i64.wrap (((g.ev.length + 1:Nat):Int) - 1)) = i64 g.ev.length
  rw [wrap64 (by omega) (by omega),show (((g.ev.length + 1:Nat):Int) - 1) = g.ev.length by omega]
 ·obtain ⟨d2,h2⟩:=h.fi
  obtain ⟨d5,h5⟩:=h.la
  have l2:L.fi < nx:=own_lt h _ (by simp [GLay.own])
  have l5:L.la < nx:=own_lt h _ (by simp [GLay.own])
  refine ⟨⟨_,(by rw [show (g.put d f).ev.length = g.ev.length + 1 by simp [GS.put]];exact aRow)⟩,⟨_,aRow⟩,⟨_,(by rw [show (g.put d f).ev.map Deed.av = g.ev.map Deed.av ++ [d.av] by simp [GS.put]];exact aRow)⟩,⟨_,(by rw [show (g.put d f).frm.map i64 = g.frm.map i64 ++ [i64 f] by simp [GS.put]];exact aRow)⟩,⟨_,aRow⟩,h.af.keep fun x hx => ?_,h.w.keep fun x hx => ?_,by simp [GS.put,h.lf],h.lF,h.laf,h.lla,h.lq,fun b hb => Nat.lt_of_lt_of_le (h.lt b hb) aNx,h.nodup⟩
  ·obtain ⟨x1,x2,x3,x4,x5⟩:=paf x hx
   have hx2:x < nx:=own_lt h x (by simp only [GLay.own,List.mem_cons,List.mem_append] at hx ⊢;rcases hx with hx|hx <;> simp [hx])
   exact aSkip
  ·obtain ⟨x1,x2,x3,x4,x5⟩:=pw x hx
   have hx2:x < nx:=own_lt h x (by simp only [GLay.own,List.mem_cons,List.mem_append] at hx ⊢;rcases hx with hx|hx <;> simp [hx])
   exact aSkip
 ·obtain ⟨x1,x2,x3,x4,_⟩:=own_six ho
  exact aSkip
theorem SI_row {b:Nat} {ids:List Nat} {W:List (List Int)} {H:Hp} (h:QI b ids W H) {q:Nat} (hq:q < W.length) (d:AV):(qRow ids (SI W)).getD q d = .sl (ids.getD q 0) (W.getD q []).length:=by
 rw [h.get (by rw [SI_len];exact hq),SI_get,List.length_map]
theorem SI_at {b:Nat} {ids:List Nat} {W:List (List Int)} {H:Hp} (h:QI b ids W H) {q:Nat} (hq:q < W.length):∃ d,getH H (ids.getD q 0) = some (.row 3 1 d ((W.getD q []).map i64)):=by
 obtain ⟨d,h1⟩:=h.qs q (by rw [SI_len];exact hq)
 exact ⟨d,by rw [h1,SI_get]⟩
theorem SI_in {b:Nat} {ids:List Nat} {W:List (List Int)} {H:Hp} (h:QI b ids W H) {q:Nat} (hq:q < W.length):ids.getD q 0 ∈ ids:=getD_mem (by rw [h.lens,SI_len];exact hq)
structure GCore (m nc:Nat) (F:List Int) (g:GS) (L:GLay) (many:Bool) (H:Hp) (nx:Nat):Prop where
 row:∃ d,getH H L.g = some (.row 45 8 d [gathAv m nc g.ev.length L many])
 fi:∃ d,getH H L.fi = some (.row 2 1 d (F.map i64))
 ev:∃ d,getH H L.ev = some (.row 74 5 d (g.ev.map Deed.av))
 fr:∃ d,getH H L.fr = some (.row 3 1 d (g.frm.map i64))
 la:∃ d,getH H L.la = some (.row 3 1 d (g.last.map i64))
 af:QI L.af L.afs g.aft H
 lf:g.frm.length = g.ev.length
 lF:F.length = m
 laf:g.aft.length = m
 lla:g.last.length = m
 lt:∀ b ∈ L.ids,b < nx
 nodup:L.ids.Nodup
theorem GRow.core {many:Bool} (h:GRow m nc F g L many H nx):GCore m nc F g L many H nx:=⟨h.row,h.fi,h.ev,h.fr,h.la,h.af,h.lf,h.lF,h.laf,h.lla,h.lt,h.nodup⟩
def CPut (m nc:Nat) (F:List Int) (L:GLay) (H:Hp) (nx:Nat) (g':GS):AV→Hp→Nat→Prop:=fun r H' n => r = .tup []∧nx ≤ n∧GCore m nc F g' L false H' n∧∀ b,b < nx→b ≠ L.af→b ≠ L.la→b ∉ L.afs→getH H' b = getH H b
set_option maxHeartbeats 4000000 in
theorem came_raw (h:GCore m nc F g L false H nx) {t:Nat} (ht:t < m) (k:Int) (hl:(g.a t).length < 1000000000):CallN Tryz.prog 28 [.pt L.g 1 0 0,i64 t,i64 k] H nx (CPut m nc F L H nx (g.came t k)):=by
 refine Go.fnL lf28 rfl ?_
 have hol:∀ b ∈ L.own,b < nx:=fun b hb => h.lt b (List.mem_append_left _ hb)
 obtain ⟨d1,h1⟩:=h.row
 obtain ⟨d2,h2⟩:=h.fi
 obtain ⟨d3,h3⟩:=h.ev
 obtain ⟨d4,h4⟩:=h.fr
 obtain ⟨d5,h5⟩:=h.la
 have ap:=GLay.apart h.nodup
 obtain ⟨a1,a2,a3,a4,a5,a6,a7,a8,a9,b1,paf,pw,paw,pM⟩:=ap
 have l1:L.g < nx:=hol _ (by simp [GLay.own])
 have l2:L.fi < nx:=hol _ (by simp [GLay.own])
 have l3:L.ev < nx:=hol _ (by simp [GLay.own])
 have l4:L.fr < nx:=hol _ (by simp [GLay.own])
 have l5:L.la < nx:=hol _ (by simp [GLay.own])
 have l6:L.af < nx:=hol _ (by simp [GLay.own])
 have htq:t < g.aft.length:=by rw [h.laf];exact ht
 have hms:=SI_in h.af htq
 have l7:L.afs.getD t 0 < nx:=hol _ (by simp only [GLay.own,List.mem_cons,List.mem_append];exact .inr (.inr (.inr (.inr (.inr (.inl (.inr hms)))))))
 obtain ⟨d6,h6⟩:=h.af.row
 obtain ⟨d7,h7⟩:=SI_at h.af htq
 have hgt:=SI_row h.af htq
 have hl6:(qRow L.afs (SI g.aft)).length = m:=by rw [h.af.len,SI_len,h.laf]
 have hl5:(g.last.map i64).length = m:=by rw [List.length_map,h.lla]
 have hll:=h.lla
 have hlr:(g.aft.getD t []).length < 1000000000:=hl
 have hee:∀ d,(g.last.map i64).getD ((t:Int)).toNat d = i64 (g.last.getD t 0):=fun d => getD_av i64 _ _ _ (by rw [hll];omega)
 have hne:=h.af.ne (q:=t) (by rw [SI_len];exact htq)
 obtain ⟨c1,c2,c3,c4,c5⟩:=paf L.af (by simp)
 obtain ⟨c6,c7,c8,c9,c10⟩:=paf _ (List.mem_cons_of_mem _ hms)
 repeat' (first|((with_reducible refine Go.red ?_);conv => whnf)|refine aG ?_|exact aC|with_reducible refine Go.and ?_ ?_|(apply Go.elem;(·(first|exact hgt _|exact hee _|exact aElem)))|refine aH ?_|((with_reducible refine Go.bool ?_ ?_) <;> intro hc <;> (try simp only [List.length_map,ne_eq,hcs] at hc) <;> try (exfalso;omega)))
 refine ⟨⟨rfl,aNx,⟨⟨_,aRow⟩,⟨_,aRow⟩,⟨_,aRow⟩,⟨_,aRow⟩,⟨_,(by rw [show (g.came t k).last.map i64 = (g.last.map i64).set ((t:Int)).toNat (i64 k) by simp [GS.came,List.map_set]];exact aRow)⟩,?_,h.lf,h.lF,by show (g.aft.set _ _).length = m;rw [List.length_set];exact h.laf,by show (g.last.set _ _).length = m;rw [List.length_set];exact h.lla,fun b hb => Nat.lt_of_lt_of_le (h.lt b hb) aNx,h.nodup⟩,fun b hb o1 o2 o3 => ?_⟩⟩
 ·show QAt _ _ 1 _ _ (SI (g.aft.set t (g.a t ++ [k]))) _
  rw [SI_set]
  refine QAt_same h.af (by rw [SI_len];exact htq) _ ⟨_,_,aRow,?_⟩ ⟨_,_,aRow,?_⟩ (fun j hj m1 m2 m3 => ?_)
  ·simp only [List.length_map,List.length_append,List.length_cons,List.length_nil,Int.toNat_natCast];rfl
  ·rw [List.map_append];rfl
  ·obtain ⟨x1,x2,x3,x4,x5⟩:=paf (L.afs.getD j 0) (List.mem_cons_of_mem _ (getD_mem (by rw [h.af.lens];exact hj)))
   have hx:=hol (L.afs.getD j 0) (by simp only [GLay.own,List.mem_cons,List.mem_append];exact .inr (.inr (.inr (.inr (.inr (.inl (.inr (getD_mem (by rw [h.af.lens];exact hj)))))))))
   exact aSkip
 ·have y1:b ≠ L.afs.getD t 0:=fun e => o3 (e ▸ hms)
  exact aSkip
theorem came_call (h:GRow m nc F g L false H nx) {t:Nat} (ht:t < m) (k:Int) (hl:(g.a t).length < 1000000000):CallN Tryz.prog 28 [.pt L.g 1 0 0,i64 t,i64 k] H nx (Put m nc F L H nx (g.came t k) false (.tup [])):=by
 refine (came_raw h.core ht k hl).mono ?_
 rintro r H' n ⟨rfl,hn,hc,hf⟩
 have ap:=GLay.apart h.nodup
 refine ⟨rfl,hn,⟨hc.row,hc.fi,hc.ev,hc.fr,hc.la,hc.af,h.w.keep fun x hx => ?_,hc.lf,hc.lF,hc.laf,hc.lla,h.lq,hc.lt,hc.nodup⟩,fun b hb ho => ?_⟩
 ·have hx2:x < nx:=own_lt h x (by simp only [GLay.own,List.mem_cons,List.mem_append] at hx ⊢;rcases hx with hx|hx <;> simp [hx])
  exact hf x hx2 (fun e => ap.aw L.af (by simp) x hx e.symm) (fun e => (ap.w x hx).2.2.2.2 e.symm) (fun hm => ap.aw x (List.mem_cons_of_mem _ hm) x hx rfl)
 ·obtain ⟨x1,x2,x3,x4,x5,x6,x7,x8,x9⟩:=own_six ho
  exact hf b hb x6 x5 x7
end
end Go.Proofs.YtflicfkgbjmffaaGreat
end
section
/- What objects and lists read as. -/
namespace Go.Proofs.YtflicfkgbjmffaaGreat.V
open Go Go.Abs Go.Proofs Go.RowKit Go.ChangeShapes Go.WideShapes Go.ChangeAt
theorem lit_wf64 {n:Int} (h:(Lit.int .i64 n).wf = true):wf64 n:=by
 simp only [Lit.wf,Bool.and_eq_true,decide_eq_true_eq] at h
 have e1:IntKind.i64.min = -9223372036854775808:=by decide
 have e2:IntKind.i64.max = 9223372036854775807:=by decide
 unfold wf64
 omega
theorem lit_wf8 {n:Int} (h:(Lit.int .u8 n).wf = true):0 ≤ n∧n < 256:=by
 simp only [Lit.wf,Bool.and_eq_true,decide_eq_true_eq] at h
 have e1:IntKind.u8.min = 0:=by decide
 have e2:IntKind.u8.max = 255:=by decide
 omega
theorem opens_instr:OpensC Tryz.prog 87 Instr.cells Instr.Wf:=by
 refine OpensC.map (α:=Int × Int × Int × Int × Int × Int × Int × Int × Int × Unit) (fun p => (⟨p.1,p.2.1,p.2.2.1,p.2.2.2.1,p.2.2.2.2.1,p.2.2.2.2.2.1,p.2.2.2.2.2.2.1,p.2.2.2.2.2.2.2.1,p.2.2.2.2.2.2.2.2.1⟩:Instr))
  (opens_struct (k:=9) Tryz.underlying87 (by kernel_rfl)
   (opensF_cons (k:=1) rfl (by kernel_rfl) (opens_int Tryz.underlying84) (opensF_cons (k:=1) rfl (by kernel_rfl) (opens_int Tryz.underlying85) (opensF_cons (k:=1) rfl (by kernel_rfl) (opens_int Tryz.underlying3) (opensF_cons (k:=1) rfl (by kernel_rfl) (opens_int Tryz.underlying3) (opensF_cons (k:=1) rfl (by kernel_rfl) (opens_int Tryz.underlying3) (opensF_cons (k:=1) rfl (by kernel_rfl) (opens_int Tryz.underlying3) (opensF_cons (k:=1) rfl (by kernel_rfl) (opens_int Tryz.underlying3) (opensF_cons (k:=1) rfl (by kernel_rfl) (opens_int Tryz.underlying2) (opensF_cons (k:=1) rfl (by kernel_rfl) (opens_int Tryz.underlying3) opensF_nil)))))))))) ?_ ?_
 ·intro a _;rfl
 ·intro a h
  obtain ⟨h1,h2,h3,h4,h5,h6,h7,h8,h9,_⟩:=h
  exact ⟨lit_wf8 h1,lit_wf8 h2,lit_wf64 h3,lit_wf64 h4,lit_wf64 h5,lit_wf64 h6,lit_wf64 h7,lit_wf64 h8,lit_wf64 h9⟩
theorem opens_ints {t e:TypeId} (ht:Tryz.prog.underlying t = some (.slice e)) (he:Tryz.prog.underlying e = some (.int .i64)) (hsz:Tryz.prog.cellsOf e = 1) (hb:Tryz.prog.bytesOf e = 8):OpensC Tryz.prog t (fun l:List Int => [.im 1 .any (l.map i64)]) (fun l => (∀ x ∈ l,wf64 x)∧l.length * 8 ≤ 140737488351232):=by
 refine (opens_slice (ag:=false) (sz:=1) .any ht hsz (by omega) (opens_int he) (fun _ => rfl) (fun _ _ => rfl) (fun _ => rfl)).map (fun l => l) (fun _ _ => rfl) ?_
 rintro l ⟨h1,h2⟩
 rw [hb] at h2
 exact ⟨fun x hx => lit_wf64 (h1 x hx),h2⟩
theorem opens_code:OpensC Tryz.prog 81 (fun l:List Instr => [.im 9 .any (l.map Instr.av)]) (fun l => (∀ x ∈ l,x.Wf)∧l.length * 64 ≤ 140737488351232):=by
 have hb:Tryz.prog.bytesOf 87 = 64:=by kernel_rfl
 refine (opens_slice (ag:=true) (sz:=9) .any Tryz.underlying81 (by kernel_rfl) (by omega) opens_instr (fun _ => rfl) (fun _ _ => rfl) (fun h => by cases h)).map (fun l => l) (fun _ _ => rfl) ?_
 rintro l ⟨h1,h2⟩
 rw [hb] at h2
 exact ⟨h1,h2⟩
theorem opens_core:OpensC Tryz.prog 83 Core.cells Core.Wf:=by
 refine OpensC.map (α:=ByteArray × List Instr × Unit) (fun p => (⟨p.1,p.2.1⟩:Core))
  (opens_struct (k:=2) Tryz.underlying83 (by kernel_rfl) (opensF_cons (k:=1) rfl (by kernel_rfl) (opens_string Tryz.underlying9) (opensF_cons (k:=1) rfl (by kernel_rfl) opens_code opensF_nil))) ?_ ?_
 ·intro a _;rfl
 ·intro a h
  exact ⟨h.1,h.2.1.1,h.2.1.2⟩
theorem opens_cores:OpensC Tryz.prog 23 (fun l:List Core => [.im 2 .any (l.map Core.av)]) (fun l => (∀ x ∈ l,x.Wf)∧l.length * 40 ≤ 140737488351232):=by
 have hb:Tryz.prog.bytesOf 83 = 40:=by kernel_rfl
 refine (opens_slice (ag:=true) (sz:=2) .any Tryz.underlying23 (by kernel_rfl) (by omega) opens_core (fun _ => rfl) (fun _ _ => rfl) (fun h => by cases h)).map (fun l => l) (fun _ _ => rfl) ?_
 rintro l ⟨h1,h2⟩
 rw [hb] at h2
 exact ⟨h1,h2⟩
theorem opens_obj:OpensC Tryz.prog 25 Obj.cells Obj.Wf:=by
 refine OpensC.map (α:=List Int × Int × Int × Int × List Core × Unit) (fun p => (⟨p.1,p.2.1,p.2.2.1,p.2.2.2.1,p.2.2.2.2.1⟩:Obj))
  (opens_struct (k:=5) Tryz.underlying25 (by kernel_rfl) (opensF_cons (k:=1) rfl (by kernel_rfl) (opens_ints Tryz.underlying22 Tryz.underlying2 (by kernel_rfl) (by kernel_rfl))
   (opensF_cons (k:=1) rfl (by kernel_rfl) (opens_int Tryz.underlying3) (opensF_cons (k:=1) rfl (by kernel_rfl) (opens_int Tryz.underlying3) (opensF_cons (k:=1) rfl (by kernel_rfl) (opens_int Tryz.underlying3) (opensF_cons (k:=1) rfl (by kernel_rfl) opens_cores opensF_nil)))))) ?_ ?_
 ·intro a _;rfl
 ·intro a h
  obtain ⟨⟨h1,h2⟩,h3,h4,h5,⟨h6,h7⟩,_⟩:=h
  exact ⟨h1,h2,lit_wf64 h3,lit_wf64 h4,lit_wf64 h5,h6,h7⟩
structure StepV where
 kind:Int
 core:Int
 deriving Inhabited,DecidableEq
def StepV.cells (s:StepV):List AV:=[u8 s.kind,i64 s.core]
abbrev StepV.av (s:StepV):AV:=.agg s.cells
@[simp] theorem fit_stepV (n:Nat) (i:StepV):fitL n i.cells:=by simp [StepV.cells,fitL,fitA]
structure StepV.Wf (s:StepV):Prop where
 kind:0 ≤ s.kind∧s.kind < 256
 core:wf64 s.core
theorem opens_stepV:OpensC Tryz.prog 49 StepV.cells StepV.Wf:=by
 refine OpensC.map (α:=Int × Int × Unit) (fun p => (⟨p.1,p.2.1⟩:StepV)) (opens_struct (k:=2) Tryz.underlying49 (by kernel_rfl) (opensF_cons (k:=1) rfl (by kernel_rfl) (opens_int Tryz.underlying47) (opensF_cons (k:=1) rfl (by kernel_rfl) (opens_int Tryz.underlying3) opensF_nil))) ?_ ?_
 ·intro a _;rfl
 ·intro a h;exact ⟨lit_wf8 h.1,lit_wf64 h.2.1⟩
theorem opens_steps:OpensC Tryz.prog 26 (fun l:List StepV => [.im 2 .any (l.map StepV.av)]) (fun l => (∀ x ∈ l,x.Wf)∧l.length * 16 ≤ 140737488351232):=by
 have hb:Tryz.prog.bytesOf 49 = 16:=by kernel_rfl
 refine (opens_slice (ag:=true) (sz:=2) .any Tryz.underlying26 (by kernel_rfl) (by omega) opens_stepV (fun _ => rfl) (fun _ _ => rfl) (fun h => by cases h)).map (fun l => l) (fun _ _ => rfl) ?_
 rintro l ⟨h1,h2⟩
 rw [hb] at h2
 exact ⟨h1,h2⟩
theorem own:ownKnob Tryz.prog.godebug = none:=by kernel_rfl
theorem laidOut:laidOutB Tryz.prog = true:=by kernel_rfl
end Go.Proofs.YtflicfkgbjmffaaGreat.V
end
